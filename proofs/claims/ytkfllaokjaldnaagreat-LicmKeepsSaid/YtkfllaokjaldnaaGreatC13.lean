import Derived.Test.YtkfllaokjaldnaaGreatC12
import Derived.Test.YtkfllaokjaldnaaGreatC11
import Derived.Test.YtkfllaokjaldnaaGreatProg
/-
  Part of the proof (texts GFrom, GChk, GOrder2, GRight, GRight2, GRight3, GFromW).
-/
set_option linter.unusedVariables false
set_option linter.unusedSimpArgs false
/-
 What goes to each node.
-/
namespace Go.Vw.G
open Go.Vw
def push (rows:List (List Nat)) (k i:Nat):List (List Nat):=rows.set k (rows.getD k []++[i])
def edges:List (List Nat)→Nat→List (Nat × Nat)
 | [],_=>[]
 | l::r,i=>l.map (·,i)++edges r (i+1)
def pushAll (rows:List (List Nat)) (es:List (Nat × Nat)):List (List Nat):=es.foldl (fun rows e=>push rows e.1 e.2) rows
def froms (g:List (List Nat)):List (List Nat):=pushAll (List.replicate g.length []) (edges g 0)
theorem push_length (rows:List (List Nat)) (k i:Nat):(push rows k i).length=rows.length:=by simp [push]
theorem KV : ∀ (es:List (Nat × Nat)) (rows:List (List Nat)),(pushAll rows es).length=rows.length
 | [],_=>rfl
 | e::es,rows=>by
  have:=KV es (push rows e.1 e.2);simpa [pushAll,push_length] using this
theorem pushAll_cons (rows:List (List Nat)) (k i:Nat) (es:List (Nat × Nat)):pushAll rows ((k,i)::es)=pushAll (push rows k i) es:=rfl
theorem froms_length (g:List (List Nat)):(froms g).length=g.length:=by simp [froms,KV]
theorem edges_drop (g:List (List Nat)) {i:Nat} (h:i<g.length):edges (g.drop i) i=g[i].map (·,i)++edges (g.drop (i+1)) (i+1):=by
 rw [List.drop_eq_getElem_cons h,edges]
theorem map_drop {l:List Nat} {k i:Nat} (h:k<l.length):(l.drop k).map (fun c=>(c,i))=(l[k],i)::(l.drop (k+1)).map (fun c=>(c,i)):=by
 rw [List.drop_eq_getElem_cons h]; rfl
def total (rows:List (List Nat)):Nat:=(rows.map List.length).sum
theorem total_set : ∀ (rows:List (List Nat)) (k:Nat) (r:List Nat),k<rows.length→total (rows.set k r)+(rows.getD k []).length=total rows+r.length
 | [],_,_,h=>by simp at h
 | x::xs,0,r,_=>by simp [total]; omega
 | x::xs,k+1,r,h=>by
  have:=total_set xs k r (by simpa using h);simp [total] at this ⊢; omega
theorem total_push {rows:List (List Nat)} {k i:Nat} (h:k<rows.length):total (push rows k i)=total rows+1:=by
 have:=total_set rows k (rows.getD k []++[i]) h;simp only [push,List.length_append,List.length_cons,List.length_nil] at this ⊢;omega
theorem row_le_total : ∀ (rows:List (List Nat)) (k:Nat),(rows.getD k []).length≤total rows
 | [],_=>by simp
 | x::xs,0=>by simp [total]
 | x::xs,k+1=>by
  have:=row_le_total xs k;simp [total] at this ⊢; omega
theorem total_rep (n:Nat):total (List.replicate n [])=0:=by
 induction n with
 | zero=>rfl
 | succ n ih=>simp [total,List.replicate_succ]
theorem edges_len {g:List (List Nat)} (h : ∀ l∈g,l.length≤128) : ∀ i,(edges g i).length≤128*g.length:=by
 induction g with
 | nil=>simp [edges]
 | cons l g ih =>
  intro i;have h1:=h l List.mem_cons_self;have h2:=ih (fun l hl=>h l (List.mem_cons_of_mem _ hl)) (i+1);simp [edges] at h2 ⊢; omega
end Go.Vw.G

/-
 The nearest dominators, turn by turn.
-/
namespace Go.Vw.G
open Go.Vw
def rankTo (n:Nat) (l:List Nat):Nat→List Nat
 | 0=>List.replicate n 0
 | k+1=>(rankTo n l k).set (l.getD k 0) k
theorem rankTo_len (n:Nat) (l:List Nat) : ∀ k,(rankTo n l k).length=n
 | 0=>by simp [rankTo]
 | k+1=>by simp [rankTo,rankTo_len n l k]
def meetF (rank:List Nat) (near:List Int):Nat→Int→Int→Option Int
 | 0,_,_=>none
 | f+1,a,b=>if a=b then some a else if 0≤a∧a<near.length∧0≤b∧b<near.length then
   (if rank.getD b.toNat 0<rank.getD a.toNat 0 then meetF rank near f (near.getD a.toNat 0) b else meetF rank near f a (near.getD b.toNat 0))
  else none
def pickF (rank:List Nat) (near:List Int) (F:Nat):List Nat→Int→Option Int
 | [],best=>some best
 | p::ps,best=>if near.getD p 0<0 then pickF rank near F ps best else if best<0 then pickF rank near F ps p else (meetF rank near F best p).bind (pickF rank near F ps)
def sweepF (rank:List Nat) (fr:List (List Nat)) (F:Nat):List Nat→List Int→Bool→Option (List Int × Bool)
 | [],near,t=>some (near,t)
 | n::ns,near,t=>(pickF rank near F (fr.getD n []) (-1)).bind fun b=>sweepF rank fr F ns (near.set n b) (t||decide (near.getD n 0≠b))
def chk (rank:List Nat) (fr:List (List Nat)) (F:Nat) (l:List Nat):Nat→List Int→Option (List Int)
 | 0,_=>none
 | f+1,near=>(sweepF rank fr F l near false).bind fun s=>if s.2 then chk rank fr F l f s.1 else some s.1
end Go.Vw.G

namespace Go.Vw
open Go.Proofs Go.RowKit
set_option maxRecDepth 10000
set_option maxHeartbeats 4000000
def Turned (xs ys:List Nat) (i:Nat):Prop := ∀ p,p<xs.length→ys[p]? = if p<i∨xs.length<p+i+1 then xs[xs.length-1-p]? else xs[p]?
theorem Turned.swap {xs ys:List Nat} {i j a b:Nat} (hl:ys.length=xs.length) (hij:i+j+1=xs.length) (hlt:i<j) (h:Turned xs ys i) (ha:ys[i]? = some a) (hb:ys[j]? = some b):Turned xs ((ys.set i b).set j a) (i+1):=by
 intro p hp;have hi:=h i (by omega);have hj:=h j (by omega);rw [if_neg (by omega)] at hi hj;have e1:xs.length-1-i=j:=by omega
 have e2:xs.length-1-j=i:=by omega
 rw [List.getElem?_set]
 by_cases h1:j=p
 ·subst h1;rw [if_pos rfl,if_pos (by simp; omega),if_pos (by omega),e2, ←hi,ha]
 ·rw [if_neg h1,List.getElem?_set]
  by_cases h2:i=p
  ·subst h2;rw [if_pos rfl,if_pos (by omega),if_pos (by omega),e1, ←hj,hb]
  ·rw [if_neg h2,h p hp]
   by_cases h3:p<i∨xs.length<p+i+1
   ·rw [if_pos h3,if_pos (by omega)]
   ·rw [if_neg h3,if_neg (by omega)]
theorem Turned.done {xs ys:List Nat} {i:Nat} (hl:ys.length=xs.length) (h:Turned xs ys i) (hi:xs.length≤2*i+1):ys=xs.reverse:=by
 refine List.ext_getElem? fun p => ?_
 by_cases hp:p<xs.length
 ·rw [List.getElem?_reverse hp,h p hp];split
  ·rfl
  ·have:xs.length-1-p=p:=by omega
   rw [this]
 ·rw [List.getElem?_eq_none (by omega),List.getElem?_eq_none (by simp; omega)]
theorem Reverse_v (S:Store) (o:Nat) (xs:List Nat) (hx:xs.length<2^40) (ho:S.get o=some (1,xs.map vnat)) :
  VCalls Tryz.prog 137 [.slice o 0 xs.length] S (fun r S'=>r = .tuple []∧S'=S.upd o (1,xs.reverse.map vnat)):=by
 refine jb (c:=jg Tryz.f137) Tryz.func137 rfl rfl (by simp [Tryz.ntmps137]) ?_;rw [Tryz.ntmps137];intro hwf;have hon:o<S.nx:=by
  rcases Nat.lt_or_ge o S.nx with h | h
  ·exact h
  ·rw [hwf.gone o h] at ho; cases ho
 have hold:=fun u => @jx S u [] o hon
 have hupd:=fun u c => @JD S u [] c o hon
 rw [WW ho];have hw:IntKind.i64.wrap ((xs.length:Int)-1)=(xs.length:Int)-1:=wrap_i64 (by omega) (by omega)
 repeat first|refine QG ?_|refine QY ?_ (r:=by conv=>lhs;simp[-List.map_set,QV,hold,hw])
 repeat refine QS ?_
 refine je [0,2,3] rfl (fun c σ S' => ∃ (i:Nat) (ys:List Nat),ys.length=xs.length∧i≤xs.length∧c=xs.length-i∧Turned xs ys i∧σ=[(0, .slice o 0 xs.length),(2,vnat i),(3,vint (xs.length-1-i))]∧S'=St S [(o,some (1,ys.map vnat))] []) xs.length ?_ ?_
 ·refine ⟨0,xs,rfl,by omega,rfl, ?_,by simp [Fr.only,Fr.look,vnat,vint],rfl⟩;intro p hp;rw [if_neg (by omega)]
 ·rintro c σ S' ⟨i,ys,hl,hi,rfl,hT,rfl,rfl⟩
  by_cases hlt:(i:Int)<(xs.length:Int)-1-i
  ·obtain ⟨j,hj⟩ : ∃ j:Nat,(xs.length:Int)-1-i=j:=⟨xs.length-1-i,by omega⟩
   rw [hj] at hlt ⊢;have hij:i<j:=by omega
   have hil:i<xs.length:=by omega
   have hjl:j<xs.length:=by omega
   have hiy:i<ys.length:=by omega
   have hjy:j<ys.length:=by omega
   have hw1:IntKind.i64.wrap ((i:Int)+1)=(i:Int)+1:=wrap_i64 (by omega) (by omega);have hw2:IntKind.i64.wrap ((j:Int)-1)=(j:Int)-1:=wrap_i64 (by omega) (by omega)
   repeat first|refine QG ?_|refine QY ?_ (r:=by conv=>lhs;simp[-List.map_set,QV,hold,hij])
   repeat refine QS ?_
   refine jP ((St S [(o,none)] [])) ((St S [(o,some (1,ys.map vnat))] [])) [21,25] rfl (by kernel_rfl) (by conv=>lhs; reduce) (by conv=>lhs; reduce) (by kernel_rfl) (by kernel_rfl) (jm (by simp [subU,shpU,subL,shpL])) (by conv=>lhs; simp [-List.map_set,QV,hold,hil,hjl,hiy,hjy]) ?_;refine jf rfl (by conv=>lhs;simp[-List.map_set,QV,hold,hil,hjl,hiy,hjy,hupd]) (jm (by simp [subU,shpU,subL,shpL])) ?_;refine QM (by conv=>lhs;simp[-List.map_set,QV,hold,hil,hjl,hiy,hjy]) ?_;refine jf rfl (by conv=>lhs;simp[-List.map_set,QV,hold,hil,hjl,hiy,hjy,hupd]) (jm (by simp [subU,shpU,subL,shpL])) ?_;refine QN ?_
   repeat first|refine QG ?_|refine QY ?_ (r:=by conv=>lhs;simp[-List.map_set,QV,hw1,hw2])
   exact again ⟨Nat.sub_lt_sub_left hil (Nat.lt_succ_self i),i+1,(ys.set i ys[j]).set j ys[i],by simp [hl],by omega,rfl,hT.swap hl (by omega) hij (by simp [hiy]) (by simp [hjy]),by simp [Fr.only,Fr.look,vnat,vint]; omega,by simp [vnat]⟩
  ·have hlt' : ¬ ((i:Int)<(xs.length:Int)-1-i):=hlt
   repeat first|refine QG ?_|refine QY ?_ (r:=by conv=>lhs;simp[-List.map_set,QV,hlt'])
   have:=hT.done hl (by omega);refine Kd hwf rfl rfl (by simp [Kz,jaJ,jaf]) ?_ ⟨rfl,rfl⟩;simp only [gcU,gcE,Option.map_some,ZH,this];exact jck hwf hon
theorem gOrder_v (g:List (List Nat)) (hg:G.Ok g) (f:Nat) (fin:G.WS) (hw:G.walk g (f+1) 0 (List.replicate g.length false,[])=some fin) (hs:fin.2.length≤2^30) :
  VPure Tryz.prog 110 [vl (vl vnat) g] (vl vnat fin.2.reverse):=by
 intro S;refine jb (c:=jg Tryz.f110) Tryz.func110 rfl rfl (by simp [Tryz.ntmps110]) ?_;rw [Tryz.ntmps110];intro hwf;have hp:0<g.length:=hg.pos;have hm256:=hg.max;have hb1:g.length*1≤140737488355328:=by omega
 have hb8:g.length*8≤140737488355328:=by omega
 have hb0:g.length≤140737488355328:=by omega
 repeat first|refine QG ?_|refine QY ?_ (r:=by conv=>lhs;simp[-List.map_set,QV,hp,hb1,hb8,hb0])
 refine zr 6 1 rfl (by conv=>lhs; simp [Fr.set]) ?_
 repeat first|refine QG ?_|refine QY ?_
 repeat refine QS ?_
 refine je [0,3,4,5,6] rfl (fun c σ S' => ∃ met next stack out,G.At g f fin met next stack out∧c=2*G.unmet met+stack.length∧σ=[(0,vl (vl vnat) g),(3, .slice (lid S.nx 0) 0 g.length),(4, .slice (lid S.nx 1) 0 g.length),(5, .slice (lid S.nx 2) 0 stack.length),(6, .slice (lid S.nx 3) 0 out.length)]∧S'=St S [] [some (1,met.map V.bool),some (1,next.map vnat),some (1,stack.map vnat),some (1,out.map vnat)]) (2*G.unmet ((List.replicate g.length false).set 0 true)+1) ?_ ?_
 ·exact ⟨_,_,_,_,G.At.start hg hw,rfl,by simp [Fr.only,Fr.look],by simp [List.map_set,vnat]⟩
 ·rintro c σ S' ⟨met,next,stack,out,hA,rfl,rfl,rfl⟩;rcases List.eq_nil_or_concat stack with rfl | ⟨stack,n,rfl⟩
  ·repeat first|refine QG ?_|refine QY ?_
   repeat refine QS ?_
   refine QP ?_;refine ql rfl (Reverse_v _ (lid S.nx 3) out ?_ ?_) ?_
   ·have:=hA.out_le; omega
   ·simp [jT]
   rintro X S2 ⟨rfl,rfl⟩;rw [JT (by simp)];refine QW ?_
   repeat first|refine QG ?_|refine QY ?_
   have:=hA.done; subst this;exact ji (l:=[_,_,_,none]) hwf ((frz1 (by simp) (by simp) (by simp [vnat,V.closed1]) (by simp)).toB _) rfl
  ·rw [List.concat_eq_append] at hA ⊢;have hlen:(stack++[n]).length=stack.length+1:=by simp
   have hn:n<g.length:=hA.lt n (by simp);have hw1:IntKind.i64.wrap ((stack.length:Int)+1-1)=(stack.length:Int):=by
    rw [wrap_i64 (by have:=hA.out_le; simp at this; omega) (by have:=hA.out_le; simp at this; omega)]; omega
   have hsl:=hA.out_le;have hw2:IntKind.i64.wrap (stack.length:Int)=(stack.length:Int):=wrap_i64 (by omega) (by simp at hsl; omega);have h0:(0:Int)<(stack.length:Int)+1:=by omega
   have h1:(stack.length:Int)<(stack.length:Int)+1:=by omega
   repeat first|refine QG ?_|refine QY ?_ (r:=by conv=>lhs;simp[-List.map_set,QV,hw1,hw2,h0,h1])
   repeat refine QS ?_
   refine je [0,3,4,5,6,7] rfl (fun c σ S' => ∃ next',G.At g f fin met next' (stack++[n]) out∧c=(g.getD n []).length-next'.getD n 0∧σ=[(0,vl (vl vnat) g),(3, .slice (lid S.nx 0) 0 g.length),(4, .slice (lid S.nx 1) 0 g.length),(5, .slice (lid S.nx 2) 0 (stack.length+1)),(6, .slice (lid S.nx 3) 0 out.length),(7,vnat n)]∧S'=St S [] [some (1,met.map V.bool),some (1,next'.map vnat),some (1,(stack++[n]).map vnat),some (1,out.map vnat)]) ((g.getD n []).length-next.getD n 0) ?_ ?_
   ·exact ⟨next,hA,rfl,by simp [Fr.only,Fr.look,vnat],by simp [vnat]⟩
   ·rintro c σ S' ⟨nx,hB,rfl,rfl,rfl⟩;have hrow:g[n]? = some g[n]:=by simp [hn]
    have hkn:n<nx.length:=by rw [hB.ln]; exact hn
    obtain ⟨k,hke⟩ : ∃ k,nx[n]=k:=⟨_,rfl⟩
    have hk:nx[n]? = some k:=by simp [hkn,hke]
    have ek:nx.getD n 0=k:=by simp [List.getD_eq_getElem?_getD,hk]
    have er:g.getD n []=g[n]:=by simp [hn]
    have hrm:g[n]∈g:=List.getElem_mem hn;have hr128:=hg.row _ hrm
    by_cases hlt:k<g[n].length
    ·have hc:g[n][k]? = some g[n][k]:=by simp [hlt]
     have hcl:g[n][k]<g.length:=hg.elt _ hrm _ (List.getElem_mem hlt);have hcm:g[n][k]<met.length:=by rw [hB.lm]; exact hcl
     obtain ⟨b,hbe⟩ : ∃ b,met[g[n][k]]=b:=⟨_,rfl⟩
     have hb:met[g[n][k]]? = some b:=by simp [hcm,hbe]
     have hwk:IntKind.i64.wrap ((k:Int)+1)=(k:Int)+1:=wrap_i64 (by omega) (by omega);have hset:(nx.set n (k+1)).getD n 0=k+1:=G.getD_set_self' hkn
     cases b with
     | true =>
      repeat first|refine QG ?_|refine QY ?_ (r:=by conv=>lhs;simp[-List.map_set,QV,hn,hke,hlt,hcl,hbe,hwk,hkn,hcm])
      have:=hB.seen' hrow hk hc hb;show jz _ _ _ _ _ _ _;exact again ⟨by rw [hset,ek,er]; omega,_,this,rfl,by simp [Fr.only,Fr.look,vnat],by simp [vnat]⟩
     | false =>
      have hP:=hB.push' hg hrow hk hc hb;have hPl:=hP.out_le;simp only [List.length_append,List.length_cons,List.length_nil] at hPl;have hc8:(stack.length+1+1)*8≤140737488355328:=by omega
      have hc1:stack.length+1+1≤140737488355328:=by omega
      have hu:=G.unmet_set hcm hbe
      repeat first|refine QG ?_|refine QY ?_ (r:=by conv=>lhs;simp[-List.map_set,QV,hn,hke,hlt,hcl,hbe,hwk,hkn,hcm,hc8,hc1])
      refine QA [0,1,5,3] (h:=⟨?_,_,_,_,_,hP,rfl,by simp [vnat],by simp [vnat]⟩);simp; omega
    ·repeat refine QS ?_
     refine QD (r:=by conv=>lhs;simp[-List.map_set,QV,hn,hkn,hke,hlt]) (k:=?_);refine QN ?_
     repeat refine QS ?_
     refine jJ rfl rfl rfl ?_
     repeat refine QS ?_
     refine jV 2 rfl rfl ?_;have hle:(stack.length:Int)≤(stack.length:Int)+1:=by omega
     repeat refine QS ?_
     refine QY ?_ (r:=by conv=>lhs;simp[-List.map_set,QV,hw1,hw2,h0,h1,hle]);refine vw_trim 5 stack.length rfl (by simp) rfl (by conv=>lhs; simp [List.set_cons_zero,List.set_cons_succ]) ?_;have hP:=hB.pop' hrow hk hlt;have hPl:=hP.out_le;simp only [List.length_append,List.length_cons,List.length_nil] at hPl;have hc8:(out.length+1)*8≤140737488355328:=by omega
     have hc1:out.length+1≤140737488355328:=by omega
     repeat first|refine QG ?_|refine QY ?_ (r:=by conv=>lhs;simp[-List.map_set,QV,hc8,hc1])
     refine QA [0,1,2,5] (h:=⟨?_,_,_,_,_,hP,rfl,by simp [vnat],by simp [vnat]⟩);simp
end Go.Vw

namespace Go.Vw
open Go.Proofs Go.RowKit
set_option maxRecDepth 10000
set_option maxHeartbeats 4000000
theorem wild_v (g:List (List Int)) (n:Int):VPure Tryz.prog 139 [vint n, .ref (vl (vl vint) g)] (.bool (G.wild g.length n)):=by
 intro S;refine qV rfl ?_;refine qM (c:=jg Tryz.f139) Tryz.func139 rfl rfl (by simp [Tryz.ntmps139]) ?_;rw [Tryz.ntmps139]
 repeat refine QS ?_
 refine QY ?_
 by_cases h0:n<0
 ·repeat refine QS ?_
  refine QY ?_ (r:=by conv=>lhs;simp[-List.map_set,QV,jG,h0])
  repeat refine QS ?_
  refine jH rfl ?_;have:G.wild g.length n=true:=by simp [G.wild,h0]
  rw [this];exact Gives.same (Agree.refl S)
 ·repeat refine QS ?_
  refine QY ?_ (r:=by conv=>lhs;simp[-List.map_set,QV,jG,h0])
  repeat refine QS ?_
  refine jH rfl ?_;have:G.wild g.length n=decide ((g.length:Int)≤n):=by simp [G.wild,h0]
  rw [this];exact Gives.same (Agree.refl S)
theorem IndexWild_v (g:List (List Int)) (l:List Int) (hl:l.length<2^63):VPure Tryz.prog 84 [vl vint l, .func 139 [.ref (vl (vl vint) g)]] (vint (G.find (G.wild g.length) l 0)):=by
 intro S;refine qV rfl ?_;refine qM (c:=jg Tryz.f84) Tryz.func84 rfl rfl (by simp [Tryz.ntmps84]) ?_;rw [Tryz.ntmps84]
 repeat refine QS ?_
 refine QY ?_
 repeat refine QS ?_
 refine QY ?_ (r:=by conv=>lhs;simp[-List.map_set,QV,jG])
 repeat refine QS ?_
 refine jN 0 rfl rfl ?_
 repeat refine QS ?_
 refine je [0,1,7,8] rfl (fun n σ S' => ∃ (k:Nat),k≤l.length∧n=l.length-k∧G.find (G.wild g.length) (l.drop k) k=G.find (G.wild g.length) l 0∧σ=[(0,vl vint l),(1, .func 139 [.ref (vl (vl vint) g)]),(7,vnat l.length),(8,vnat k)]∧S'=S) l.length ?_ ?_
 ·exact ⟨0,by omega,rfl,rfl,by simp [Fr.only,Fr.look,vnat,vint],rfl⟩
 ·rintro n σ S' ⟨k,hk,rfl,hd,rfl,rfl⟩
  by_cases hk6:k<l.length
  ·have h7:(k:Int)<(l.length:Int):=by omega
   have hst:G.find (G.wild g.length) (l.drop k) k=if G.wild g.length l[k] then (k:Int) else G.find (G.wild g.length) (l.drop (k+1)) (k+1):=by
    rw [List.drop_eq_getElem_cons hk6,G.find]
   have hw:IntKind.i64.wrap ((k:Int)+1)=(k:Int)+1:=wrap_i64 (by omega) (by omega)
   repeat refine QS ?_
   refine QY ?_ (r:=by conv=>lhs;simp[-List.map_set,QV,h7])
   repeat refine QS ?_
   refine jF rfl rfl rfl ?_
   repeat refine QS ?_
   refine jE rfl ?_
   repeat refine QS ?_
   refine jN 1 rfl rfl ?_
   repeat refine QS ?_
   refine QY ?_
   repeat refine QS ?_
   refine QP ?_ (r:=by conv=>lhs;simp[-List.map_set,QV,qf,hk6]);refine zi rfl rfl rfl (wild_v g l[k]) ?_;refine QW ?_
   by_cases hc:G.wild g.length l[k]=true
   ·refine jF rfl rfl (by simp [ev,Fr.look,hc]) ?_
    repeat refine QS ?_
    refine QY ?_
    repeat refine QS ?_
    refine jH rfl ?_;rw [←hd,hst,if_pos hc];exact Gives.same (Agree.refl S')
   ·rw [if_neg hc] at hst;refine jJ rfl rfl (by simp [ev,Fr.look,hc]) ?_
    repeat refine QS ?_
    refine jE rfl ?_
    repeat refine QS ?_
    refine QY ?_ (r:=by conv=>lhs;simp[-List.map_set,QV,hw]);exact again ⟨Nat.sub_lt_sub_left (by omega) (Nat.lt_succ_self k),k+1,by omega,rfl,by rw [←hd,hst],by simp [Fr.only,Fr.look,vnat,vint],rfl⟩
  ·have h7 : ¬ (k:Int)<(l.length:Int):=by omega
   repeat refine QS ?_
   refine QY ?_ (r:=by conv=>lhs;simp[-List.map_set,QV,h7])
   repeat refine QS ?_
   refine jJ rfl rfl rfl ?_
   repeat refine QS ?_
   refine jV 0 rfl rfl ?_
   repeat refine QS ?_
   refine QY ?_
   repeat refine QS ?_
   refine jH rfl ?_;have:l.drop k=[]:=by rw [List.drop_eq_nil_iff]; omega
   rw [←hd,this];exact Gives.same (Agree.refl S')
theorem AnyWild_v (g:List (List Int)) (l:List Int) (hl:l.length<2^63):VPure Tryz.prog 32 [vl vint l, .func 139 [.ref (vl (vl vint) g)]] (.bool (l.any (G.wild g.length))):=by
 intro S;refine qV rfl ?_;refine qM (c:=jg Tryz.f32) Tryz.func32 rfl rfl (by simp [Tryz.ntmps32]) ?_;rw [Tryz.ntmps32];rw [←G.find_any (G.wild g.length) l 0]
 repeat refine QS ?_
 refine QY ?_
 repeat refine QS ?_
 refine QP ?_;refine jp rfl (IndexWild_v g l hl) ?_;refine QW ?_
 repeat refine QS ?_
 refine jH rfl ?_;exact Gives.same (Agree.refl S)
end Go.Vw

namespace Go.Vw
open Go.Proofs Go.RowKit
set_option maxRecDepth 10000
set_option maxHeartbeats 4000000
theorem Right_v (g:List (List Int)) (hg:g.length<2^63) (hl : ∀ l∈g,l.length<2^63):VPure Tryz.prog 113 [vl (vl vint) g] (.bool (G.right g)):=by
 intro S;refine qV rfl ?_;refine qM (c:=jg Tryz.f113) Tryz.func113 rfl rfl (by simp [Tryz.ntmps113]) ?_;rw [Tryz.ntmps113]
 repeat refine QS ?_
 refine QY ?_;refine jv 1 rfl (Ghost.box (get_add _ _) (jbq _ _)) (by conv=>lhs; simp [Fr.set]) ?_;have hag:Agree S ((S.add (1,[vl (vl vint) g])).del S.nx):=((Agree.refl S).add _).del (Nat.le_refl _);generalize (S.add (1,[vl (vl vint) g])).del S.nx=S1 at hag ⊢
 by_cases h0:(g.length:Int)=0
 ·have hq:((g.length:Int)==0)=true:=by simp [h0]
  repeat refine QS ?_
  refine QY ?_ (r:=by conv=>lhs;simp[-List.map_set,QV,jG,hq])
  repeat refine QS ?_
  refine jF rfl rfl rfl ?_
  repeat refine QS ?_
  refine QY ?_
  repeat refine QS ?_
  refine jH rfl ?_;have:G.right g=false:=by simp [G.right]; omega
  rw [this];exact Gives.same hag
 ·have hq:((g.length:Int)==0)=false:=by simpa using h0
  by_cases h1:(256:Int)<g.length
  ·repeat refine QS ?_
   refine QY ?_ (r:=by conv=>lhs;simp[-List.map_set,QV,jG,hq,h1])
   repeat refine QS ?_
   refine jF rfl rfl rfl ?_
   repeat refine QS ?_
   refine QY ?_
   repeat refine QS ?_
   refine jH rfl ?_;have:G.right g=false:=by simp [G.right]; omega
   rw [this];exact Gives.same hag
  ·have hfin:G.right g=g.all (G.rowOk g.length):=by
    have a1:decide (1≤g.length)=true:=by simp; omega
    have a2:decide (g.length≤256)=true:=by simp; omega
    simp [G.right,a1,a2]
   rw [hfin]
   repeat refine QS ?_
   refine QY ?_ (r:=by conv=>lhs;simp[-List.map_set,QV,jG,hq,h1])
   repeat refine QS ?_
   refine jJ rfl rfl rfl ?_
   repeat refine QS ?_
   refine jE rfl ?_
   repeat refine QS ?_
   refine QY ?_ (r:=by conv=>lhs;simp[-List.map_set,QV,jG])
   repeat refine QS ?_
   refine jN 0 rfl rfl ?_
   repeat refine QS ?_
   refine je [0,1,13,14,15] rfl (fun n σ S' => ∃ (k:Nat),k≤g.length∧n=g.length-k∧(g.drop k).all (G.rowOk g.length)=g.all (G.rowOk g.length)∧σ=[(0,vl (vl vint) g),(1, .ref (vl (vl vint) g)),(13,vl (vl vint) g),(14,vnat g.length),(15,vnat k)]∧S'=S1) g.length ?_ ?_
   ·exact ⟨0,by omega,rfl,rfl,by simp [Fr.only,Fr.look,vnat,vint],rfl⟩
   ·rintro n σ S' ⟨k,hk,rfl,hd,rfl,rfl⟩
    by_cases hk6:k<g.length
    ·have h7:(k:Int)<(g.length:Int):=by omega
     have hst:(g.drop k).all (G.rowOk g.length)=(G.rowOk g.length g[k]&&(g.drop (k+1)).all (G.rowOk g.length)):=by
      rw [List.drop_eq_getElem_cons hk6,List.all_cons]
     have hw:IntKind.i64.wrap ((k:Int)+1)=(k:Int)+1:=wrap_i64 (by omega) (by omega);have hlk:g[k].length<2^63:=hl _ (List.getElem_mem hk6)
     repeat refine QS ?_
     refine QY ?_ (r:=by conv=>lhs;simp[-List.map_set,QV,h7])
     repeat refine QS ?_
     refine jF rfl rfl rfl ?_
     repeat refine QS ?_
     refine jE rfl ?_
     repeat refine QS ?_
     refine jN 1 rfl rfl ?_
     repeat refine QS ?_
     refine QY ?_ (r:=by conv=>lhs;simp[-List.map_set,QV,qf,hk6])
     by_cases h2:(128:Int)<g[k].length
     ·repeat refine QS ?_
      refine QY ?_ (r:=by conv=>lhs;simp[-List.map_set,QV,jG,h2])
      repeat refine QS ?_
      refine jF rfl rfl rfl ?_
      repeat refine QS ?_
      refine QY ?_
      repeat refine QS ?_
      refine jH rfl ?_;have:G.rowOk g.length g[k]=false:=by simp [G.rowOk]; omega
      rw [←hd,hst,this];exact Gives.same hag
     ·have h3:G.rowOk g.length g[k] = !(g[k].any (G.wild g.length)):=by
       have:decide (g[k].length≤128)=true:=by simp; omega
       simp [G.rowOk,this]
      rw [h3] at hst
      repeat refine QS ?_
      refine QP ?_ (r:=by conv=>lhs;simp[-List.map_set,QV,jG,h2]);refine jp rfl (AnyWild_v g g[k] hlk) ?_;refine QW ?_
      cases hc:g[k].any (G.wild g.length)
      ·rw [hc] at hst;refine jJ rfl rfl (by simp [ev,Fr.look,hc]) ?_
       repeat refine QS ?_
       refine jE rfl ?_
       repeat refine QS ?_
       refine QY ?_ (r:=by conv=>lhs;simp[-List.map_set,QV,hw]);exact again ⟨Nat.sub_lt_sub_left (by omega) (Nat.lt_succ_self k),k+1,by omega,rfl,by rw [←hd,hst]; rfl,by simp [Fr.only,Fr.look,vnat,vint],rfl⟩
      ·rw [hc] at hst;refine jF rfl rfl (by simp [ev,Fr.look,hc]) ?_
       repeat refine QS ?_
       refine QY ?_
       repeat refine QS ?_
       refine jH rfl ?_;rw [←hd,hst];exact Gives.same hag
    ·have h7 : ¬ (k:Int)<(g.length:Int):=by omega
     repeat refine QS ?_
     refine QY ?_ (r:=by conv=>lhs;simp[-List.map_set,QV,h7])
     repeat refine QS ?_
     refine jJ rfl rfl rfl ?_
     repeat refine QS ?_
     refine jV 0 rfl rfl ?_
     repeat refine QS ?_
     refine QY ?_
     repeat refine QS ?_
     refine jH rfl ?_;have:g.drop k=[]:=by rw [List.drop_eq_nil_iff]; omega
     rw [←hd,this];exact Gives.same hag
end Go.Vw

namespace Go.Vw
open Go.Proofs Go.RowKit
set_option maxRecDepth 10000
set_option maxHeartbeats 4000000
theorem RRight_v (g:List (List Int)) (hg:g.length<2^63) (hl : ∀ l∈g,l.length<2^63):VPure Tryz.prog 45 [vl (vl vint) g] (.bool (G.right g)):=by
 intro S;refine qV rfl ?_;refine qM (c:=jg Tryz.f45) Tryz.func45 rfl rfl (by simp [Tryz.ntmps45]) ?_;rw [Tryz.ntmps45]
 repeat refine QS ?_
 refine QY ?_
 by_cases h0:(g.length:Int)<1
 ·repeat refine QS ?_
  refine QY ?_ (r:=by conv=>lhs;simp[-List.map_set,QV,jG,h0])
  repeat refine QS ?_
  refine jF rfl rfl rfl ?_
  repeat refine QS ?_
  refine QY ?_
  repeat refine QS ?_
  refine jH rfl ?_;have:G.right g=false:=by simp [G.right]; omega
  rw [this];exact Gives.same (Agree.refl S)
 ·by_cases h1:(256:Int)<g.length
  ·repeat refine QS ?_
   refine QY ?_ (r:=by conv=>lhs;simp[-List.map_set,QV,jG,h0,h1])
   repeat refine QS ?_
   refine jF rfl rfl rfl ?_
   repeat refine QS ?_
   refine QY ?_
   repeat refine QS ?_
   refine jH rfl ?_;have:G.right g=false:=by simp [G.right]; omega
   rw [this];exact Gives.same (Agree.refl S)
  ·have hfin:G.right g=g.all (G.rowOk g.length):=by
    have a1:decide (1≤g.length)=true:=by simp; omega
    have a2:decide (g.length≤256)=true:=by simp; omega
    simp [G.right,a1,a2]
   rw [hfin]
   repeat refine QS ?_
   refine QY ?_ (r:=by conv=>lhs;simp[-List.map_set,QV,jG,h0,h1])
   repeat refine QS ?_
   refine jJ rfl rfl rfl ?_
   repeat refine QS ?_
   refine jE rfl ?_
   repeat refine QS ?_
   refine QY ?_
   repeat refine QS ?_
   refine jN 0 rfl rfl ?_
   repeat refine QS ?_
   refine je [0,3] rfl (fun n σ S' => ∃ (k:Nat),k≤g.length∧n=g.length-k∧(g.drop k).all (G.rowOk g.length)=g.all (G.rowOk g.length)∧σ=[(0,vl (vl vint) g),(3,vnat k)]∧S'=S) g.length ?_ ?_
   ·exact ⟨0,by omega,rfl,rfl,by simp [Fr.only,Fr.look,vnat,vint],rfl⟩
   ·rintro n σ S' ⟨k,hk,rfl,hd,rfl,rfl⟩
    by_cases hk6:k<g.length
    ·have h7:(k:Int)<(g.length:Int):=by omega
     have hst:(g.drop k).all (G.rowOk g.length)=(G.rowOk g.length g[k]&&(g.drop (k+1)).all (G.rowOk g.length)):=by
      rw [List.drop_eq_getElem_cons hk6,List.all_cons]
     have hw:IntKind.i64.wrap ((k:Int)+1)=(k:Int)+1:=wrap_i64 (by omega) (by omega);have hlk:g[k].length<2^63:=hl _ (List.getElem_mem hk6)
     repeat refine QS ?_
     refine QY ?_ (r:=by conv=>lhs;simp[-List.map_set,QV,jG,h7])
     repeat refine QS ?_
     refine jF rfl rfl rfl ?_
     repeat refine QS ?_
     refine jE rfl ?_
     repeat refine QS ?_
     refine jN 1 rfl rfl ?_
     by_cases h2:(128:Int)<g[k].length
     ·repeat refine QS ?_
      refine QY ?_ (r:=by conv=>lhs;simp[-List.map_set,QV,qf,hk6,jG,h2])
      repeat refine QS ?_
      refine jF rfl rfl rfl ?_
      repeat refine QS ?_
      refine QY ?_
      repeat refine QS ?_
      refine jH rfl ?_;have:G.rowOk g.length g[k]=false:=by simp [G.rowOk]; omega
      rw [←hd,hst,this];exact Gives.same (Agree.refl S')
     ·have h3:G.rowOk g.length g[k] = !(g[k].any (G.wild g.length)):=by
       have:decide (g[k].length≤128)=true:=by simp; omega
       simp [G.rowOk,this]
      rw [h3] at hst
      repeat refine QS ?_
      refine QY ?_ (r:=by conv=>lhs;simp[-List.map_set,QV,qf,hk6,jG,h2])
      repeat refine QS ?_
      refine jJ rfl rfl rfl ?_
      repeat refine QS ?_
      refine jE rfl ?_
      repeat refine QS ?_
      refine QY ?_
      repeat refine QS ?_
      refine jN 2 rfl rfl ?_
      repeat refine QS ?_
      refine je [0,3,4] rfl (fun n σ S'' => ∃ (j:Nat),j≤g[k].length∧n=g[k].length-j∧(g[k].drop j).any (G.wild g.length)=g[k].any (G.wild g.length)∧σ=[(0,vl (vl vint) g),(3,vnat k),(4,vnat j)]∧S''=S') g[k].length ?_ ?_
      ·exact ⟨0,by omega,rfl,rfl,by simp [Fr.only,Fr.look,vnat,vint],rfl⟩
      ·rintro n σ S'' ⟨j,hj,rfl,he,rfl,rfl⟩
       by_cases hj6:j<g[k].length
       ·have i7:(j:Int)<(g[k].length:Int):=by omega
        have ist:(g[k].drop j).any (G.wild g.length)=(G.wild g.length g[k][j]||(g[k].drop (j+1)).any (G.wild g.length)):=by
         rw [List.drop_eq_getElem_cons hj6,List.any_cons]
        have iw:IntKind.i64.wrap ((j:Int)+1)=(j:Int)+1:=wrap_i64 (by omega) (by omega)
        repeat refine QS ?_
        refine QY ?_ (r:=by conv=>lhs;simp[-List.map_set,QV,qf,hk6,jG,i7])
        repeat refine QS ?_
        refine jF rfl rfl rfl ?_
        repeat refine QS ?_
        refine jE rfl ?_
        repeat refine QS ?_
        refine jN 3 rfl rfl ?_
        by_cases n0:g[k][j]<0
        ·repeat refine QS ?_
         refine QY ?_ (r:=by conv=>lhs;simp[-List.map_set,QV,qf,hk6,qf,hj6,n0])
         repeat refine QS ?_
         refine jF rfl rfl rfl ?_
         repeat refine QS ?_
         refine QY ?_
         repeat refine QS ?_
         refine jH rfl ?_;have:G.wild g.length g[k][j]=true:=by simp [G.wild,n0]
         rw [←hd,hst, ←he,ist,this];exact Gives.same (Agree.refl S'')
        ·by_cases n1:(g.length:Int)≤g[k][j]
         ·repeat refine QS ?_
          refine QY ?_ (r:=by conv=>lhs;simp[-List.map_set,QV,qf,hk6,qf,hj6,n0,jG,n1])
          repeat refine QS ?_
          refine jF rfl rfl rfl ?_
          repeat refine QS ?_
          refine QY ?_
          repeat refine QS ?_
          refine jH rfl ?_;have:G.wild g.length g[k][j]=true:=by simp [G.wild,n1]
          rw [←hd,hst, ←he,ist,this];exact Gives.same (Agree.refl S'')
         ·repeat refine QS ?_
          refine QY ?_ (r:=by conv=>lhs;simp[-List.map_set,QV,qf,hk6,qf,hj6,n0,jG,n1])
          repeat refine QS ?_
          refine jJ rfl rfl rfl ?_
          repeat refine QS ?_
          refine jE rfl ?_
          repeat refine QS ?_
          refine QY ?_ (r:=by conv=>lhs;simp[-List.map_set,QV,iw]);have:G.wild g.length g[k][j]=false:=by simp [G.wild,n0,n1]
          rw [this] at ist;exact again ⟨Nat.sub_lt_sub_left (by omega) (Nat.lt_succ_self j),j+1,by omega,rfl,by rw [←he,ist]; rfl,by simp [Fr.only,Fr.look,vnat,vint],rfl⟩
       ·have i7 : ¬ (j:Int)<(g[k].length:Int):=by omega
        repeat refine QS ?_
        refine QY ?_ (r:=by conv=>lhs;simp[-List.map_set,QV,qf,hk6,jG,i7])
        repeat refine QS ?_
        refine jJ rfl rfl rfl ?_
        repeat refine QS ?_
        refine jV 2 rfl rfl ?_;have hz:g[k].drop j=[]:=by rw [List.drop_eq_nil_iff]; omega
        rw [hz] at he;rw [←he] at hst
        repeat refine QS ?_
        refine QY ?_ (r:=by conv=>lhs;simp[-List.map_set,QV,hw]);exact again ⟨Nat.sub_lt_sub_left (by omega) (Nat.lt_succ_self k),k+1,by omega,rfl,by rw [←hd,hst]; rfl,by simp [Fr.only,Fr.look,vnat,vint],rfl⟩
    ·have h7 : ¬ (k:Int)<(g.length:Int):=by omega
     repeat refine QS ?_
     refine QY ?_ (r:=by conv=>lhs;simp[-List.map_set,QV,jG,h7])
     repeat refine QS ?_
     refine jJ rfl rfl rfl ?_
     repeat refine QS ?_
     refine jV 0 rfl rfl ?_
     repeat refine QS ?_
     refine QY ?_
     repeat refine QS ?_
     refine jH rfl ?_;have:g.drop k=[]:=by rw [List.drop_eq_nil_iff]; omega
     rw [←hd,this];exact Gives.same (Agree.refl S')
end Go.Vw

namespace Go.Vw
open Go.Proofs Go.RowKit
set_option maxRecDepth 10000
set_option maxHeartbeats 4000000
def zA (rows:List (List Nat)):List (List V):=rows.map (·.map vnat)
theorem natRows_len (rows:List (List Nat)):(zA rows).length=rows.length:=by simp [zA]
theorem YK {rows:List (List Nat)} {k i:Nat} (h:k<rows.length):zA (G.push rows k i)=(zA rows).set k ((rows.getD k []).map vnat++[.int .i64 (i:Int)]):=by
 simp [zA,G.push,List.map_set,vnat]
theorem Wh {rows:List (List Nat)} {k:Nat} (h:k<rows.length):(zA rows)[k]? = some ((rows.getD k []).map vnat):=by
 simp [zA,h]
theorem jaH (rows:List (List Nat)) : ∀ row∈zA rows,row.all V.closed1=true:=by
 intro row h;simp only [zA,List.mem_map] at h;obtain ⟨r,_,rfl⟩:=h;simp [vnat,V.closed1]
theorem natRows_vl (rows:List (List Nat)):V.list ((zA rows).map V.list)=vl (vl vnat) rows:=by
 simp [zA,vl]
theorem FromErr_v (g:List (List Int)) (hg:g.length<2^63) (hl : ∀ l∈g,l.length<2^63) (hr:G.right g=false):VPure Tryz.prog 78 [vl (vl vint) g] (.tuple [vl vnat [],vint 1]):=by
 intro S;refine jb (c:=jg Tryz.f78) Tryz.func78 rfl rfl (by simp [Tryz.ntmps78]) ?_;rw [Tryz.ntmps78];intro hwf
 repeat first|refine QG ?_|refine QY ?_
 repeat refine QS ?_
 refine QP ?_;refine jp rfl (Right_v g hg hl) ?_;refine QM (by conv=>lhs;simp[-List.map_set,QV,hr]) ?_;refine QN ?_
 repeat first|refine QG ?_|refine QY ?_
 exact ji (l:=[]) hwf ((Ghost.tuple [] [vint 1] (Ghost.nils_list _)).toB _) rfl
structure FromAt (S T:Store) (oo:Nat) (cells:List V) (rows:List (List Nat)) (n:Nat):Prop where
 agree:Agree S T
 arr:RowsAt T S.nx oo [] cells (zA rows)
 len:rows.length=n
theorem FromAt.nil {S T:Store} {oo n k i:Nat} {cells:List V} {rows:List (List Nat)} (h:FromAt S T oo cells rows n) (hk:k<n) (hr:rows.getD k []=[]) (hc:cells[k]? = some .nils):FromAt S (jaW T oo cells k (.int .i64 (i:Int))) oo (cells.set k (.slice (T.nx+1) 0 1)) (G.push rows k i) n:=by
 have hlt:k<rows.length:=by rw [h.len]; exact hk
 refine ⟨((h.agree.add _).add _).upd h.arr.base _, ?_,by simp [G.push_length,h.len]⟩;rw [YK hlt,hr];refine h.arr.nil ?_ (by simp) hc;rw [Wh hlt,hr]; rfl
theorem FromAt.app {S T:Store} {oo n k i id:Nat} {cells:List V} {rows:List (List Nat)} (h:FromAt S T oo cells rows n) (hk:k<n) (hid:S.nx≤id) (hc:cells[k]? = some (.slice id 0 (rows.getD k []).length)):FromAt S (ZD T oo cells k id ((rows.getD k []).map vnat) (.int .i64 (i:Int))) oo (cells.set k (.slice (T.nx+1) 0 ((rows.getD k []).length+1))) (G.push rows k i) n:=by
 have hlt:k<rows.length:=by rw [h.len]; exact hk
 refine ⟨(((h.agree.add _).del hid).add _).upd h.arr.base _, ?_,by simp [G.push_length,h.len]⟩;rw [YK hlt];have:=h.arr.app (x := .int .i64 (i:Int)) (id:=id) (Wh hlt) (by simp) (by simpa using hc);simpa using this
theorem From_v (g:List (List Nat)) (hg:G.Ok g) (hr:VPure Tryz.prog 113 [vl (vl vnat) g] (.bool true)):VPure Tryz.prog 78 [vl (vl vnat) g] (.tuple [vl (vl vnat) (G.froms g),vint 0]):=by
 intro S;refine jb (c:=jg Tryz.f78) Tryz.func78 rfl rfl (by simp [Tryz.ntmps78]) ?_;rw [Tryz.ntmps78];intro hwf;have hm256:=hg.max;have hb24:g.length*24≤140737488355328:=by omega
 have hb0:g.length≤140737488355328:=by omega
 repeat first|refine QG ?_|refine QY ?_
 repeat refine QS ?_
 refine QP ?_;refine jp rfl (hr) ?_;refine QW ?_
 repeat first|refine QG ?_|refine QY ?_ (r:=by conv=>lhs;simp[-List.map_set,QV,hb24,hb0])
 have h0:FromAt S (St S [] [some (1,List.replicate g.length V.nils)]) (lid S.nx 0) (List.replicate g.length .nils) (List.replicate g.length []) g.length:=by
  refine ⟨WV, ?_,by simp⟩;have:zA (List.replicate g.length [])=List.replicate g.length []:=by simp [zA]
  rw [this];exact RowsAt.start (by simp [jT]) (by simp [lid]) (by rw [qp]; simp [lid]) (by simp)
 have htot:=G.edges_len hg.row 0;refine vw_gen (fun T=>FromAt S T (lid S.nx 0) (List.replicate g.length .nils) (List.replicate g.length []) g.length) h0 ?_;intro T h0;generalize lid S.nx 0=oo at h0 ⊢
 repeat first|refine QG ?_|refine QY ?_
 repeat refine QS ?_
 refine je [4,15,16,17] rfl (fun c σ S' => ∃ (i:Nat) (cells:List V) (rows:List (List Nat)),i≤g.length∧c=g.length-i∧FromAt S S' oo cells rows g.length∧G.pushAll rows (G.edges (g.drop i) i)=G.froms g∧G.total rows+(G.edges (g.drop i) i).length≤128*g.length∧σ=[(4, .slice oo 0 g.length),(15,vl (vl vnat) g),(16,vnat g.length),(17,vnat i)]) g.length ?_ ?_
 ·exact ⟨0,_,_,by omega,rfl,h0,rfl,by simpa [G.total_rep] using htot,by simp [Fr.only,Fr.look,vnat]⟩
 ·rintro c σ T ⟨i,cells,rows,hi,rfl,hF,hp,ht,rfl⟩
  by_cases hlt:i<g.length
  ·have hw1:IntKind.i64.wrap ((i:Int)+1)=(i:Int)+1:=wrap_i64 (by omega) (by omega);have hr128:=hg.row _ (List.getElem_mem hlt)
   repeat first|refine QG ?_|refine QY ?_ (r:=by conv=>lhs;simp[-List.map_set,QV,hlt])
   rw [G.edges_drop g hlt] at hp ht
   repeat refine QS ?_
   refine je [4,5,15,16,17,22,23,24] rfl (fun c σ S' => ∃ (k:Nat) (cells:List V) (rows:List (List Nat)),k≤g[i].length∧c=g[i].length-k∧FromAt S S' oo cells rows g.length∧G.pushAll rows ((g[i].drop k).map (·,i)++G.edges (g.drop (i+1)) (i+1))=G.froms g∧G.total rows+((g[i].drop k).map (·,i)++G.edges (g.drop (i+1)) (i+1)).length≤128*g.length∧σ=[(4, .slice oo 0 g.length),(5,vnat i),(15,vl (vl vnat) g),(16,vnat g.length),(17,vnat i),(22,vl vnat g[i]),(23,vnat g[i].length),(24,vnat k)]) g[i].length ?_ ?_
   ·exact ⟨0,_,_,by omega,rfl,hF,hp,by simpa using ht,by simp [Fr.only,Fr.look,vnat]⟩
   ·rintro c σ T ⟨k,cells,rows,hk,rfl,hF,hp,ht,rfl⟩
    by_cases hkl:k<g[i].length
    ·have hw2:IntKind.i64.wrap ((k:Int)+1)=(k:Int)+1:=wrap_i64 (by omega) (by omega);rw [G.map_drop hkl] at hp ht;simp only [List.cons_append,List.length_cons,G.pushAll_cons] at hp ht;have hgk:g[i][k]<g.length:=hg.elt _ (List.getElem_mem hlt) _ (List.getElem_mem hkl);have hkr:g[i][k]<rows.length:=by rw [hF.len]; exact hgk
     have hrow:=G.row_le_total rows g[i][k];have htp:=G.total_push (i:=i) hkr;have hget:=hF.arr.get;have hool:=hF.arr.lt;have hcl:cells.length=g.length:=by rw [hF.arr.len,natRows_len,hF.len]
     have hgkc:g[i][k]<cells.length:=by omega
     have h1:oo<T.nx+1:=by omega
     have h2:oo<T.nx+1+1:=by omega
     rcases hF.arr.row _ _ (Wh hkr) with ⟨hc,hr0⟩ | ⟨id,hc,hid,hne,hb,hidl,_⟩
     ·have hr0':rows.getD g[i][k] []=[]:=by simpa using hr0
      obtain ⟨_,hce⟩:=List.getElem?_eq_some_iff.1 hc
      repeat first|refine QG ?_|refine QY ?_ (r:=by conv=>lhs;simp[-List.map_set,QV,hlt,hkl,hw2])
      repeat first|refine QG ?_|refine QY ?_ (r:=by conv=>lhs;simp[-List.map_set,QV,hlt,hkl,hget,hgk,add_new,add_nx',add_old,hool,h1,h2,hgkc,hce,hw2])
      show jz _ _ _ _ _ _ _;exact again ⟨Nat.sub_lt_sub_left hkl (Nat.lt_succ_self k),k+1,_,_,hkl,rfl,hF.nil (i:=i) hgk hr0' hc,hp,by omega,by simp [Fr.only,Fr.look,vnat]⟩
     ·have hlr:((rows.getD g[i][k] []).map vnat).length=(rows.getD g[i][k] []).length:=by simp
      rw [hlr] at hc;obtain ⟨_,hce⟩:=List.getElem?_eq_some_iff.1 hc;have hb8:((rows.getD g[i][k] []).length+1)*8≤140737488355328:=by omega
      have hb1:(rows.getD g[i][k] []).length+1≤140737488355328:=by omega
      have hcf:=hF.app (i:=i) hgk hb hc;simp only [ZD,List.length_map] at hcf;generalize hrw:rows.getD g[i][k] []=row at hce hb8 hb1 hid hcf;have hne':oo≠id:=Ne.symm hne
      repeat first|refine QG ?_|refine QY ?_ (r:=by conv=>lhs;simp[-List.map_set,QV,hlt,hkl,hw2])
      repeat first|refine QG ?_|refine QY ?_ (r:=by conv=>lhs;simp[-List.map_set,QV,hlt,hkl,hget,hgk,add_new,add_nx',add_old,del_old,del_nx,hool,h1,h2,hgkc,hce,hw2,hid,hidl,hne',hb8,hb1])
      show jz _ _ _ _ _ _ _;exact again ⟨Nat.sub_lt_sub_left hkl (Nat.lt_succ_self k),k+1,_,_,hkl,rfl,hcf,hp,by omega,by simp [Fr.only,Fr.look,vnat]⟩
    ·repeat first|refine QG ?_|refine QY ?_ (r:=by conv=>lhs;simp[-List.map_set,QV,hlt,hkl,hw1])
     have:k=g[i].length:=by omega
     subst this;simp at hp ht;show jz _ _ _ _ _ _ _;exact again ⟨Nat.sub_lt_sub_left hlt (Nat.lt_succ_self i),i+1,_,_,hlt,rfl,hF,hp,by simpa using ht,by simp [Fr.only,Fr.look,vnat]⟩
  ·have hig:i=g.length:=by omega
   subst hig
   repeat refine QS ?_
   refine QY ?_
   repeat refine QS ?_
   refine jJ rfl rfl rfl ?_
   repeat refine QS ?_
   refine jV 0 rfl rfl ?_;simp [G.edges,G.pushAll] at hp;obtain ⟨T2,k1,k2,k3,k4,k5⟩:=hF.arr.freeze (N:=41) (b0:=S.nx) (jaH rows);refine js k1 ?_
   repeat first|refine QG ?_|refine QY ?_
   have hfr:=Ghost.freeze1 (len:=g.length) k2 (by simp [V.closed1]) (by simp [zA,hF.len]);rw [natRows_vl,hp] at hfr;have hag:Agree S (T2.del oo):=by
    have h0:=hF.agree;refine ⟨by show S.nx≤T2.nx; rw [k3]; exact h0.1,fun o ho => ?_⟩;have hb:=hF.arr.base;rw [del_old (by omega),k4 o (.inl ho) (by omega)];exact h0.2 o ho
   exact JS hwf ((Ghost.tuple [] [vint 0] hfr).toB _) hag rfl
end Go.Vw
