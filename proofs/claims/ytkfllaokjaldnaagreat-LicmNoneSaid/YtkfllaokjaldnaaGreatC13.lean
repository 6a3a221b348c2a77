import Derived.Test.YtkfllaokjaldnaaGreatC11
import Derived.Test.YtkfllaokjaldnaaGreatProg
import Derived.Test.YtkfllaokjaldnaaGreatC12
/-
  Part of the proof (texts GRepeat, GFrom, GChk, GOrder2, GRight, GRight2, GRight3).
-/
set_option linter.unusedVariables false
set_option linter.unusedSimpArgs false
namespace Go.Vw
open Go.Proofs Go.RowKit
set_option maxRecDepth 10000
set_option maxHeartbeats 4000000
theorem u64_bits:IntKind.u64.bits=64:=nr rfl
theorem mask_small {n:Nat} (h:n<4294967296):n % 18446744073709551616 &&& 4294967295=n:=by
 have e:n % 18446744073709551616=n:=by omega
 rw [e]
 have:=Nat.and_two_pow_sub_one_eq_mod n 32
 rw [show (4294967295:Nat)=2^32-1 from rfl,this]
 exact Nat.mod_eq_of_lt h
theorem u64_wrap {n:Nat} (h:n<4294967296):IntKind.u64.wrap (n:Int)=n:=by
 have e:IntKind.u64.wrap (n:Int)=(n:Int) % 18446744073709551616:=rfl
 rw [e]; omega
theorem shr_small {n:Nat} (h:n<4294967296):Int.fdiv (n:Int) 4294967296=0:=by
 rw [Int.fdiv_eq_ediv_of_nonneg _ (by omega)]; omega
theorem Mul64_v (n:Nat) (h:n<4294967296):VPure Tryz.prog 148 [.int .u64 1, .int .u64 (n:Int)] (.tuple [.int .u64 0, .int .u64 (n:Int)]):=by
 intro S
 refine jb (c:=jf Tryz.f148) Tryz.func148 rfl rfl (by simp [Tryz.ntmps148]) ?_
 rw [Tryz.ntmps148]
 intro hwf
 have h1:=mask_small h
 have h2:=u64_wrap h
 have h3:=shr_small h
 have h4:IntKind.u64.wrap 0=0:=by decide
 have h5:IntKind.u64.wrap 1=1:=by decide
 have h6:Int.fdiv 1 4294967296=0:=by decide
 have h7:Int.fdiv 0 4294967296=0:=by decide
 repeat (first|refine QG ?_|refine QY ?_ (r:=by conv=>lhs;simp[-List.map_set,QV,u64_bits,h1,h2,h3,h4,h5,h6,h7]))
 exact ja (l:=[]) hwf (by simp [resV,Fr.look]) rfl
theorem Mul_v (n:Nat) (h:n<4294967296):VPure Tryz.prog 138 [.int .u64 1, .int .u64 (n:Int)] (.tuple [.int .u64 0, .int .u64 (n:Int)]):=by
 intro S
 refine jb (c:=jf Tryz.f138) Tryz.func138 rfl rfl (by simp [Tryz.ntmps138]) ?_
 rw [Tryz.ntmps138]
 intro hwf
 repeat (first|refine QG ?_|refine QY ?_)
 repeat refine QS ?_
 refine QP ?_
 refine jo rfl (Mul64_v n h) ?_
 refine QM (by conv=>lhs;simp[-List.map_set,QV]) ?_
 refine QN ?_
 repeat (first|refine QG ?_|refine QY ?_)
 exact ja (l:=[]) hwf (by simp [resV,Fr.look]) rfl
def zy (v:Int) (n m:Nat):List V:=List.replicate m (.int .i64 v)++List.replicate (n-m) (.int .i64 0)
theorem rcells_len {v:Int} {n m:Nat} (h:m≤n):(zy v n m).length=n:=by simp [zy]; omega
theorem rcells_step {v:Int} {n m:Nat} (h:m≤n):qj (zy v n m) m ((((zy v n m).drop 0).take (m*1)).take (min m (n-m)*1))=zy v n (m+min m (n-m)):=by
 have e1:(((zy v n m).drop 0).take (m*1)).take (min m (n-m)*1)=List.replicate (min m (n-m)) (V.int .i64 v):=by
  rw [List.drop_zero,Nat.mul_one,Nat.mul_one,zy,List.take_left' (by simp)]
  rw [List.take_replicate]; congr 1; omega
 rw [e1,qj,List.length_replicate,zy,List.take_left' (by simp)]
 rw [List.drop_append,List.drop_eq_nil_of_le (by simp),List.length_replicate]
 simp only [List.nil_append,List.drop_replicate,zy]
 rw [List.replicate_append_replicate]
 congr 2; omega
theorem Repeat_v (S:Store) (o:Nat) (v:Int) (n:Nat) (hn:1≤n) (hn2:n≤65536) (ho:S.get o=some (1,[.int .i64 v])) :
  VCalls Tryz.prog 111 [.slice o 0 1,vnat n] S (fun r S'=>r = .slice S.nx 0 n∧S'=S.add (1,List.replicate n (.int .i64 v))):=by
 refine jb (c:=jf Tryz.f111) Tryz.func111 rfl rfl (by simp [Tryz.ntmps111]) ?_
 rw [Tryz.ntmps111]
 intro hwf
 have hon:o<S.nx:=by
  rcases Nat.lt_or_ge o S.nx with h | h
  ·exact h
  ·rw [hwf.gone o h] at ho; cases ho
 have hold:=fun u l => @jy S u l o hon
 have h2:=u64_wrap (n:=n) (by omega)
 have h5:IntKind.u64.wrap 1=1:=by decide
 have h6 : ¬ (9223372036854775807:Int)<(n:Int):=by omega
 have hw:IntKind.i64.wrap (n:Int)=n:=wrap_i64 (by omega) (by omega)
 have hb8:n*8≤140737488355328:=by omega
 have hb0:n≤140737488355328:=by omega
 have hmin:min 1 n=1:=by omega
 repeat (first|refine QG ?_|refine QY ?_ (r:=by conv=>lhs;simp[-List.map_set,QV,hold,ho,h2,h5]))
 repeat refine QS ?_
 refine QP ?_ (r:=by conv=>lhs;simp[-List.map_set,QV,hold,ho,h2,h5])
 refine jo rfl (Mul_v n (by omega)) ?_
 refine QM (by conv=>lhs;simp[-List.map_set,QV]) ?_
 refine QN ?_
 repeat (first|refine QG ?_|refine QY ?_ (r:=by conv=>lhs;simp[-List.map_set,QV,h6,hw,hb8,hb0,hold,ho,hmin,ZK,qg]))
 repeat refine QS ?_
 refine jd [7,8] rfl (fun c σ S' => ∃ m:Nat,1≤m∧m≤n∧c=n-m∧σ=[(7, .slice (lid S.nx 0) 0 n),(8,vnat m)]∧S'=St S [] [some (1,zy v n m)]) (n-1) ?_ ?_
 ·refine ⟨1,by omega,hn,rfl,by simp [Fr.only,Fr.look,vnat], ?_⟩
  have e:n=(n-1)+1:=by omega
  rw [zy]
  simp [List.drop_replicate]
 ·rintro c σ T ⟨m,hm1,hm2,rfl,rfl,rfl⟩
  have hlen:=rcells_len (v:=v) hm2
  by_cases hlt:m<n
  ·have hml:m≤n:=by omega
   have hcp:ZK 1 (St S [] [some (1,zy v n m)]) (.slice (lid S.nx 0) m (n-m)) (.slice (lid S.nx 0) 0 m)=some (.int .i64 (min m (n-m):Nat),St S [] [some (1,zy v n (m+min m (n-m)))]):=by
    have e1:qg 1 (St S [] [some (1,zy v n m)]) (.slice (lid S.nx 0) 0 m)=some (((zy v n m).drop 0).take (m*1),m):=by
     simp only [qg,jN,List.getElem?_cons_zero,Option.join_some]
     rw [if_pos (by omega)]
    simp only [ZK,e1,jN,List.getElem?_cons_zero,Option.join_some]
    rw [if_pos (by omega),rcells_step hm2,JF (by simp)]
    rfl
   have hw2:IntKind.i64.wrap ((m:Int)+(min m (n-m):Nat))=((m+min m (n-m):Nat):Int):=by
    rw [wrap_i64 (by omega) (by omega)]; omega
   repeat (first|refine QG ?_|refine QY ?_ (r:=by conv=>lhs;simp[-List.map_set,QV,hlt]))
   repeat refine QS ?_
   refine jQ (St S [] [none]) (St S [] [some (1,zy v n m)]) [] rfl (by kernel_rfl) (by conv=>lhs; reduce) (by conv=>lhs; reduce) (by kernel_rfl) (by kernel_rfl) (jG (by simp [subU,shpU,subL,shpL])) (by conv=>lhs; simp [-List.map_set,QV,hml]) ?_
   refine jg rfl (by conv=>lhs;simp[-List.map_set,QV,hcp]) (jG (by simp [subU,shpU,subL,shpL])) ?_
   refine QM (by conv=>lhs;simp[-List.map_set,QV]) ?_
   refine QN ?_
   show jv _ _ _ _ _ _ _
   exact again ⟨(by omega:n-(m+min m (n-m))<n-m),m+min m (n-m),by omega,by omega,rfl,by rw [hw2]; simp [Fr.only,Fr.look,vnat],rfl⟩
  ·have hmn:m=n:=by omega
   subst hmn
   repeat (first|refine QG ?_|refine QY ?_ (r:=by conv=>lhs;simp[-List.map_set,QV,hlt]))
   refine ⟨.slice S.nx 0 m,_, ?_,rfl,rfl⟩
   have e:St S [] [some (1,zy v m m)]=S.add (1,List.replicate m (.int .i64 v)):=by
    have := @jao S [] [] (1,List.replicate m (.int .i64 v))
    rw [qI hwf] at this
    rw [this]; simp [zy]
   rw [←e]
   have:lid S.nx 0=S.nx:=rfl
   rw [←this]
   exact GhostB.refl _ _ _
end Go.Vw

/-
 What goes to each node.
-/
namespace Go.Vw.G
open Go.Vw
def push (rows:List (List Nat)) (k i:Nat):List (List Nat):=rows.set k (rows.getD k []++[i])
def edges:List (List Nat)→Nat→List (Nat × Nat)
 | [],_=>[]
 | l::r,i=>l.map (·,i)++edges r (i+1)
def pushAll (rows:List (List Nat)) (es:List (Nat × Nat)):List (List Nat):=es.foldl (fun rows e=>push rows e.1 e.2) rows
def froms (g:List (List Nat)):List (List Nat):=pushAll (List.replicate g.length []) (edges g 0)
theorem push_length (rows:List (List Nat)) (k i:Nat):(push rows k i).length=rows.length:=by simp [push]
theorem KH : ∀ (es:List (Nat × Nat)) (rows:List (List Nat)),(pushAll rows es).length=rows.length
 | [],_=>rfl
 | e::es,rows=>by
  have:=KH es (push rows e.1 e.2)
  simpa [pushAll,push_length] using this
theorem pushAll_cons (rows:List (List Nat)) (k i:Nat) (es:List (Nat × Nat)):pushAll rows ((k,i)::es)=pushAll (push rows k i) es:=rfl
theorem froms_length (g:List (List Nat)):(froms g).length=g.length:=by simp [froms,KH]
theorem edges_drop (g:List (List Nat)) {i:Nat} (h:i<g.length):edges (g.drop i) i=g[i].map (·,i)++edges (g.drop (i+1)) (i+1):=by
 rw [List.drop_eq_getElem_cons h,edges]
theorem map_drop {l:List Nat} {k i:Nat} (h:k<l.length):(l.drop k).map (fun c=>(c,i))=(l[k],i)::(l.drop (k+1)).map (fun c=>(c,i)):=by
 rw [List.drop_eq_getElem_cons h]; rfl
def total (rows:List (List Nat)):Nat:=(rows.map List.length).sum
theorem total_set : ∀ (rows:List (List Nat)) (k:Nat) (r:List Nat),k<rows.length→total (rows.set k r)+(rows.getD k []).length=total rows+r.length
 | [],_,_,h=>by simp at h
 | x::xs,0,r,_=>by simp [total]; omega
 | x::xs,k+1,r,h=>by
  have:=total_set xs k r (by simpa using h)
  simp [total] at this ⊢; omega
theorem total_push {rows:List (List Nat)} {k i:Nat} (h:k<rows.length):total (push rows k i)=total rows+1:=by
 have:=total_set rows k (rows.getD k []++[i]) h
 simp only [push,List.length_append,List.length_cons,List.length_nil] at this ⊢
 omega
theorem row_le_total : ∀ (rows:List (List Nat)) (k:Nat),(rows.getD k []).length≤total rows
 | [],_=>by simp
 | x::xs,0=>by simp [total]
 | x::xs,k+1=>by
  have:=row_le_total xs k
  simp [total] at this ⊢; omega
theorem total_rep (n:Nat):total (List.replicate n [])=0:=by
 induction n with
 | zero=>rfl
 | succ n ih=>simp [total,List.replicate_succ]
theorem edges_len {g:List (List Nat)} (h : ∀ l∈g,l.length≤128) : ∀ i,(edges g i).length≤128*g.length:=by
 induction g with
 | nil=>simp [edges]
 | cons l g ih =>
  intro i
  have h1:=h l List.mem_cons_self
  have h2:=ih (fun l hl=>h l (List.mem_cons_of_mem _ hl)) (i+1)
  simp [edges] at h2 ⊢; omega
end Go.Vw.G

/-
 The nearest dominators, turn by turn.
-/
namespace Go.Vw.G
open Go.Vw
def rankTo (n:Nat) (l:List Nat):Nat→List Nat
 | 0=>List.replicate n 0
 | k+1=>(rankTo n l k).set (l.getD k 0) k
theorem rankTo_len (n:Nat) (l:List Nat) : ∀ k,(rankTo n l k).length=n
 | 0=>by simp [rankTo]
 | k+1=>by simp [rankTo,rankTo_len n l k]
def meetF (rank:List Nat) (near:List Int):Nat→Int→Int→Option Int
 | 0,_,_=>none
 | f+1,a,b=>if a=b then some a else if 0≤a∧a<near.length∧0≤b∧b<near.length then
   (if rank.getD b.toNat 0<rank.getD a.toNat 0 then meetF rank near f (near.getD a.toNat 0) b else meetF rank near f a (near.getD b.toNat 0))
  else none
def pickF (rank:List Nat) (near:List Int) (F:Nat):List Nat→Int→Option Int
 | [],best=>some best
 | p::ps,best=>if near.getD p 0<0 then pickF rank near F ps best else if best<0 then pickF rank near F ps p else (meetF rank near F best p).bind (pickF rank near F ps)
def sweepF (rank:List Nat) (fr:List (List Nat)) (F:Nat):List Nat→List Int→Bool→Option (List Int × Bool)
 | [],near,t=>some (near,t)
 | n::ns,near,t=>(pickF rank near F (fr.getD n []) (-1)).bind fun b=>sweepF rank fr F ns (near.set n b) (t||decide (near.getD n 0≠b))
def chk (rank:List Nat) (fr:List (List Nat)) (F:Nat) (l:List Nat):Nat→List Int→Option (List Int)
 | 0,_=>none
 | f+1,near=>(sweepF rank fr F l near false).bind fun s=>if s.2 then chk rank fr F l f s.1 else some s.1
end Go.Vw.G

namespace Go.Vw
open Go.Proofs Go.RowKit
set_option maxRecDepth 10000
set_option maxHeartbeats 4000000
def Turned (xs ys:List Nat) (i:Nat):Prop := ∀ p,p<xs.length→ys[p]? = if p<i∨xs.length<p+i+1 then xs[xs.length-1-p]? else xs[p]?
theorem Turned.swap {xs ys:List Nat} {i j a b:Nat} (hl:ys.length=xs.length) (hij:i+j+1=xs.length) (hlt:i<j) (h:Turned xs ys i) (ha:ys[i]? = some a) (hb:ys[j]? = some b):Turned xs ((ys.set i b).set j a) (i+1):=by
 intro p hp
 have hi:=h i (by omega)
 have hj:=h j (by omega)
 rw [if_neg (by omega)] at hi hj
 have e1:xs.length-1-i=j:=by omega
 have e2:xs.length-1-j=i:=by omega
 rw [List.getElem?_set]
 by_cases h1:j=p
 ·subst h1
  rw [if_pos rfl,if_pos (by simp; omega),if_pos (by omega),e2, ←hi,ha]
 ·rw [if_neg h1,List.getElem?_set]
  by_cases h2:i=p
  ·subst h2
   rw [if_pos rfl,if_pos (by omega),if_pos (by omega),e1, ←hj,hb]
  ·rw [if_neg h2,h p hp]
   by_cases h3:p<i∨xs.length<p+i+1
   ·rw [if_pos h3,if_pos (by omega)]
   ·rw [if_neg h3,if_neg (by omega)]
theorem Turned.done {xs ys:List Nat} {i:Nat} (hl:ys.length=xs.length) (h:Turned xs ys i) (hi:xs.length≤2*i+1):ys=xs.reverse:=by
 refine List.ext_getElem? fun p => ?_
 by_cases hp:p<xs.length
 ·rw [List.getElem?_reverse hp,h p hp]
  split
  ·rfl
  ·have:xs.length-1-p=p:=by omega
   rw [this]
 ·rw [List.getElem?_eq_none (by omega),List.getElem?_eq_none (by simp; omega)]
theorem Reverse_v (S:Store) (o:Nat) (xs:List Nat) (hx:xs.length<2^40) (ho:S.get o=some (1,xs.map vnat)) :
  VCalls Tryz.prog 137 [.slice o 0 xs.length] S (fun r S'=>r = .tuple []∧S'=S.upd o (1,xs.reverse.map vnat)):=by
 refine jb (c:=jf Tryz.f137) Tryz.func137 rfl rfl (by simp [Tryz.ntmps137]) ?_
 rw [Tryz.ntmps137]
 intro hwf
 have hon:o<S.nx:=by
  rcases Nat.lt_or_ge o S.nx with h | h
  ·exact h
  ·rw [hwf.gone o h] at ho; cases ho
 have hold:=fun u => @jy S u [] o hon
 have hupd:=fun u c => @Jn S u [] c o hon
 rw [WH ho]
 have hw:IntKind.i64.wrap ((xs.length:Int)-1)=(xs.length:Int)-1:=wrap_i64 (by omega) (by omega)
 repeat (first|refine QG ?_|refine QY ?_ (r:=by conv=>lhs;simp[-List.map_set,QV,hold,hw]))
 repeat refine QS ?_
 refine jd [0,2,3] rfl (fun c σ S' => ∃ (i:Nat) (ys:List Nat),ys.length=xs.length∧i≤xs.length∧c=xs.length-i∧Turned xs ys i∧σ=[(0, .slice o 0 xs.length),(2,vnat i),(3,vint (xs.length-1-i))]∧S'=St S [(o,some (1,ys.map vnat))] []) xs.length ?_ ?_
 ·refine ⟨0,xs,rfl,by omega,rfl, ?_,by simp [Fr.only,Fr.look,vnat,vint],rfl⟩
  intro p hp
  rw [if_neg (by omega)]
 ·rintro c σ S' ⟨i,ys,hl,hi,rfl,hT,rfl,rfl⟩
  by_cases hlt:(i:Int)<(xs.length:Int)-1-i
  ·obtain ⟨j,hj⟩ : ∃ j:Nat,(xs.length:Int)-1-i=j:=⟨xs.length-1-i,by omega⟩
   rw [hj] at hlt ⊢
   have hij:i<j:=by omega
   have hil:i<xs.length:=by omega
   have hjl:j<xs.length:=by omega
   have hiy:i<ys.length:=by omega
   have hjy:j<ys.length:=by omega
   have hw1:IntKind.i64.wrap ((i:Int)+1)=(i:Int)+1:=wrap_i64 (by omega) (by omega)
   have hw2:IntKind.i64.wrap ((j:Int)-1)=(j:Int)-1:=wrap_i64 (by omega) (by omega)
   repeat (first|refine QG ?_|refine QY ?_ (r:=by conv=>lhs;simp[-List.map_set,QV,hold,hij]))
   repeat refine QS ?_
   refine jQ ((St S [(o,none)] [])) ((St S [(o,some (1,ys.map vnat))] [])) [21,25] rfl (by kernel_rfl) (by conv=>lhs; reduce) (by conv=>lhs; reduce) (by kernel_rfl) (by kernel_rfl) (jG (by simp [subU,shpU,subL,shpL])) (by conv=>lhs; simp [-List.map_set,QV,hold,hil,hjl,hiy,hjy]) ?_
   refine jg rfl (by conv=>lhs;simp[-List.map_set,QV,hold,hil,hjl,hiy,hjy,hupd]) (jG (by simp [subU,shpU,subL,shpL])) ?_
   refine QM (by conv=>lhs;simp[-List.map_set,QV,hold,hil,hjl,hiy,hjy]) ?_
   refine jg rfl (by conv=>lhs;simp[-List.map_set,QV,hold,hil,hjl,hiy,hjy,hupd]) (jG (by simp [subU,shpU,subL,shpL])) ?_
   refine QN ?_
   repeat (first|refine QG ?_|refine QY ?_ (r:=by conv=>lhs;simp[-List.map_set,QV,hw1,hw2]))
   exact again ⟨Nat.sub_lt_sub_left hil (Nat.lt_succ_self i),i+1,(ys.set i ys[j]).set j ys[i],by simp [hl],by omega,rfl,hT.swap hl (by omega) hij (by simp [hiy]) (by simp [hjy]),by simp [Fr.only,Fr.look,vnat,vint]; omega,by simp [vnat]⟩
  ·have hlt' : ¬ ((i:Int)<(xs.length:Int)-1-i):=hlt
   repeat (first|refine QG ?_|refine QY ?_ (r:=by conv=>lhs;simp[-List.map_set,QV,hlt']))
   have:=hT.done hl (by omega)
   refine JP hwf rfl rfl (by simp [Kn,jaw,ZW]) ?_ ⟨rfl,rfl⟩
   simp only [gcU,gcE,Option.map_some,Zz,this]
   exact jbZ hwf hon
theorem gOrder_v (g:List (List Nat)) (hg:G.Ok g) (f:Nat) (fin:G.WS) (hw:G.walk g (f+1) 0 (List.replicate g.length false,[])=some fin) (hs:fin.2.length≤2^30) :
  VPure Tryz.prog 110 [vl (vl vnat) g] (vl vnat fin.2.reverse):=by
 intro S
 refine jb (c:=jf Tryz.f110) Tryz.func110 rfl rfl (by simp [Tryz.ntmps110]) ?_
 rw [Tryz.ntmps110]
 intro hwf
 have hp:0<g.length:=hg.pos
 have hm256:=hg.max
 have hb1:g.length*1≤140737488355328:=by omega
 have hb8:g.length*8≤140737488355328:=by omega
 have hb0:g.length≤140737488355328:=by omega
 repeat (first|refine QG ?_|refine QY ?_ (r:=by conv=>lhs;simp[-List.map_set,QV,hp,hb1,hb8,hb0]))
 refine qP 6 1 rfl (by conv=>lhs; simp [Fr.set]) ?_
 repeat (first|refine QG ?_|refine QY ?_)
 repeat refine QS ?_
 refine jd [0,3,4,5,6] rfl (fun c σ S' => ∃ met next stack out,G.At g f fin met next stack out∧c=2*G.unmet met+stack.length∧σ=[(0,vl (vl vnat) g),(3, .slice (lid S.nx 0) 0 g.length),(4, .slice (lid S.nx 1) 0 g.length),(5, .slice (lid S.nx 2) 0 stack.length),(6, .slice (lid S.nx 3) 0 out.length)]∧S'=St S [] [some (1,met.map V.bool),some (1,next.map vnat),some (1,stack.map vnat),some (1,out.map vnat)]) (2*G.unmet ((List.replicate g.length false).set 0 true)+1) ?_ ?_
 ·exact ⟨_,_,_,_,G.At.start hg hw,rfl,by simp [Fr.only,Fr.look],by simp [List.map_set,vnat]⟩
 ·rintro c σ S' ⟨met,next,stack,out,hA,rfl,rfl,rfl⟩
  rcases List.eq_nil_or_concat stack with rfl | ⟨stack,n,rfl⟩
  ·repeat (first|refine QG ?_|refine QY ?_)
   repeat refine QS ?_
   refine QP ?_
   refine qh rfl (Reverse_v _ (lid S.nx 3) out ?_ ?_) ?_
   ·have:=hA.out_le; omega
   ·simp [jN]
   rintro X S2 ⟨rfl,rfl⟩
   rw [JF (by simp)]
   refine QM (by conv=>lhs;simp[-List.map_set,QV]) ?_
   refine QN ?_
   repeat (first|refine QG ?_|refine QY ?_)
   have:=hA.done; subst this
   exact jh (l:=[_,_,_,none]) hwf ((frz1 (by simp) (by simp) (by simp [vnat,V.closed1]) (by simp)).toB _) rfl
  ·rw [List.concat_eq_append] at hA ⊢
   have hlen:(stack++[n]).length=stack.length+1:=by simp
   have hn:n<g.length:=hA.lt n (by simp)
   have hw1:IntKind.i64.wrap ((stack.length:Int)+1-1)=(stack.length:Int):=by
    rw [wrap_i64 (by have:=hA.out_le; simp at this; omega) (by have:=hA.out_le; simp at this; omega)]; omega
   have hsl:=hA.out_le
   have hw2:IntKind.i64.wrap (stack.length:Int)=(stack.length:Int):=wrap_i64 (by omega) (by simp at hsl; omega)
   have h0:(0:Int)<(stack.length:Int)+1:=by omega
   have h1:(stack.length:Int)<(stack.length:Int)+1:=by omega
   repeat (first|refine QG ?_|refine QY ?_ (r:=by conv=>lhs;simp[-List.map_set,QV,hw1,hw2,h0,h1]))
   repeat refine QS ?_
   refine jd [0,3,4,5,6,7] rfl (fun c σ S' => ∃ next',G.At g f fin met next' (stack++[n]) out∧c=(g.getD n []).length-next'.getD n 0∧σ=[(0,vl (vl vnat) g),(3, .slice (lid S.nx 0) 0 g.length),(4, .slice (lid S.nx 1) 0 g.length),(5, .slice (lid S.nx 2) 0 (stack.length+1)),(6, .slice (lid S.nx 3) 0 out.length),(7,vnat n)]∧S'=St S [] [some (1,met.map V.bool),some (1,next'.map vnat),some (1,(stack++[n]).map vnat),some (1,out.map vnat)]) ((g.getD n []).length-next.getD n 0) ?_ ?_
   ·exact ⟨next,hA,rfl,by simp [Fr.only,Fr.look,vnat],by simp [vnat]⟩
   ·rintro c σ S' ⟨nx,hB,rfl,rfl,rfl⟩
    have hrow:g[n]? = some g[n]:=by simp [hn]
    have hkn:n<nx.length:=by rw [hB.ln]; exact hn
    obtain ⟨k,hke⟩ : ∃ k,nx[n]=k:=⟨_,rfl⟩
    have hk:nx[n]? = some k:=by simp [hkn,hke]
    have ek:nx.getD n 0=k:=by simp [List.getD_eq_getElem?_getD,hk]
    have er:g.getD n []=g[n]:=by simp [hn]
    have hrm:g[n]∈g:=List.getElem_mem hn
    have hr128:=hg.row _ hrm
    by_cases hlt:k<g[n].length
    ·have hc:g[n][k]? = some g[n][k]:=by simp [hlt]
     have hcl:g[n][k]<g.length:=hg.elt _ hrm _ (List.getElem_mem hlt)
     have hcm:g[n][k]<met.length:=by rw [hB.lm]; exact hcl
     obtain ⟨b,hbe⟩ : ∃ b,met[g[n][k]]=b:=⟨_,rfl⟩
     have hb:met[g[n][k]]? = some b:=by simp [hcm,hbe]
     have hwk:IntKind.i64.wrap ((k:Int)+1)=(k:Int)+1:=wrap_i64 (by omega) (by omega)
     have hset:(nx.set n (k+1)).getD n 0=k+1:=G.getD_set_self' hkn
     cases b with
     | true =>
      repeat (first|refine QG ?_|refine QY ?_ (r:=by conv=>lhs;simp[-List.map_set,QV,hn,hke,hlt,hcl,hbe,hwk,hkn,hcm]))
      have:=hB.seen' hrow hk hc hb
      show jv _ _ _ _ _ _ _
      exact again ⟨by rw [hset,ek,er]; omega,_,this,rfl,by simp [Fr.only,Fr.look,vnat],by simp [vnat]⟩
     | false =>
      have hP:=hB.push' hg hrow hk hc hb
      have hPl:=hP.out_le
      simp only [List.length_append,List.length_cons,List.length_nil] at hPl
      have hc8:(stack.length+1+1)*8≤140737488355328:=by omega
      have hc1:stack.length+1+1≤140737488355328:=by omega
      have hu:=G.unmet_set hcm hbe
      repeat (first|refine QG ?_|refine QY ?_ (r:=by conv=>lhs;simp[-List.map_set,QV,hn,hke,hlt,hcl,hbe,hwk,hkn,hcm,hc8,hc1]))
      refine QA [0,1,5,3] (h:=⟨?_,_,_,_,_,hP,rfl,by simp [vnat],by simp [vnat]⟩)
      simp; omega
    ·repeat refine QS ?_
     refine QD (r:=by conv=>lhs;simp[-List.map_set,QV,hn,hkn,hke,hlt]) (k:=?_)
     refine QN ?_
     repeat refine QS ?_
     refine jD rfl rfl rfl ?_
     repeat refine QS ?_
     refine jL 2 rfl rfl ?_
     have hle:(stack.length:Int)≤(stack.length:Int)+1:=by omega
     repeat refine QS ?_
     refine QP ?_ (r:=by conv=>lhs;simp[-List.map_set,QV,hw1,hw2,h0,h1,hle])
     refine QN ?_
     refine vw_trim 5 stack.length rfl (by simp) rfl (by conv=>lhs; simp [List.set_cons_zero,List.set_cons_succ]) ?_
     have hP:=hB.pop' hrow hk hlt
     have hPl:=hP.out_le
     simp only [List.length_append,List.length_cons,List.length_nil] at hPl
     have hc8:(out.length+1)*8≤140737488355328:=by omega
     have hc1:out.length+1≤140737488355328:=by omega
     repeat (first|refine QG ?_|refine QY ?_ (r:=by conv=>lhs;simp[-List.map_set,QV,hc8,hc1]))
     refine QA [0,1,2,5] (h:=⟨?_,_,_,_,_,hP,rfl,by simp [vnat],by simp [vnat]⟩)
     simp
end Go.Vw

namespace Go.Vw
open Go.Proofs Go.RowKit
set_option maxRecDepth 10000
set_option maxHeartbeats 4000000
theorem wild_v (g:List (List Int)) (n:Int):VPure Tryz.prog 139 [vint n, .ref (vl (vl vint) g)] (.bool (G.wild g.length n)):=by
 intro S
 refine qJ rfl ?_
 refine qF (c:=jf Tryz.f139) Tryz.func139 rfl rfl (by simp [Tryz.ntmps139]) ?_
 rw [Tryz.ntmps139]
 repeat refine QS ?_
 refine QP ?_
 refine QN ?_
 by_cases h0:n<0
 ·repeat refine QS ?_
  refine QP ?_ (r:=by conv=>lhs;simp[-List.map_set,QV,jE,h0])
  refine QN ?_
  repeat refine QS ?_
  refine jI rfl ?_
  have:G.wild g.length n=true:=by simp [G.wild,h0]
  rw [this]
  exact Gives.same (Agree.refl S)
 ·repeat refine QS ?_
  refine QP ?_ (r:=by conv=>lhs;simp[-List.map_set,QV,jE,h0])
  refine QN ?_
  repeat refine QS ?_
  refine jI rfl ?_
  have:G.wild g.length n=decide ((g.length:Int)≤n):=by simp [G.wild,h0]
  rw [this]
  exact Gives.same (Agree.refl S)
theorem IndexWild_v (g:List (List Int)) (l:List Int) (hl:l.length<2^63):VPure Tryz.prog 84 [vl vint l, .func 139 [.ref (vl (vl vint) g)]] (vint (G.find (G.wild g.length) l 0)):=by
 intro S
 refine qJ rfl ?_
 refine qF (c:=jf Tryz.f84) Tryz.func84 rfl rfl (by simp [Tryz.ntmps84]) ?_
 rw [Tryz.ntmps84]
 repeat refine QS ?_
 refine QP ?_
 refine QN ?_
 repeat refine QS ?_
 refine QP ?_ (r:=by conv=>lhs;simp[-List.map_set,QV,jE])
 refine QN ?_
 repeat refine QS ?_
 refine jH 0 rfl rfl ?_
 repeat refine QS ?_
 refine jd [0,1,7,8] rfl (fun n σ S' => ∃ (k:Nat),k≤l.length∧n=l.length-k∧G.find (G.wild g.length) (l.drop k) k=G.find (G.wild g.length) l 0∧σ=[(0,vl vint l),(1, .func 139 [.ref (vl (vl vint) g)]),(7,vnat l.length),(8,vnat k)]∧S'=S) l.length ?_ ?_
 ·exact ⟨0,by omega,rfl,rfl,by simp [Fr.only,Fr.look,vnat,vint],rfl⟩
 ·rintro n σ S' ⟨k,hk,rfl,hd,rfl,rfl⟩
  by_cases hk6:k<l.length
  ·have h7:(k:Int)<(l.length:Int):=by omega
   have hst:G.find (G.wild g.length) (l.drop k) k=if G.wild g.length l[k] then (k:Int) else G.find (G.wild g.length) (l.drop (k+1)) (k+1):=by
    rw [List.drop_eq_getElem_cons hk6,G.find]
   have hw:IntKind.i64.wrap ((k:Int)+1)=(k:Int)+1:=wrap_i64 (by omega) (by omega)
   repeat refine QS ?_
   refine QP ?_ (r:=by conv=>lhs;simp[-List.map_set,QV,h7])
   refine QN ?_
   repeat refine QS ?_
   refine jC rfl rfl rfl ?_
   repeat refine QS ?_
   refine jz rfl ?_
   repeat refine QS ?_
   refine jH 1 rfl rfl ?_
   repeat refine QS ?_
   refine QP ?_
   refine QN ?_
   repeat refine QS ?_
   refine QP ?_ (r:=by conv=>lhs;simp[-List.map_set,QV,jX,hk6])
   refine qO rfl rfl rfl (wild_v g l[k]) ?_
   refine QM (by conv=>lhs;simp[-List.map_set,QV]) ?_
   refine QN ?_
   by_cases hc:G.wild g.length l[k]=true
   ·refine jC rfl rfl (by simp [ev,Fr.look,hc]) ?_
    repeat refine QS ?_
    refine QP ?_
    refine QN ?_
    repeat refine QS ?_
    refine jI rfl ?_
    rw [←hd,hst,if_pos hc]
    exact Gives.same (Agree.refl S')
   ·rw [if_neg hc] at hst
    refine jD rfl rfl (by simp [ev,Fr.look,hc]) ?_
    repeat refine QS ?_
    refine jz rfl ?_
    repeat refine QS ?_
    refine QP ?_ (r:=by conv=>lhs;simp[-List.map_set,QV,hw])
    refine QN ?_
    exact again ⟨Nat.sub_lt_sub_left (by omega) (Nat.lt_succ_self k),k+1,by omega,rfl,by rw [←hd,hst],by simp [Fr.only,Fr.look,vnat,vint],rfl⟩
  ·have h7 : ¬ (k:Int)<(l.length:Int):=by omega
   repeat refine QS ?_
   refine QP ?_ (r:=by conv=>lhs;simp[-List.map_set,QV,h7])
   refine QN ?_
   repeat refine QS ?_
   refine jD rfl rfl rfl ?_
   repeat refine QS ?_
   refine jL 0 rfl rfl ?_
   repeat refine QS ?_
   refine QP ?_
   refine QN ?_
   repeat refine QS ?_
   refine jI rfl ?_
   have:l.drop k=[]:=by rw [List.drop_eq_nil_iff]; omega
   rw [←hd,this]
   exact Gives.same (Agree.refl S')
theorem AnyWild_v (g:List (List Int)) (l:List Int) (hl:l.length<2^63):VPure Tryz.prog 32 [vl vint l, .func 139 [.ref (vl (vl vint) g)]] (.bool (l.any (G.wild g.length))):=by
 intro S
 refine qJ rfl ?_
 refine qF (c:=jf Tryz.f32) Tryz.func32 rfl rfl (by simp [Tryz.ntmps32]) ?_
 rw [Tryz.ntmps32]
 rw [←G.find_any (G.wild g.length) l 0]
 repeat refine QS ?_
 refine QP ?_
 refine QN ?_
 repeat refine QS ?_
 refine QP ?_
 refine jo rfl (IndexWild_v g l hl) ?_
 refine QM (by conv=>lhs;simp[-List.map_set,QV]) ?_
 refine QN ?_
 repeat refine QS ?_
 refine jI rfl ?_
 exact Gives.same (Agree.refl S)
end Go.Vw

namespace Go.Vw
open Go.Proofs Go.RowKit
set_option maxRecDepth 10000
set_option maxHeartbeats 4000000
theorem Right_v (g:List (List Int)) (hg:g.length<2^63) (hl : ∀ l∈g,l.length<2^63):VPure Tryz.prog 113 [vl (vl vint) g] (.bool (G.right g)):=by
 intro S
 refine qJ rfl ?_
 refine qF (c:=jf Tryz.f113) Tryz.func113 rfl rfl (by simp [Tryz.ntmps113]) ?_
 rw [Tryz.ntmps113]
 repeat refine QS ?_
 refine QP ?_
 refine QN ?_
 refine ji 1 rfl (Ghost.box (get_add _ _) (jbd _ _)) (by conv=>lhs; simp [Fr.set]) ?_
 have hag:Agree S ((S.add (1,[vl (vl vint) g])).del S.nx):=((Agree.refl S).add _).del (Nat.le_refl _)
 generalize (S.add (1,[vl (vl vint) g])).del S.nx=S1 at hag ⊢
 by_cases h0:(g.length:Int)=0
 ·have hq:((g.length:Int)==0)=true:=by simp [h0]
  repeat refine QS ?_
  refine QP ?_ (r:=by conv=>lhs;simp[-List.map_set,QV,jE,hq])
  refine QN ?_
  repeat refine QS ?_
  refine jC rfl rfl rfl ?_
  repeat refine QS ?_
  refine QP ?_
  refine QN ?_
  repeat refine QS ?_
  refine jI rfl ?_
  have:G.right g=false:=by simp [G.right]; omega
  rw [this]
  exact Gives.same hag
 ·have hq:((g.length:Int)==0)=false:=by simpa using h0
  by_cases h1:(256:Int)<g.length
  ·repeat refine QS ?_
   refine QP ?_ (r:=by conv=>lhs;simp[-List.map_set,QV,jE,hq,h1])
   refine QN ?_
   repeat refine QS ?_
   refine jC rfl rfl rfl ?_
   repeat refine QS ?_
   refine QP ?_
   refine QN ?_
   repeat refine QS ?_
   refine jI rfl ?_
   have:G.right g=false:=by simp [G.right]; omega
   rw [this]
   exact Gives.same hag
  ·have hfin:G.right g=g.all (G.rowOk g.length):=by
    have a1:decide (1≤g.length)=true:=by simp; omega
    have a2:decide (g.length≤256)=true:=by simp; omega
    simp [G.right,a1,a2]
   rw [hfin]
   repeat refine QS ?_
   refine QP ?_ (r:=by conv=>lhs;simp[-List.map_set,QV,jE,hq,h1])
   refine QN ?_
   repeat refine QS ?_
   refine jD rfl rfl rfl ?_
   repeat refine QS ?_
   refine jz rfl ?_
   repeat refine QS ?_
   refine QP ?_ (r:=by conv=>lhs;simp[-List.map_set,QV,jE])
   refine QN ?_
   repeat refine QS ?_
   refine jH 0 rfl rfl ?_
   repeat refine QS ?_
   refine jd [0,1,13,14,15] rfl (fun n σ S' => ∃ (k:Nat),k≤g.length∧n=g.length-k∧(g.drop k).all (G.rowOk g.length)=g.all (G.rowOk g.length)∧σ=[(0,vl (vl vint) g),(1, .ref (vl (vl vint) g)),(13,vl (vl vint) g),(14,vnat g.length),(15,vnat k)]∧S'=S1) g.length ?_ ?_
   ·exact ⟨0,by omega,rfl,rfl,by simp [Fr.only,Fr.look,vnat,vint],rfl⟩
   ·rintro n σ S' ⟨k,hk,rfl,hd,rfl,rfl⟩
    by_cases hk6:k<g.length
    ·have h7:(k:Int)<(g.length:Int):=by omega
     have hst:(g.drop k).all (G.rowOk g.length)=(G.rowOk g.length g[k]&&(g.drop (k+1)).all (G.rowOk g.length)):=by
      rw [List.drop_eq_getElem_cons hk6,List.all_cons]
     have hw:IntKind.i64.wrap ((k:Int)+1)=(k:Int)+1:=wrap_i64 (by omega) (by omega)
     have hlk:g[k].length<2^63:=hl _ (List.getElem_mem hk6)
     repeat refine QS ?_
     refine QP ?_ (r:=by conv=>lhs;simp[-List.map_set,QV,h7])
     refine QN ?_
     repeat refine QS ?_
     refine jC rfl rfl rfl ?_
     repeat refine QS ?_
     refine jz rfl ?_
     repeat refine QS ?_
     refine jH 1 rfl rfl ?_
     repeat refine QS ?_
     refine QP ?_ (r:=by conv=>lhs;simp[-List.map_set,QV,jX,hk6])
     refine QN ?_
     by_cases h2:(128:Int)<g[k].length
     ·repeat refine QS ?_
      refine QP ?_ (r:=by conv=>lhs;simp[-List.map_set,QV,jE,h2])
      refine QN ?_
      repeat refine QS ?_
      refine jC rfl rfl rfl ?_
      repeat refine QS ?_
      refine QP ?_
      refine QN ?_
      repeat refine QS ?_
      refine jI rfl ?_
      have:G.rowOk g.length g[k]=false:=by simp [G.rowOk]; omega
      rw [←hd,hst,this]
      exact Gives.same hag
     ·have h3:G.rowOk g.length g[k] = !(g[k].any (G.wild g.length)):=by
       have:decide (g[k].length≤128)=true:=by simp; omega
       simp [G.rowOk,this]
      rw [h3] at hst
      repeat refine QS ?_
      refine QP ?_ (r:=by conv=>lhs;simp[-List.map_set,QV,jE,h2])
      refine jo rfl (AnyWild_v g g[k] hlk) ?_
      refine QM (by conv=>lhs;simp[-List.map_set,QV]) ?_
      refine QN ?_
      cases hc:g[k].any (G.wild g.length)
      ·rw [hc] at hst
       refine jD rfl rfl (by simp [ev,Fr.look,hc]) ?_
       repeat refine QS ?_
       refine jz rfl ?_
       repeat refine QS ?_
       refine QP ?_ (r:=by conv=>lhs;simp[-List.map_set,QV,hw])
       refine QN ?_
       exact again ⟨Nat.sub_lt_sub_left (by omega) (Nat.lt_succ_self k),k+1,by omega,rfl,by rw [←hd,hst]; rfl,by simp [Fr.only,Fr.look,vnat,vint],rfl⟩
      ·rw [hc] at hst
       refine jC rfl rfl (by simp [ev,Fr.look,hc]) ?_
       repeat refine QS ?_
       refine QP ?_
       refine QN ?_
       repeat refine QS ?_
       refine jI rfl ?_
       rw [←hd,hst]
       exact Gives.same hag
    ·have h7 : ¬ (k:Int)<(g.length:Int):=by omega
     repeat refine QS ?_
     refine QP ?_ (r:=by conv=>lhs;simp[-List.map_set,QV,h7])
     refine QN ?_
     repeat refine QS ?_
     refine jD rfl rfl rfl ?_
     repeat refine QS ?_
     refine jL 0 rfl rfl ?_
     repeat refine QS ?_
     refine QP ?_
     refine QN ?_
     repeat refine QS ?_
     refine jI rfl ?_
     have:g.drop k=[]:=by rw [List.drop_eq_nil_iff]; omega
     rw [←hd,this]
     exact Gives.same hag
end Go.Vw

namespace Go.Vw
open Go.Proofs Go.RowKit
set_option maxRecDepth 10000
set_option maxHeartbeats 4000000
theorem Zd (g:List (List Int)) (hg:g.length<2^63) (hl : ∀ l∈g,l.length<2^63):VPure Tryz.prog 45 [vl (vl vint) g] (.bool (G.right g)):=by
 intro S
 refine qJ rfl ?_
 refine qF (c:=jf Tryz.f45) Tryz.func45 rfl rfl (by simp [Tryz.ntmps45]) ?_
 rw [Tryz.ntmps45]
 repeat refine QS ?_
 refine QP ?_
 refine QN ?_
 by_cases h0:(g.length:Int)<1
 ·repeat refine QS ?_
  refine QP ?_ (r:=by conv=>lhs;simp[-List.map_set,QV,jE,h0])
  refine QN ?_
  repeat refine QS ?_
  refine jC rfl rfl rfl ?_
  repeat refine QS ?_
  refine QP ?_
  refine QN ?_
  repeat refine QS ?_
  refine jI rfl ?_
  have:G.right g=false:=by simp [G.right]; omega
  rw [this]
  exact Gives.same (Agree.refl S)
 ·by_cases h1:(256:Int)<g.length
  ·repeat refine QS ?_
   refine QP ?_ (r:=by conv=>lhs;simp[-List.map_set,QV,jE,h0,h1])
   refine QN ?_
   repeat refine QS ?_
   refine jC rfl rfl rfl ?_
   repeat refine QS ?_
   refine QP ?_
   refine QN ?_
   repeat refine QS ?_
   refine jI rfl ?_
   have:G.right g=false:=by simp [G.right]; omega
   rw [this]
   exact Gives.same (Agree.refl S)
  ·have hfin:G.right g=g.all (G.rowOk g.length):=by
    have a1:decide (1≤g.length)=true:=by simp; omega
    have a2:decide (g.length≤256)=true:=by simp; omega
    simp [G.right,a1,a2]
   rw [hfin]
   repeat refine QS ?_
   refine QP ?_ (r:=by conv=>lhs;simp[-List.map_set,QV,jE,h0,h1])
   refine QN ?_
   repeat refine QS ?_
   refine jD rfl rfl rfl ?_
   repeat refine QS ?_
   refine jz rfl ?_
   repeat refine QS ?_
   refine QP ?_
   refine QN ?_
   repeat refine QS ?_
   refine jH 0 rfl rfl ?_
   repeat refine QS ?_
   refine jd [0,3] rfl (fun n σ S' => ∃ (k:Nat),k≤g.length∧n=g.length-k∧(g.drop k).all (G.rowOk g.length)=g.all (G.rowOk g.length)∧σ=[(0,vl (vl vint) g),(3,vnat k)]∧S'=S) g.length ?_ ?_
   ·exact ⟨0,by omega,rfl,rfl,by simp [Fr.only,Fr.look,vnat,vint],rfl⟩
   ·rintro n σ S' ⟨k,hk,rfl,hd,rfl,rfl⟩
    by_cases hk6:k<g.length
    ·have h7:(k:Int)<(g.length:Int):=by omega
     have hst:(g.drop k).all (G.rowOk g.length)=(G.rowOk g.length g[k]&&(g.drop (k+1)).all (G.rowOk g.length)):=by
      rw [List.drop_eq_getElem_cons hk6,List.all_cons]
     have hw:IntKind.i64.wrap ((k:Int)+1)=(k:Int)+1:=wrap_i64 (by omega) (by omega)
     have hlk:g[k].length<2^63:=hl _ (List.getElem_mem hk6)
     repeat refine QS ?_
     refine QP ?_ (r:=by conv=>lhs;simp[-List.map_set,QV,jE,h7])
     refine QN ?_
     repeat refine QS ?_
     refine jC rfl rfl rfl ?_
     repeat refine QS ?_
     refine jz rfl ?_
     repeat refine QS ?_
     refine jH 1 rfl rfl ?_
     by_cases h2:(128:Int)<g[k].length
     ·repeat refine QS ?_
      refine QP ?_ (r:=by conv=>lhs;simp[-List.map_set,QV,jX,hk6,jE,h2])
      refine QN ?_
      repeat refine QS ?_
      refine jC rfl rfl rfl ?_
      repeat refine QS ?_
      refine QP ?_
      refine QN ?_
      repeat refine QS ?_
      refine jI rfl ?_
      have:G.rowOk g.length g[k]=false:=by simp [G.rowOk]; omega
      rw [←hd,hst,this]
      exact Gives.same (Agree.refl S')
     ·have h3:G.rowOk g.length g[k] = !(g[k].any (G.wild g.length)):=by
       have:decide (g[k].length≤128)=true:=by simp; omega
       simp [G.rowOk,this]
      rw [h3] at hst
      repeat refine QS ?_
      refine QP ?_ (r:=by conv=>lhs;simp[-List.map_set,QV,jX,hk6,jE,h2])
      refine QN ?_
      repeat refine QS ?_
      refine jD rfl rfl rfl ?_
      repeat refine QS ?_
      refine jz rfl ?_
      repeat refine QS ?_
      refine QP ?_
      refine QN ?_
      repeat refine QS ?_
      refine jH 2 rfl rfl ?_
      repeat refine QS ?_
      refine jd [0,3,4] rfl (fun n σ S'' => ∃ (j:Nat),j≤g[k].length∧n=g[k].length-j∧(g[k].drop j).any (G.wild g.length)=g[k].any (G.wild g.length)∧σ=[(0,vl (vl vint) g),(3,vnat k),(4,vnat j)]∧S''=S') g[k].length ?_ ?_
      ·exact ⟨0,by omega,rfl,rfl,by simp [Fr.only,Fr.look,vnat,vint],rfl⟩
      ·rintro n σ S'' ⟨j,hj,rfl,he,rfl,rfl⟩
       by_cases hj6:j<g[k].length
       ·have i7:(j:Int)<(g[k].length:Int):=by omega
        have ist:(g[k].drop j).any (G.wild g.length)=(G.wild g.length g[k][j]||(g[k].drop (j+1)).any (G.wild g.length)):=by
         rw [List.drop_eq_getElem_cons hj6,List.any_cons]
        have iw:IntKind.i64.wrap ((j:Int)+1)=(j:Int)+1:=wrap_i64 (by omega) (by omega)
        repeat refine QS ?_
        refine QP ?_ (r:=by conv=>lhs;simp[-List.map_set,QV,jX,hk6,jE,i7])
        refine QN ?_
        repeat refine QS ?_
        refine jC rfl rfl rfl ?_
        repeat refine QS ?_
        refine jz rfl ?_
        repeat refine QS ?_
        refine jH 3 rfl rfl ?_
        by_cases n0:g[k][j]<0
        ·repeat refine QS ?_
         refine QP ?_ (r:=by conv=>lhs;simp[-List.map_set,QV,jX,hk6,jX,hj6,n0])
         refine QN ?_
         repeat refine QS ?_
         refine jC rfl rfl rfl ?_
         repeat refine QS ?_
         refine QP ?_
         refine QN ?_
         repeat refine QS ?_
         refine jI rfl ?_
         have:G.wild g.length g[k][j]=true:=by simp [G.wild,n0]
         rw [←hd,hst, ←he,ist,this]
         exact Gives.same (Agree.refl S'')
        ·by_cases n1:(g.length:Int)≤g[k][j]
         ·repeat refine QS ?_
          refine QP ?_ (r:=by conv=>lhs;simp[-List.map_set,QV,jX,hk6,jX,hj6,n0,jE,n1])
          refine QN ?_
          repeat refine QS ?_
          refine jC rfl rfl rfl ?_
          repeat refine QS ?_
          refine QP ?_
          refine QN ?_
          repeat refine QS ?_
          refine jI rfl ?_
          have:G.wild g.length g[k][j]=true:=by simp [G.wild,n1]
          rw [←hd,hst, ←he,ist,this]
          exact Gives.same (Agree.refl S'')
         ·repeat refine QS ?_
          refine QP ?_ (r:=by conv=>lhs;simp[-List.map_set,QV,jX,hk6,jX,hj6,n0,jE,n1])
          refine QN ?_
          repeat refine QS ?_
          refine jD rfl rfl rfl ?_
          repeat refine QS ?_
          refine jz rfl ?_
          repeat refine QS ?_
          refine QP ?_ (r:=by conv=>lhs;simp[-List.map_set,QV,iw])
          refine QN ?_
          have:G.wild g.length g[k][j]=false:=by simp [G.wild,n0,n1]
          rw [this] at ist
          exact again ⟨Nat.sub_lt_sub_left (by omega) (Nat.lt_succ_self j),j+1,by omega,rfl,by rw [←he,ist]; rfl,by simp [Fr.only,Fr.look,vnat,vint],rfl⟩
       ·have i7 : ¬ (j:Int)<(g[k].length:Int):=by omega
        repeat refine QS ?_
        refine QP ?_ (r:=by conv=>lhs;simp[-List.map_set,QV,jX,hk6,jE,i7])
        refine QN ?_
        repeat refine QS ?_
        refine jD rfl rfl rfl ?_
        repeat refine QS ?_
        refine jL 2 rfl rfl ?_
        have hz:g[k].drop j=[]:=by rw [List.drop_eq_nil_iff]; omega
        rw [hz] at he
        rw [←he] at hst
        repeat refine QS ?_
        refine QP ?_ (r:=by conv=>lhs;simp[-List.map_set,QV,hw])
        refine QN ?_
        exact again ⟨Nat.sub_lt_sub_left (by omega) (Nat.lt_succ_self k),k+1,by omega,rfl,by rw [←hd,hst]; rfl,by simp [Fr.only,Fr.look,vnat,vint],rfl⟩
    ·have h7 : ¬ (k:Int)<(g.length:Int):=by omega
     repeat refine QS ?_
     refine QP ?_ (r:=by conv=>lhs;simp[-List.map_set,QV,jE,h7])
     refine QN ?_
     repeat refine QS ?_
     refine jD rfl rfl rfl ?_
     repeat refine QS ?_
     refine jL 0 rfl rfl ?_
     repeat refine QS ?_
     refine QP ?_
     refine QN ?_
     repeat refine QS ?_
     refine jI rfl ?_
     have:g.drop k=[]:=by rw [List.drop_eq_nil_iff]; omega
     rw [←hd,this]
     exact Gives.same (Agree.refl S')
end Go.Vw
