import Derived.Test.YtkfllaokjaldnaaGreatC30
import Derived.Test.YtkfllaokjaldnaaGreatC28
import Derived.Test.YtkfllaokjaldnaaGreatC11
import Derived.Test.YtkfllaokjaldnaaGreatProg
import Derived.Test.YtkfllaokjaldnaaGreatC14
import Derived.Test.YtkfllaokjaldnaaGreatC15
import Derived.Test.YtkfllaokjaldnaaGreatC17
/-
  Part of the proof (texts LTurn, GWalk, GOrder, GWithout, GTable, GRNear, LGA).
-/
set_option linter.unusedVariables false
set_option linter.unusedSimpArgs false
namespace Ss
open Go.Vw.G
def moved (f:Fn) (p n i:Nat):Fn:=⟨f.sig,f.types,moveAt f.blocks p n i⟩
noncomputable def Kh:Nat→Fn→Fn
 | 0,f=>f
 | k+1,f=>match first f.blocks (qr f) (lps f.blocks) with
  | none=>f
  | some m=>Kh k (moved f m.1 m.2.1 m.2.2)
noncomputable def wt (f:Fn):Nat:=weigh (rk (nats (succs f.blocks)) (order (nats (succs f.blocks)))) 0 f.blocks
noncomputable def licF (f:Fn):Fn:=Kh (wt f+1) f
noncomputable def licOut (e:Env) (f:Fn):Fn × Int:=if check e f then (licF f,0) else (emptyFn,6)
theorem licOut_t {e:Env} {f:Fn} (h:check e f=true):licOut e f=(licF f,0):=by simp [licOut,h]
theorem licOut_f {e:Env} {f:Fn} (h:check e f=false):licOut e f=(emptyFn,6):=by simp [licOut,h]
theorem zV (k:Nat) {f:Fn} (h:first f.blocks (qr f) (lps f.blocks)=none):Kh k f=f:=by
 cases k with
 | zero=>rfl
 | succ k=>rw [Kh,h]
theorem Wm (k:Nat) {f:Fn} {p n i:Nat} (h:first f.blocks (qr f) (lps f.blocks)=some (p,n,i)):Kh (k+1) f=Kh k (moved f p n i):=by rw [Kh,h]
theorem jbg {e:Env} {f:Fn} (h:check e f=true) {p n i:Nat} (hf:first f.blocks (qr f) (lps f.blocks)=some (p,n,i)) :
  check e (moved f p n i)=true∧succs (moved f p n i).blocks=succs f.blocks∧wt (moved f p n i)<wt f:=by
 obtain ⟨bp,bn,x,hm,hx,hc,hr⟩:=jbI h hf
 have hs:succs (moved f p n i).blocks=succs f.blocks:=hm.succs
 refine ⟨hc,hs, ?_⟩
 unfold wt
 rw [hs]
 exact hm.weigh hr
theorem jbD {P:Fn→Prop} {e:Env} (hs : ∀ f p n i,check e f=true→P f→first f.blocks (qr f) (lps f.blocks)=some (p,n,i)→P (moved f p n i)) : ∀ k f,check e f=true→P f→check e (Kh k f)=true∧P (Kh k f)
 | 0,f,h,hp=>⟨h,hp⟩
 | k+1,f,h,hp=>by
  cases hf:first f.blocks (qr f) (lps f.blocks) with
  | none=>rw [zV _ hf]; exact ⟨h,hp⟩
  | some m =>
   obtain ⟨p,n,i⟩:=m
   rw [Wm _ hf]
   exact jbD hs k _ (jbg h hf).1 (hs f p n i h hp hf)
theorem lic_end {e:Env} : ∀ k f,check e f=true→wt f<k→first (Kh k f).blocks (qr (Kh k f)) (lps (Kh k f).blocks)=none
 | 0,f,h,hk=>by omega
 | k+1,f,h,hk=>by
  cases hf:first f.blocks (qr f) (lps f.blocks) with
  | none=>rw [zV _ hf]; exact hf
  | some m =>
   obtain ⟨p,n,i⟩:=m
   rw [Wm _ hf]
   obtain ⟨h1,h2,h3⟩:=jbg h hf
   exact lic_end k _ h1 (by omega)
theorem licF_check {e:Env} {f:Fn} (h:check e f=true):check e (licF f)=true:=(jbD (P:=fun _=>True) (fun _ _ _ _ _ _ _=>trivial) _ f h trivial).1
theorem licF_none {e:Env} {f:Fn} (h:check e f=true):first (licF f).blocks (qr (licF f)) (lps (licF f).blocks)=none:=lic_end _ f h (Nat.lt_succ_self _)
theorem licF_idem {e:Env} {f:Fn} (h:check e f=true):licF (licF f)=licF f:=zV _ (licF_none h)
theorem licF_sig {e:Env} {f:Fn} (h:check e f=true):(licF f).sig=f.sig∧(licF f).types=f.types:=(jbD (P:=fun g=>g.sig=f.sig∧g.types=f.types) (fun g p n i _ hp _=>hp) _ f h ⟨rfl,rfl⟩).2
def bare (b:Block):Block:=⟨b.params,[],b.term⟩
theorem moved_fits {f:Fn} {p n i:Nat} {bp bn:Block} {x:Ins} (hm:Mv f.blocks p n i bp bn x) (hf:f.Fits) (hl:bp.code.length<140737488355328):(moved f p n i).Fits:=by
 obtain ⟨h1,h2,h3,h4⟩:=hf
 refine ⟨h1,h2,by rw [moved]; simp only [hm.len]; exact h3,fun c hc => ?_⟩
 obtain ⟨j,hj⟩:=List.mem_iff_getElem?.1 hc
 have hj':(moveAt f.blocks p n i)[j]? = some c:=hj
 rw [hm.at j] at hj'
 split at hj'
 ·cases hj'
  obtain ⟨k1,⟨k2,k3⟩,k4⟩:=h4 bp (List.mem_of_getElem? hm.hp)
  obtain ⟨_,⟨_,m3⟩,_⟩:=h4 bn (List.mem_of_getElem? hm.hn)
  refine ⟨k1,⟨by simp [endWith]; omega,fun y hy => ?_⟩,k4⟩
  rcases List.mem_append.1 hy with hy | hy
  ·exact k3 y hy
  ·rw [List.mem_singleton] at hy; subst hy; exact m3 _ (List.mem_of_getElem? hm.hi)
 ·split at hj'
  ·cases hj'
   obtain ⟨k1,⟨k2,k3⟩,k4⟩:=h4 bn (List.mem_of_getElem? hm.hn)
   refine ⟨k1,⟨Nat.le_trans (List.length_eraseIdx_le _ _) k2,fun y hy=>k3 y (List.mem_of_mem_eraseIdx hy)⟩,k4⟩
  ·exact h4 c (List.mem_of_getElem? hj')
theorem check_code {e:Env} {f:Fn} (h:check e f=true) : ∀ b∈f.blocks,b.code.length≤4096:=fun b hb=>by
 have h1:=((small_iff f).1 (check_small h)).2.2
 have h2:=Go.Vw.count_mem hb
 omega
theorem step_fits {e:Env} {f:Fn} (h:check e f=true) (hf:f.Fits) {p n i:Nat} (hs:first f.blocks (qr f) (lps f.blocks)=some (p,n,i)):(moved f p n i).Fits:=by
 obtain ⟨bp,bn,x,hm,_⟩:=jbI h hs
 have:=check_code h bp (List.mem_of_getElem? hm.hp)
 exact moved_fits hm hf (by omega)
theorem licF_fits {e:Env} {f:Fn} (h:check e f=true) (hf:f.Fits):(licF f).Fits:=(jbD (P:=Fn.Fits) (fun g p n i hg hp hs=>step_fits hg hp hs) _ f h hf).2
theorem move_home {e:Env} {f:Fn} (h:check e f=true) {p n i:Nat} {bp bn:Block} {x:Ins} (hm:Mv f.blocks p n i bp bn x) (hc:check e (moved f p n i)=true) : ∀ v∈allL f.blocks,qr (moved f p n i) v=if v∈x.outs then (p:Int) else qr f v:=by
 obtain ⟨_,ds,hds,_,_⟩:=qY h
 obtain ⟨_,ds',hds',_,_⟩:=qY hc
 obtain ⟨hnd,hmade,hout⟩:=zM hds
 obtain ⟨_,hmade',hout'⟩:=zM hds'
 have e1 : ∀ v:Int,qr f v=(dAt ds v).block:=fun v=>by simp only [qr,hds,Option.getD_some]
 have e2 : ∀ v:Int,qr (moved f p n i) v=(dAt ds' v).block:=fun v=>by simp only [qr,hds',Option.getD_some]
 have hat:=hm.at
 have hxn : ∀ v∈x.outs,dAt ds v=⟨true,n,i⟩:=fun v hv=>hout n bn hm.hn i x hm.hi v hv
 intro v hv
 rw [e1,e2]
 obtain ⟨b2,hb2,hv2⟩:=List.mem_flatMap.1 hv
 obtain ⟨j,hj⟩:=List.mem_iff_getElem?.1 hb2
 have blk : ∃ c,(moved f p n i).blocks[j]? = some c∧c.params=b2.params:=by
  have:=hat j
  by_cases e1:j=p
  ·subst e1; rw [if_pos rfl] at this; rw [hm.hp] at hj; cases hj; exact ⟨_,this,rfl⟩
  ·rw [if_neg e1] at this
   by_cases e2:j=n
   ·subst e2; rw [if_pos rfl] at this; rw [hm.hn] at hj; cases hj; exact ⟨_,this,rfl⟩
   ·rw [if_neg e2,hj] at this; exact ⟨_,this,rfl⟩
 rcases List.mem_append.1 hv2 with hp | ho
 ·have a1:=jW hds j b2 hj v hp
  obtain ⟨c,hc,hcp⟩:=blk
  have a2:=jW hds' j c hc v (by rw [hcp]; exact hp)
  have hno:v∉x.outs:=fun hxv=>by
   have:=hxn v hxv
   rw [this] at a1
   have:=congrArg Def.pos a1
   simp only at this
   omega
  rw [if_neg hno,a1,a2]
 ·obtain ⟨y,hy,hvy⟩:=List.mem_flatMap.1 ho
  obtain ⟨k,hk⟩:=List.mem_iff_getElem?.1 hy
  have a1:=hout j b2 hj k y hk v hvy
  have new : ∀ (j' k':Nat) (c:Block),(moved f p n i).blocks[j']? = some c→c.code[k']? = some y→(dAt ds' v).block=(j':Int):=fun j' k' c hc hk'=>congrArg Def.block (hout' j' c hc k' y hk' v hvy)
  have hkl:=(List.getElem?_eq_some_iff.1 hk).1
  have atp:=hat p
  rw [if_pos rfl] at atp
  have atn:=hat n
  rw [if_neg (Ne.symm hm.ne),if_pos rfl] at atn
  by_cases hxv:v∈x.outs
  ·rw [if_pos hxv]
   have h3:=hxn v hxv
   have h4:(⟨true,(j:Int),(k:Int)⟩:Def)=⟨true,n,i⟩:=a1.symm.trans h3
   have h5:j=n:=by have:=congrArg Def.block h4; simp only at this; omega
   have h6:k=i:=by have:=congrArg Def.pos h4; simp only at this; omega
   subst h5; subst h6
   rw [hm.hn] at hj
   cases hj
   rw [hm.hi] at hk
   cases hk
   exact new p bp.code.length _ atp (by simp [endWith])
  ·rw [if_neg hxv,a1]
   simp only
   by_cases e1:j=p
   ·subst e1
    rw [hm.hp] at hj
    cases hj
    exact new j k _ atp (by simp only [endWith]; rw [List.getElem?_append_left hkl]; exact hk)
   ·by_cases e2:j=n
    ·subst e2
     rw [hm.hn] at hj
     cases hj
     by_cases e3:k<i
     ·exact new j k _ atn (by simp only [cutAt]; rw [Wv,if_pos e3]; exact hk)
     ·have e4:k≠i:=fun e4=>by
       subst e4
       rw [hm.hi] at hk
       cases hk
       exact hxv hvy
      exact new j (k-1) _ atn (by simp only [cutAt]; rw [Wv,if_neg (by omega),Nat.sub_add_cancel (by omega)]; exact hk)
    ·have:=hat j
     rw [if_neg e1,if_neg e2,hj] at this
     exact new j k b2 this hk
end Ss

namespace Go.Vw
open Go.Proofs Go.RowKit
set_option maxRecDepth 10000
set_option maxHeartbeats 4000000
theorem opIndex_sl {s:Nat} {S:Store} {k:IntKind} {o off len n:Nat} {c} (h:S.get o=some c) (hn:n<len):qe s S (.slice o off len) (.int k (n:Int))=some (.ptr o (off+n*s)):=by
 simp [qe,h,hn]
def Store.push (S:Store) (o:Nat) (cs:List V) (x:V):Store:=((S.add (1,[x])).del o).add (1,cs++[x])
def Store.push0 (S:Store) (x:V):Store:=(S.add (1,[x])).add (1,[x])
section
variable {S:Store} {o:Nat} {cs:List V} {x:V}
theorem push_new:(S.push o cs x).get (S.nx+1)=some (1,cs++[x]):=by simp [Store.push,Store.add,Store.del]
theorem push0_new:(S.push0 x).get (S.nx+1)=some (1,[x]):=by simp [Store.push0,Store.add]
theorem push_old {o':Nat} (h:o'<S.nx) (hn:o'≠o):(S.push o cs x).get o'=S.get o':=by
 have e1 : ¬ o'=S.nx+1:=by omega
 have e2 : ¬ o'=S.nx:=by omega
 simp [Store.push,Store.add,Store.del,e1,e2,hn]
theorem push0_old {o':Nat} (h:o'<S.nx):(S.push0 x).get o'=S.get o':=by
 have e1 : ¬ o'=S.nx+1:=by omega
 have e2 : ¬ o'=S.nx:=by omega
 simp [Store.push0,Store.add,e1,e2]
theorem Agree.push {S0:Store} (h:Agree S0 S) (ho:S0.nx≤o):Agree S0 (S.push o cs x):=((h.add _).del ho).add _
theorem Agree.push0 {S0:Store} (h:Agree S0 S):Agree S0 (S.push0 x):=(h.add _).add _
theorem jbA {b len:Nat} (h:S.get o=some (1,cs)) (ho:o<S.nx) (hl:cs.length=len) (hb:(len+1)*b≤140737488355328) (hb1:len+1≤140737488355328) :
  qG 1 b (S.add (1,[x])) (.slice o 0 len) (.slice S.nx 0 1)=some (.slice (S.nx+1) 0 (len+1),S.push o cs x):=by
 have:o≠S.nx:=by omega
 subst hl
 simp [qG,qg,Store.add,Store.push,this,h,hb,hb1,Store.del]
 rfl
theorem jan {b:Nat} (hb:b≤140737488355328) :
  qG 1 b (S.add (1,[x])) .nils (.slice S.nx 0 1)=some (.slice (S.nx+1) 0 1,S.push0 x):=by
 simp [qG,qg,Store.add,Store.push0,hb]
end
namespace G
def DoneAt (S:Store) (b ow om:Nat) (dv:V) (done:List Nat):Prop :=
 (dv = .nils∧done=[]) ∨ ∃ od,dv = .slice od 0 done.length∧S.get od=some (1,done.map vnat)∧od≠ow∧od≠om∧b≤od∧od<S.nx
def WAt (S:Store) (g:List (List Nat)) (b ow om:Nat) (s:WS):Prop :=
 s.1.length=g.length∧ow≠om∧b≤ow∧b≤om∧ow<S.nx∧om<S.nx∧S.get om=some (1,s.1.map V.bool) ∧
 ∃ dv,S.get ow=some (3,[vl (vl vnat) g, .slice om 0 g.length,dv])∧DoneAt S b ow om dv s.2
end G
theorem get_upd (S:Store) (o:Nat) (c:Nat × List V):(S.upd o c).get o=some c:=by simp [Store.upd]
theorem KA (S:Store) {o o':Nat} (c:Nat × List V) (h:o'≠o):(S.upd o c).get o'=S.get o':=by simp [Store.upd,h]
theorem Walk_v (g:List (List Nat)) (hg:G.Ok g) (S0:Store) (ow om:Nat) : ∀ (f n:Nat) (s s':G.WS) (S:Store),n<g.length→G.walk g f n s=some s'→s'.2.length≤2^30→Agree S0 S→G.WAt S g S0.nx ow om s →
  VCalls Tryz.prog 86 [.ptr ow 0,vnat n] S (fun r S'=>r = .tuple []∧Agree S0 S'∧G.WAt S' g S0.nx ow om s')
 | 0,n,s,s',S,hn,hw,hb,hag,hW=>by cases hw
 | f+1,n,s,s',S,hn,hw,hb,hag,hW=>by
  rw [G.walk_succ] at hw
  obtain ⟨h1,h2,h3,h4,l1,l2,h5,dv,h6,h7⟩:=hW
  refine qB (c:=jf Tryz.f86) Tryz.func86 rfl rfl (by simp [Tryz.ntmps86]) ?_
  rw [Tryz.ntmps86]
  have hn1:n<s.1.length:=by omega
  repeat refine QS ?_
  refine jV rfl (by conv=>lhs; reduce) (by conv=>lhs; simp [-jX, -jP,h6,jG,qe,h5,hn,hn1]) ?_
  refine QN ?_
  have hag1:Agree S0 (S.upd om (1,(List.map V.bool s.1).set n (V.bool true))):=hag.upd h4 _
  have hW1:G.WAt (S.upd om (1,(List.map V.bool s.1).set n (V.bool true))) g S0.nx ow om (s.1.set n true,s.2):=by
   refine ⟨by simpa using h1,h2,h3,h4,l1,l2,by rw [get_upd, ←List.map_set],dv,by rw [KA _ _ h2]; exact h6, ?_⟩
   rcases h7 with h7 | ⟨od,k1,k2,k3,k4,k5,k6⟩
   ·exact .inl h7
   ·exact .inr ⟨od,k1,by rw [KA _ _ k4]; exact k2,k3,k4,k5,k6⟩
  generalize S.upd om (1,(List.map V.bool s.1).set n (V.bool true))=S1 at hag1 hW1 ⊢
  have hgn:g.getD n []=g[n]:=by simp [hn]
  rw [hgn] at hw
  obtain ⟨sk,hk,rfl⟩:=Option.map_eq_some_iff.1 hw
  repeat refine QS ?_
  refine jV rfl (by conv=>lhs; reduce) (by conv=>lhs; simp [-jX, -jP]) ?_
  refine QN ?_
  repeat refine QS ?_
  refine jH 0 rfl rfl ?_
  repeat refine QS ?_
  refine je [0,1,4] rfl (fun c σ S' => ∃ (k:Nat) (t:G.WS),k≤g[n].length∧c=g[n].length-k∧G.kids g f (g[n].drop k) t=some sk∧Agree S0 S'∧G.WAt S' g S0.nx ow om t∧σ=[(0, .ptr ow 0),(1,vnat n),(4,vnat k)]) g[n].length ?_ ?_
  ·exact ⟨0,_,by omega,rfl,hk,hag1,hW1,by simp [Fr.only,Fr.look,vnat,vint]⟩
  ·rintro c σ S' ⟨k,t,hkl,rfl,hd,hag2,hW2,rfl⟩
   obtain ⟨g1,g2,g3,g4,l3,l4,g5,du,g6,g7⟩:=hW2
   by_cases hk6:k<g[n].length
   ·have h7:(k:Int)<(g[n].length:Int):=by omega
    have hst:G.kids g f (g[n].drop k) t=if t.1.getD g[n][k] false then G.kids g f (g[n].drop (k+1)) t else (G.walk g f g[n][k] t).bind (G.kids g f (g[n].drop (k+1))):=by
     rw [List.drop_eq_getElem_cons hk6,G.kids_cons]
    rw [hst] at hd
    have hkn:g[n][k]<g.length:=hg.elt _ (List.getElem_mem hn) _ (List.getElem_mem hk6)
    have hkt:g[n][k]<t.1.length:=by omega
    have hr:=hg.row _ (List.getElem_mem hn)
    have hw1:IntKind.i64.wrap ((k:Int)+1)=(k:Int)+1:=wrap_i64 (by omega) (by omega)
    have hgd:t.1.getD g[n][k] false=t.1[g[n][k]]:=by simp [hkt]
    rw [hgd] at hd
    repeat refine QS ?_
    refine jV rfl (by conv=>lhs; reduce) (by conv=>lhs; simp [-jX, -jP,g6,jG,jU,jD,hn,h7]) ?_
    refine QN ?_
    repeat refine QS ?_
    refine jC rfl rfl rfl ?_
    repeat refine QS ?_
    refine jB rfl ?_
    repeat refine QS ?_
    refine jH 1 rfl rfl ?_
    have ix:=opIndex_sl (s:=1) (k := .i64) (off:=0) g5 hkn
    repeat refine QS ?_
    refine JZ rfl (by kernel_rfl) (by conv=>lhs; reduce) (by conv=>lhs; reduce) (by kernel_rfl) (by conv=>lhs; simp [-jX, -jP,g6,g5,jG,jU,ix,hn,hk6,hkt]) ?_
    refine QN ?_
    cases hm:t.1[g[n][k]]
    ·rw [hm] at hd
     obtain ⟨u,e1,e2⟩:=Option.bind_eq_some_iff.1 hd
     refine jC rfl rfl (by simp [ev,Fr.look,hm]) ?_
     repeat refine QS ?_
     refine jV rfl (by conv=>lhs; reduce) (by conv=>lhs; simp [-jX, -jP,g6,jG,jU,hn,hk6]) ?_
     refine qd rfl (Walk_v g hg S0 ow om f g[n][k] t u S' hkn e1 ?_ hag2 ⟨g1,g2,g3,g4,l3,l4,g5,du,g6,g7⟩) ?_
     ·have:=(G.kids_len (G.walk_len g f) _ _ _ e2).1
      simp at hb; omega
     ·rintro X S2 ⟨rfl,hag3,hW3⟩
      refine vseg_more (by conv=>lhs; simp [-jX, -jP]) ?_
      refine QN ?_
      repeat refine QS ?_
      refine jV rfl (by conv=>lhs; reduce) (by conv=>lhs; simp [-jX, -jP,hw1]) ?_
      refine QN ?_
      exact again ⟨Nat.sub_lt_sub_left (by omega) (Nat.lt_succ_self k),k+1,u,by omega,rfl,e2,hag3,hW3,by simp [Fr.only,Fr.look,vnat,vint]⟩
    ·rw [hm] at hd
     refine jF rfl rfl (by simp [ev,Fr.look,hm]) ?_
     repeat refine QS ?_
     refine jB rfl ?_
     repeat refine QS ?_
     refine jV rfl (by conv=>lhs; reduce) (by conv=>lhs; simp [-jX, -jP,hw1]) ?_
     refine QN ?_
     exact again ⟨Nat.sub_lt_sub_left (by omega) (Nat.lt_succ_self k),k+1,t,by omega,rfl,hd,hag2,⟨g1,g2,g3,g4,l3,l4,g5,du,g6,g7⟩,by simp [Fr.only,Fr.look,vnat,vint]⟩
   ·have h7 : ¬ (k:Int)<(g[n].length:Int):=by omega
    repeat refine QS ?_
    refine jV rfl (by conv=>lhs; reduce) (by conv=>lhs; simp [-jX, -jP,g6,jG,jU,jD,hn,h7]) ?_
    refine QN ?_
    repeat refine QS ?_
    refine jF rfl rfl rfl ?_
    repeat refine QS ?_
    refine jN 0 rfl rfl ?_
    have hz:g[n].drop k=[]:=by rw [List.drop_eq_nil_iff]; omega
    rw [hz,G.kids_nil] at hd
    cases hd
    rcases g7 with ⟨rfl,hnil⟩ | ⟨od,rfl,k2,k3,k4,k5,k6⟩
    ·have ap:=jan (S:=S') (x := .int .i64 (n:Int)) (b:=8) (by omega)
     have gp:(S'.push0 (.int .i64 (n:Int))).get ow=some (3,[vl (vl vnat) g,V.slice om 0 g.length,V.nils]):=(push0_old l3).trans g6
     repeat refine QS ?_
     refine jV rfl (by conv=>lhs; reduce) (by conv=>lhs; simp [-jX, -jP,g6,jG,qj,rep0,qh,ap,gp]) ?_
     refine QN ?_
     refine ⟨rfl,hag2.push0.upd g3 _,g1,g2,g3,g4,Nat.lt_add_right 2 l3,Nat.lt_add_right 2 l4, ?_,_,get_upd _ _ _, .inr ⟨S'.nx+1, ?_, ?_, ?_, ?_, ?_, ?_⟩⟩
     ·rw [KA _ _ (Ne.symm g2),push0_old l4]; exact g5
     ·simp [hnil]
     ·rw [KA _ _ (by omega),push0_new]; simp [hnil,vnat]
     ·omega
     ·omega
     ·omega
     ·show S'.nx+1<S'.nx+2; omega
    ·have hb2:sk.2.length+1≤2^30:=by simpa using hb
     have ap:=jbA (S:=S') (x := .int .i64 (n:Int)) (b:=8) k2 k6 (by simp:_=sk.2.length) (by omega) (by omega)
     have gp:(S'.push od (List.map vnat sk.2) (.int .i64 (n:Int))).get ow=some (3,[vl (vl vnat) g,V.slice om 0 g.length,V.slice od 0 sk.2.length]):=(push_old l3 (Ne.symm k3)).trans g6
     repeat refine QS ?_
     refine jV rfl (by conv=>lhs; reduce) (by conv=>lhs; simp [-jX, -jP,g6,jG,qj,rep0,qh,ap,gp]) ?_
     refine QN ?_
     refine ⟨rfl,(hag2.push k5).upd g3 _,g1,g2,g3,g4,Nat.lt_add_right 2 l3,Nat.lt_add_right 2 l4, ?_,_,get_upd _ _ _, .inr ⟨S'.nx+1, ?_, ?_, ?_, ?_, ?_, ?_⟩⟩
     ·rw [KA _ _ (Ne.symm g2),push_old l4 (Ne.symm k4)]; exact g5
     ·simp
     ·rw [KA _ _ (by omega),push_new]; simp [vnat]
     ·omega
     ·omega
     ·omega
     ·show S'.nx+1<S'.nx+2; omega
end Go.Vw

namespace Go.Vw
open Go.Proofs Go.RowKit
set_option maxRecDepth 10000
set_option maxHeartbeats 4000000
end Go.Vw

namespace Go.Vw
open Go.Proofs Go.RowKit
set_option maxRecDepth 10000
set_option maxHeartbeats 4000000
theorem jah (g:List (List Nat)) (hg:G.Ok g) (a:Option Nat) (ha : ∀ n,a=some n→n<g.length):VPure Tryz.prog 46 [vl (vl vnat) g,vint (a.elim (-1) Int.ofNat)] (vl V.bool (G.without g a)):=by
 intro S
 refine jb (c:=jf Tryz.f46) Tryz.func46 rfl rfl (by simp [Tryz.ntmps46]) ?_
 rw [Tryz.ntmps46]
 intro hwf
 have hm256:=hg.max
 have hp:0<g.length:=hg.pos
 have hb1:g.length*1≤140737488355328:=by omega
 have hb0:g.length≤140737488355328:=by omega
 have wat : ∀ m:List Bool,m.length=g.length→G.WAt (St S [] [some (1,m.map V.bool),some (3,[vl (vl vnat) g, .slice (lid S.nx 0) 0 g.length, .nils])]) g S.nx (lid S.nx 1) (lid S.nx 0) (m,[]):=by
  intro m hm
  refine ⟨hm,by simp [lid],by simp [lid],by simp [lid],by rw [qn]; simp [lid],by rw [qn]; simp [lid],by simp [jL], .nils,by simp [jL], .inl ⟨rfl,rfl⟩⟩
 cases a with
 | none =>
  obtain ⟨t,w1,w2,w3,w4⟩:=G.metFrom_ends hg (m:=List.replicate g.length false) (by simp) (G.rep_getD _ _)
  have hX:G.without g none=t.1:=w2
  have e1:(-1:Int) = -1:=rfl
  simp only [Option.elim]
  have hrep:List.replicate g.length (V.bool false)=(List.replicate g.length false).map V.bool:=by simp
  repeat (first|refine QG ?_|refine QY ?_ (r:=by conv=>lhs;simp[-List.map_set,QV,hb1,hb0]))
  repeat refine QS ?_
  refine QP ?_
  refine qd rfl (Walk_v g hg S (lid S.nx 1) (lid S.nx 0) g.length 0 _ t _ hp w1 (by omega) WD (by rw [hrep]; exact wat _ (by simp))) ?_
  rintro X T ⟨rfl,hag,hW⟩
  have hom:=hW.2.2.2.2.2.2.1
  obtain ⟨dv,how,_⟩:=hW.2.2.2.2.2.2.2
  have hol:=hW.2.2.2.2.2.1
  refine QM (by conv=>lhs;simp[-List.map_set,QV]) ?_
  refine QN ?_
  repeat (first|refine QG ?_|refine QY ?_ (r:=by conv=>lhs;simp[-List.map_set,QV,how]))
  have hfr:=Ghost.freeze1 (len:=g.length) hom (by simp [V.closed1]) (by simp [w4])
  rw [hX]
  exact JB hwf (hfr.toB _) (hag.del (by simp [lid])) rfl
 | some a =>
  have hal:=ha a rfl
  simp only [Option.elim]
  have hrep:List.replicate g.length (V.bool false)=(List.replicate g.length false).map V.bool:=by simp
  by_cases h0:a=0
  ·subst h0
   have hX:G.without g (some 0)=List.replicate g.length false:=by simp [G.without]
   repeat (first|refine QG ?_|refine QY ?_ (r:=by conv=>lhs;simp[-List.map_set,QV,hb1,hb0,hal]))
   have hfr:=frz1 (B:=S) (u:=[]) (l:=[some (1,(List.replicate g.length false).map V.bool),some (3,[vl (vl vnat) g,V.slice (lid S.nx 0) 0 g.length,V.nils])]) (k:=0) (len:=g.length) (cells:=(List.replicate g.length false).map V.bool) (by simp) rfl (by simp [V.closed1]) (by simp)
   rw [hX]
   rw [hrep]
   exact jh hwf (hfr.toB _) rfl
  ·have hz:((List.replicate g.length false).set a true).getD 0 false=false:=by rw [G.getD_set_other h0]; exact G.rep_getD _ _
   obtain ⟨t,w1,w2,w3,w4⟩:=G.metFrom_ends hg (m:=(List.replicate g.length false).set a true) (by simp) hz
   have hX:G.without g (some a)=t.1.set a false:=by simp [G.without,h0,w2]
   have ha0 : ¬ (a:Int)=0:=by omega
   have hat:a<t.1.length:=by omega
   repeat (first|refine QG ?_|refine QY ?_ (r:=by conv=>lhs;simp[-List.map_set,QV,hb1,hb0,hal,ha0,h0]))
   repeat refine QS ?_
   refine QP ?_
   refine qd rfl (Walk_v g hg S (lid S.nx 1) (lid S.nx 0) g.length 0 _ t _ hp w1 (by omega) WD (by rw [hrep, ←List.map_set]; exact wat _ (by simp))) ?_
   rintro X T ⟨rfl,hag,hW⟩
   have hom:=hW.2.2.2.2.2.2.1
   obtain ⟨dv,how,_⟩:=hW.2.2.2.2.2.2.2
   have hol:=hW.2.2.2.2.2.1
   refine QM (by conv=>lhs;simp[-List.map_set,QV]) ?_
   refine QN ?_
   have hne : ¬ lid S.nx 1=lid S.nx 0:=by simp [lid]
   repeat (first|refine QG ?_|refine QY ?_ (r:=by conv=>lhs;simp[-List.map_set,QV,how,hom,hal,hat,qv,JE,hne]))
   have hfr:=Ghost.freeze1 (S:=T.upd (lid S.nx 0) (1,(t.1.set a false).map V.bool)) (o:=lid S.nx 0) (cells:=(t.1.set a false).map V.bool) (len:=g.length) JE (jI V.bool (fun _=>rfl) _) (by simp [w4])
   rw [hX]
   exact JB hwf (hfr.toB _) ((hag.upd (by simp [lid]) _).del (by simp [lid])) rfl
end Go.Vw

namespace Go.Vw
open Go.Proofs Go.RowKit
set_option maxRecDepth 10000
set_option maxHeartbeats 4000000
def jY (g:List (List Nat)) (a:Nat):List V:=((List.range a).map (G.tableRow g)).map (vl V.bool)++List.replicate (g.length-a) .nils
theorem tabCells_set {g:List (List Nat)} {a:Nat} (h:a<g.length) (x:V):(jY g a).set a x=((List.range a).map (G.tableRow g)).map (vl V.bool)++x::List.replicate (g.length-(a+1)) .nils:=by
 have e:g.length-a=(g.length-(a+1))+1:=by omega
 rw [jY,e,List.replicate_succ,List.set_append_right _ _ (by simp)]
 simp
theorem Wa {g:List (List Nat)} {a:Nat} (h:a<g.length):(jY g a).set a (vl V.bool (G.tableRow g a))=jY g (a+1):=by
 rw [tabCells_set h,jY,List.range_succ]
 simp
theorem Jn (f:Nat→Nat) (g:List (List Nat)) (a:Nat):V.renL f (jY g a)=jY g a:=by
 simp only [jY,Zv,renL_vl]
 rw [qw,List.map_replicate,ren_nils]
theorem Jp (p:Nat→Bool) (g:List (List Nat)) (a:Nat):V.idsL p (jY g a)=true:=by
 simp only [jY,ZR,idsL_vl,Bool.true_and]
 rw [qN]; simp [ids_nils]
theorem tabCells_len {g:List (List Nat)} {a:Nat} (h:a≤g.length):(jY g a).length=g.length:=by simp [jY]; omega
def fill (f:Nat→Bool) (n b:Nat):List Bool:=(List.range b).map f++List.replicate (n-b) false
theorem fill_set {f:Nat→Bool} {n b:Nat} (h:b<n):(fill f n b).set b (f b)=fill f n (b+1):=by
 have e:n-b=(n-(b+1))+1:=by omega
 rw [fill,e,List.replicate_succ,List.set_append_right _ _ (by simp),fill,List.range_succ]
 simp
theorem fill_len {f:Nat→Bool} {n b:Nat} (h:b≤n):(fill f n b).length=n:=by simp [fill]; omega
theorem Table_v (g:List (List Nat)) (hg:G.Ok g):VPure Tryz.prog 59 [vl (vl vnat) g] (vl (vl V.bool) (G.table g)):=by
 intro S
 refine jb (c:=jf Tryz.f59) Tryz.func59 rfl rfl (by simp [Tryz.ntmps59]) ?_
 rw [Tryz.ntmps59]
 intro hwf
 have hm256:=hg.max
 have hb24:g.length*24≤140737488355328:=by omega
 have hb1:g.length*1≤140737488355328:=by omega
 have hb0:g.length≤140737488355328:=by omega
 generalize hall:G.without g none=all
 have hal:all.length=g.length:=by rw [←hall]; exact G.without_length hg none
 repeat (first|refine QG ?_|refine QY ?_)
 repeat refine QS ?_
 refine QP ?_
 refine jn rfl (hall▸jah g hg none (by simp)) ?_
 refine QM (by conv=>lhs;simp[-List.map_set,QV]) ?_
 refine QN ?_
 repeat (first|refine QG ?_|refine QY ?_ (r:=by conv=>lhs;simp[-List.map_set,QV,hb24,hb0]))
 repeat refine QS ?_
 refine je [0,3,4,5] rfl (fun c σ S' => ∃ (a:Nat),a≤g.length∧c=g.length-a∧σ=[(0,vl (vl vnat) g),(3,vl V.bool all),(4, .slice (lid S.nx 0) 0 g.length),(5,vnat a)]∧S'=St S [] [some (1,jY g a)]) g.length ?_ ?_
 ·exact ⟨0,by omega,rfl,by simp [Fr.only,Fr.look,vnat],by simp [jY]⟩
 ·rintro c σ T ⟨a,ha,rfl,rfl,rfl⟩
  by_cases hlt:a<g.length
  ·have hw1:IntKind.i64.wrap ((a:Int)+1)=(a:Int)+1:=wrap_i64 (by omega) (by omega)
   have htl:=tabCells_len ha
   have haa:a<all.length:=by omega
   have hat:a<(jY g a).length:=by omega
   obtain ⟨b,hb⟩ : ∃ b,all[a]=b:=⟨_,rfl⟩
   have hbd:all.getD a false=b:=by simp [haa,hb]
   cases b with
   | false =>
    have hrow:G.tableRow g a=List.replicate g.length false:=by simp only [G.tableRow,hall,hbd]; simp
    repeat (first|refine QG ?_|refine QY ?_ (r:=by conv=>lhs;simp[-List.map_set,QV,hb1,hb0,hlt,hat,haa]))
    refine jC rfl rfl (by simp [ev,Fr.look,hb]) ?_
    repeat refine QS ?_
    refine jN 1 rfl rfl ?_
    apply jt
    ·exact Reach.frzCell (k:=0) (j:=1) (i:=a) (n:=g.length) (cells':=(List.replicate g.length false).map V.bool) (by omega) (by simp) (by simp) rfl (by simp [hat]) (by simp) (jI V.bool (fun _=>rfl) _) (by simp)
    have e:=Wa hlt
    rw [hrow] at e
    simp only [List.set_cons_succ,List.set_cons_zero,List.set_set]
    rw [show V.list ((List.replicate g.length false).map V.bool)=vl V.bool (List.replicate g.length false) from rfl,e]
    repeat (first|refine QG ?_|refine QY ?_ (r:=by conv=>lhs;simp[-List.map_set,QV,hw1]))
    refine qi [0] (by conv=>lhs; simp [Fr.only]) hwf (by decide) (by simp [-List.map_set,Jn,Jp]) (by conv=>lhs; simp [-List.map_set,Jn,Jp]) (by conv=>lhs; simp [-List.map_set,Jn,Jp]) (by conv=>lhs; simp [-List.map_set,Jn,Jp]) ⟨?_,a+1,hlt,rfl,by simp [vnat],rfl⟩
    omega
   | true =>
    generalize hl:G.without g (some a)=l
    have hll:l.length=g.length:=by rw [←hl]; exact G.without_length hg _
    obtain ⟨f,hf⟩ : ∃ f:Nat→Bool,f=fun b=>all.getD b false && !(l.getD b false):=⟨_,rfl⟩
    have hrow:G.tableRow g a=(List.range g.length).map f:=by rw [hf]; simp only [G.tableRow,hall,hbd,hl]; simp
    repeat (first|refine QG ?_|refine QY ?_ (r:=by conv=>lhs;simp[-List.map_set,QV,hb1,hb0,hlt,hat,haa,hb]))
    repeat refine QS ?_
    refine QP ?_
    refine jn rfl (hl▸jah g hg (some a) (by simpa using hlt)) ?_
    refine QM (by conv=>lhs;simp[-List.map_set,QV]) ?_
    refine QN ?_
    repeat (first|refine QG ?_|refine QY ?_)
    repeat refine QS ?_
    refine je [0,3,4,5,6,7] rfl (fun c σ S' => ∃ (b:Nat),b≤g.length∧c=g.length-b∧σ=[(0,vl (vl vnat) g),(3,vl V.bool all),(4, .slice (lid S.nx 0) 0 g.length),(5,vnat a),(6,vl V.bool l),(7,vnat b)]∧S'=St S [] [some (1,(jY g a).set a (.slice (lid S.nx 1) 0 g.length)),some (1,(fill f g.length b).map V.bool)]) g.length ?_ ?_
    ·exact ⟨0,by omega,rfl,by simp [Fr.only,Fr.look,vnat],by simp [fill]⟩
    ·rintro c σ T ⟨b,hbl,rfl,rfl,rfl⟩
     by_cases hbt:b<g.length
     ·have hw2:IntKind.i64.wrap ((b:Int)+1)=(b:Int)+1:=wrap_i64 (by omega) (by omega)
      have hba:b<all.length:=by omega
      have hbll:b<l.length:=by omega
      obtain ⟨x,hx⟩ : ∃ x,all[b]=x:=⟨_,rfl⟩
      have hfl:=fill_len (f:=f) hbl
      have hbf:b<(fill f g.length b).length:=by omega
      have hset:=fill_set (f:=f) hbt
      have hfb:f b=(x && !l[b]):=by rw [hf]; simp [hba,hbll,hx]
      rw [hfb] at hset
      cases x with
      | true =>
       repeat (first|refine QG ?_|refine QY ?_ (r:=by conv=>lhs;simp[-List.map_set,QV,hbt]))
       repeat refine QS ?_
       refine jQ (St S [] [some (1,(jY g a).set a (.slice (lid S.nx 1) 0 g.length)),none]) (St S [] [some (1,(jY g a).set a (.slice (lid S.nx 1) 0 g.length)),some (1,(fill f g.length b).map V.bool)]) [] rfl (by kernel_rfl) (by conv=>lhs; reduce) (by conv=>lhs; reduce) (by kernel_rfl) (by kernel_rfl) (jv (by simp [subU,shpU,subL,shpL])) (by conv=>lhs; simp [-List.map_set,QV,hlt,hat,hbt,hba,hbll,hx,hbf]) ?_
       refine jg rfl (by conv=>lhs;simp[-List.map_set,QV,hbt,hbf]) (jv (by simp [subU,shpU,subL,shpL])) ?_
       refine QN ?_
       repeat (first|refine QG ?_|refine QY ?_)
       show jy _ _ _ _ _ _ _
       exact again ⟨Nat.sub_lt_sub_left hbt (Nat.lt_succ_self b),b+1,hbt,rfl,by simp [Fr.only,Fr.look,vnat]; exact hw2,by rw [←hset]; simp⟩
      | false =>
       repeat (first|refine QG ?_|refine QY ?_ (r:=by conv=>lhs;simp[-List.map_set,QV,hbt]))
       repeat refine QS ?_
       refine jQ (St S [] [some (1,(jY g a).set a (.slice (lid S.nx 1) 0 g.length)),none]) (St S [] [some (1,(jY g a).set a (.slice (lid S.nx 1) 0 g.length)),some (1,(fill f g.length b).map V.bool)]) [] rfl (by kernel_rfl) (by conv=>lhs; reduce) (by conv=>lhs; reduce) (by kernel_rfl) (by kernel_rfl) (jv (by simp [subU,shpU,subL,shpL])) (by conv=>lhs; simp [-List.map_set,QV,hlt,hat,hbt,hba,hbll,hx,hbf]) ?_
       refine jg rfl (by conv=>lhs;simp[-List.map_set,QV,hbt,hbf]) (jv (by simp [subU,shpU,subL,shpL])) ?_
       refine QN ?_
       repeat (first|refine QG ?_|refine QY ?_)
       show jy _ _ _ _ _ _ _
       exact again ⟨Nat.sub_lt_sub_left hbt (Nat.lt_succ_self b),b+1,hbt,rfl,by simp [Fr.only,Fr.look,vnat]; exact hw2,by rw [←hset]; simp⟩
     ·have hbg:b=g.length:=by omega
      subst hbg
      repeat refine QS ?_
      refine QP ?_ (r:=by conv=>lhs;simp[-List.map_set,QV,hbt])
      refine QN ?_
      repeat refine QS ?_
      refine jF rfl rfl rfl ?_
      repeat refine QS ?_
      refine jN 2 rfl rfl ?_
      apply jt
      ·exact Reach.frzCell (k:=0) (j:=1) (i:=a) (n:=g.length) (cells':=(G.tableRow g a).map V.bool) (by omega) (by simp) (by simp) rfl (by simp [hat]) (by rw [hrow]; simp [fill]) (jI V.bool (fun _=>rfl) _) (by simp [G.tableRow_length])
      have e:=Wa hlt
      simp only [List.set_cons_succ,List.set_cons_zero,List.set_set]
      rw [show V.list ((G.tableRow g a).map V.bool)=vl V.bool (G.tableRow g a) from rfl,e]
      repeat (first|refine QG ?_|refine QY ?_ (r:=by conv=>lhs;simp[-List.map_set,QV,hw1]))
      refine qi [0] (by conv=>lhs; simp [Fr.only]) hwf (by decide) (by simp [-List.map_set,Jn,Jp]) (by conv=>lhs; simp [-List.map_set,Jn,Jp]) (by conv=>lhs; simp [-List.map_set,Jn,Jp]) (by conv=>lhs; simp [-List.map_set,Jn,Jp]) ⟨?_,a+1,hlt,rfl,by simp [vnat],rfl⟩
      omega
  ·repeat (first|refine QG ?_|refine QY ?_ (r:=by conv=>lhs;simp[-List.map_set,QV,hlt]))
   have hag:a=g.length:=by omega
   subst hag
   have e:jY g g.length=(G.table g).map (vl V.bool):=by simp [jY,G.table]
   rw [e]
   exact jh hwf ((frz1 (by simp) (by rfl) (jI (vl V.bool) (fun _=>rfl) _) (by simp [G.table])).toB _) rfl
end Go.Vw

namespace Go.Vw
open Go.Proofs Go.RowKit
set_option maxRecDepth 10000
set_option maxHeartbeats 4000000
theorem RNearest_v (g:List (List Nat)) (hg:G.Ok g) (hr:VPure Tryz.prog 45 [vl (vl vnat) g] (.bool true)):VPure Tryz.prog 47 [vl (vl vnat) g] (.tuple [vl vint (G.rNear g),vint 0]):=by
 intro S
 refine jb (c:=jf Tryz.f47) Tryz.func47 rfl rfl (by simp [Tryz.ntmps47]) ?_
 rw [Tryz.ntmps47]
 intro hwf
 have hm256:=hg.max
 repeat (first|refine QG ?_|refine QY ?_)
 repeat refine QS ?_
 refine QP ?_
 refine jn rfl (hr) ?_
 refine QM (by conv=>lhs;simp[-List.map_set,QV]) ?_
 refine QN ?_
 repeat (first|refine QG ?_|refine QY ?_)
 repeat refine QS ?_
 refine QP ?_
 refine jn rfl (Table_v g hg) ?_
 refine QM (by conv=>lhs;simp[-List.map_set,QV]) ?_
 refine QN ?_
 generalize ht:G.table g=t
 have htl:t.length=g.length:=by rw [←ht]; simp [G.table]
 have hrl : ∀ a,a<g.length → ∃ r,t[a]? = some r∧r.length=g.length:=by
  intro a ha
  refine ⟨G.tableRow g a,by rw [←ht]; simp [G.table,ha],G.tableRow_length g a⟩
 obtain ⟨f,hf⟩ : ∃ f:Nat→Int,f=fun b=>(G.bestTo t g.length b g.length).1:=⟨_,rfl⟩
 have hfin:G.rNear g=upTo f g.length:=by rw [hf]; simp only [G.rNear,ht,upTo]
 rw [hfin]
 repeat refine QS ?_
 refine QP ?_
 refine QN ?_
 refine zd 5 1 rfl (by conv=>lhs; simp [Fr.set]) ?_
 repeat (first|refine QG ?_|refine QY ?_)
 repeat refine QS ?_
 refine je [0,4,5,6] rfl (fun c σ S' => ∃ (b:Nat),b≤g.length∧c=g.length-b∧σ=[(0,vl (vl vnat) g),(4,vl (vl V.bool) t),(5, .slice (lid S.nx 0) 0 b),(6,vnat b)]∧S'=St S [] [some (1,(upTo f b).map vint)]) g.length ?_ ?_
 ·exact ⟨0,by omega,rfl,by simp [Fr.only,Fr.look,vnat],by simp [upTo_zero]⟩
 ·rintro c σ T ⟨b,hb,rfl,rfl,rfl⟩
  by_cases hbt:b<g.length
  ·have hwb:IntKind.i64.wrap ((b:Int)+1)=(b:Int)+1:=wrap_i64 (by omega) (by omega)
   repeat (first|refine QG ?_|refine QY ?_ (r:=by conv=>lhs;simp[-List.map_set,QV,hbt]))
   repeat refine QS ?_
   refine je [0,4,5,6,7,8,9] rfl (fun c σ S' => ∃ (a:Nat),a≤g.length∧c=g.length-a∧σ=[(0,vl (vl vnat) g),(4,vl (vl V.bool) t),(5, .slice (lid S.nx 0) 0 b),(6,vnat b),(7,vint (G.bestTo t g.length b a).1),(8,vnat (G.bestTo t g.length b a).2),(9,vnat a)]∧S'=St S [] [some (1,(upTo f b).map vint)]) g.length ?_ ?_
   ·exact ⟨0,by omega,rfl,by simp [Fr.only,Fr.look,vnat,vint,G.bestTo],by simp⟩
   ·rintro c σ T ⟨a,ha,rfl,rfl,rfl⟩
    by_cases hat:a<g.length
    ·have hwa:IntKind.i64.wrap ((a:Int)+1)=(a:Int)+1:=wrap_i64 (by omega) (by omega)
     have hst : ∀ x,x=G.bestTo t g.length b (a+1)→x=if a≠b∧G.tabAt t a b=true∧(G.bestTo t g.length b a).2<G.cntTo t a g.length then ((a:Int),G.cntTo t a g.length) else G.bestTo t g.length b a:=fun x h=>h
     have hst:=hst _ rfl
     obtain ⟨r,hr,hrl'⟩:=hrl a hat
     have hta:a<t.length:=by omega
     have hra:t[a]=r:=by simpa [hta] using hr
     by_cases hab:a=b
     ·subst hab
      rw [if_neg (by simp)] at hst
      repeat (first|refine QG ?_|refine QY ?_ (r:=by conv=>lhs;simp[-List.map_set,QV,hat]))
      show jy _ _ _ _ _ _ _
      exact again ⟨Nat.sub_lt_sub_left hat (Nat.lt_succ_self a),a+1,hat,rfl,by rw [hst]; simp [Fr.only,Fr.look,vnat,vint]; exact hwa,rfl⟩
     ·have hab' : ¬ (a:Int)=(b:Int):=by omega
      by_cases htab:G.tabAt t a b=true
      ·have htb:r[b]'(by omega)=true:=by
        have:b<r.length:=by omega
        simpa [G.tabAt,hta,hra,this] using htab
       have hbr:b<r.length:=by omega
       have hab' : ¬ (a:Int)=(b:Int):=by omega
       repeat (first|refine QG ?_|refine QY ?_ (r:=by conv=>lhs;simp[-List.map_set,QV,hat,hab,hab',hta,hra,hbr,htb]))
       repeat refine QS ?_
       refine je [0,4,5,6,7,8,9,10,11] rfl (fun c σ S' => ∃ (k:Nat),k≤g.length∧c=g.length-k∧σ=[(0,vl (vl vnat) g),(4,vl (vl V.bool) t),(5, .slice (lid S.nx 0) 0 b),(6,vnat b),(7,vint (G.bestTo t g.length b a).1),(8,vnat (G.bestTo t g.length b a).2),(9,vnat a),(10,vnat (G.cntTo t a k)),(11,vnat k)]∧S'=St S [] [some (1,(upTo f b).map vint)]) g.length ?_ ?_
       ·exact ⟨0,by omega,rfl,by simp [Fr.only,Fr.look,vnat,vint,G.cntTo],rfl⟩
       ·rintro c σ T ⟨k,hk,rfl,rfl,rfl⟩
        have hcle:=G.cntTo_le t a k
        by_cases hkt:k<g.length
        ·have hwk:IntKind.i64.wrap ((k:Int)+1)=(k:Int)+1:=wrap_i64 (by omega) (by omega)
         have hwc:IntKind.i64.wrap ((G.cntTo t a k:Int)+1)=(G.cntTo t a k:Int)+1:=wrap_i64 (by omega) (by omega)
         obtain ⟨q,hq,hql⟩:=hrl k hkt
         have htk:k<t.length:=by omega
         have hqk:t[k]=q:=by simpa [htk] using hq
         have haq:a<q.length:=by omega
         obtain ⟨x,hx⟩ : ∃ x,q[a]=x:=⟨_,rfl⟩
         have hxt:G.tabAt t k a=x:=by simp [G.tabAt,htk,hqk,haq,hx]
         have hcs:G.cntTo t a (k+1)=if x=true then G.cntTo t a k+1 else G.cntTo t a k:=by simp only [G.cntTo,hxt]
         cases x with
         | true =>
          repeat (first|refine QG ?_|refine QY ?_ (r:=by conv=>lhs;simp[-List.map_set,QV,hkt,htk,hqk,haq,hx]))
          show jy _ _ _ _ _ _ _
          exact again ⟨Nat.sub_lt_sub_left hkt (Nat.lt_succ_self k),k+1,hkt,rfl,by rw [hcs]; simp [Fr.only,Fr.look,vnat,vint,hwk,hwc],rfl⟩
         | false =>
          repeat (first|refine QG ?_|refine QY ?_ (r:=by conv=>lhs;simp[-List.map_set,QV,hkt,htk,hqk,haq,hx]))
          show jy _ _ _ _ _ _ _
          exact again ⟨Nat.sub_lt_sub_left hkt (Nat.lt_succ_self k),k+1,hkt,rfl,by rw [hcs]; simp [Fr.only,Fr.look,vnat,vint,hwk,hwc],rfl⟩
        ·have hkg:k=g.length:=by omega
         subst hkg
         by_cases hgt:(G.bestTo t g.length b a).2<G.cntTo t a g.length
         ·rw [if_pos ⟨hab,htab,hgt⟩] at hst
          repeat (first|refine QG ?_|refine QY ?_ (r:=by conv=>lhs;simp[-List.map_set,QV,hkt,hgt]))
          show jy _ _ _ _ _ _ _
          exact again ⟨Nat.sub_lt_sub_left hat (Nat.lt_succ_self a),a+1,hat,rfl,by rw [hst]; simp [Fr.only,Fr.look,vnat,vint,hwa],rfl⟩
         ·rw [if_neg (fun h=>hgt h.2.2)] at hst
          repeat (first|refine QG ?_|refine QY ?_ (r:=by conv=>lhs;simp[-List.map_set,QV,hkt,hgt]))
          show jy _ _ _ _ _ _ _
          exact again ⟨Nat.sub_lt_sub_left hat (Nat.lt_succ_self a),a+1,hat,rfl,by rw [hst]; simp [Fr.only,Fr.look,vnat,vint,hwa],rfl⟩
      ·have htb:r[b]'(by omega)=false:=by
        have:b<r.length:=by omega
        simpa [G.tabAt,hta,hra,this] using htab
       have hbr:b<r.length:=by omega
       rw [if_neg (fun h=>htab h.2.1)] at hst
       repeat (first|refine QG ?_|refine QY ?_ (r:=by conv=>lhs;simp[-List.map_set,QV,hat,hab,hab',hta,hra,hbr,htb]))
       show jy _ _ _ _ _ _ _
       exact again ⟨Nat.sub_lt_sub_left hat (Nat.lt_succ_self a),a+1,hat,rfl,by rw [hst]; simp [Fr.only,Fr.look,vnat,vint,hwa],rfl⟩
    ·have hag:a=g.length:=by omega
     subst hag
     have hfb:f b=(G.bestTo t g.length b g.length).1:=by rw [hf]
     have hc8:(b+1)*8≤140737488355328:=by omega
     have hc1:b+1≤140737488355328:=by omega
     repeat (first|refine QG ?_|refine QY ?_ (r:=by conv=>lhs;simp[-List.map_set,QV,hat,hc8,hc1]))
     refine QA [2] (h:=⟨?_,b+1,hbt,rfl,by simp [vnat,hwb],by rw [upTo_succ,hfb]; simp [vint]⟩)
     omega
  ·repeat (first|refine QG ?_|refine QY ?_ (r:=by conv=>lhs;simp[-List.map_set,QV,hbt]))
   have hag:b=g.length:=by omega
   subst hag
   exact jh hwf ((Ghost.tuple [] [vint 0] (frz1 (by simp) (by rfl) (jI vint (fun _=>rfl) _) (by simp [upTo_len]))).toB _) rfl
end Go.Vw

namespace Go.Vw
open Go.Proofs Go.RowKit
set_option maxRecDepth 10000
set_option maxHeartbeats 4000000
theorem FromAll_v (g:List (List Int)) (h:Fits g):VPure Tryz.prog 78 [vl (vl vint) g] (.tuple [vl (vl vnat) (G.fromI g),vint (G.err g)]):=by
 cases hr:G.right g with
 | false =>
  simp only [G.fromI,G.err,hr]
  exact FromErr_v g h.1 h.2 hr
 | true =>
  simp only [G.fromI,G.err,hr,if_true]
  rw [G.right_enc hr]
  exact From_v _ (G.right_ok hr) (WM g h hr)
end Go.Vw
