import Derived.Test.YtenhhokhkkfgbaaGreatC17
/- Part of the proof. -/
set_option linter.unusedVariables false
set_option linter.unusedSimpArgs false
set_option maxRecDepth 10000
set_option maxHeartbeats 4000000
namespace Ss
def rowOf (b:Block):List Int:=b.term.to.map Edge.to
def succs (bs:List Block):List (List Int):=bs.map rowOf
end Ss
namespace Go.Vw
open Go.Proofs Go.RowKit
attribute [-simp] List.map_set
theorem count_mem : ∀ {bs:List Ss.Block} {b:Ss.Block},b∈bs->b.code.length<=Ss.count bs
 | x::bs,b,h=>by
  simp only [Ss.count,List.map_cons,List.sum_cons];rcases aL.1 h with rfl | h
  ·omega
  ·have:=count_mem h;simp only [Ss.count] at this;omega
theorem zt {f:Ss.Fn} (h:f.small=true):f.types.length<=4096/\f.blocks.length<=4096/\(∀ b∈f.blocks,b.params.length<=4096/\b.term.to.length<=4096/\b.term.args.length<=4096/\b.code.length<=4096)/\Ss.count f.blocks<=4096:=by
 obtain ⟨h1,h2,h3⟩:=(Ss.small_iff f).1 h;simp only [Ss.Fn.heads,af,aj] at h1;refine ⟨h1.1.1.1,h1.1.1.2,fun b hb => ?_,h3⟩;have:=h2 b hb;simp only [Ss.Block.small,af,aj] at this;refine ⟨this.1.1.1.1,this.1.1.1.2,this.1.1.2, ?_⟩;exact bh (count_mem hb) h3
theorem Succ_v (f:Ss.Fn) (hf:f.Fits):bS 99 [jI f] (vl (vl vint) (if f.small then Ss.succs f.blocks else [])):=by
 intro S;have cs:=small_v f hf;have hsb := @zt f;generalize f.small=sm at *
 obtain ⟨⟨fi,fo⟩,ts,bs⟩:=f;have cs':bS 58 [.agg [vl vint fi,vl vint fo,vl vint ts,vl je bs]] (.bool sm):=cs
 by_cases hs:sm=true
 case neg =>
  rw [if_neg hs];have hs':sm=false:=by simpa using hs
  refine QB (c:=jc Tryz.f99) Tryz.func99 Tryz.ntmps99 fun hwf=>?_
  refine bw ?_
  refine QP ?_;refine QL (cs') ?_;refine bB hs' ?_;refine bR ?_
  exact jf (l:=[_]) hwf (Ghost.toB (Ghost.nils_list _) _) rfl
 rw [if_pos hs];obtain ⟨_,hbl,hbf,_⟩:=hsb hs;simp only at hbl hbf ⊢;refine QB (c:=jc Tryz.f99) Tryz.func99 Tryz.ntmps99 fun hwf=>?_
 refine bw ?_
 refine QP ?_;refine QL (cs') ?_;refine bB hs ?_;refine QN ?_;refine QT ?_;refine jG rfl rfl rfl ?_;refine QT ?_;refine jF rfl ?_;refine QY ?_;refine zx 3 1 rfl (by conv=>lhs; simp [Fr.set]) ?_
 refine bw ?_
 refine QO [3,13,14,15] ?_;refine QK [1] ?_;refine QT ?_;refine jd [3,13,14,15] rfl (fun c σ S' => ∃ (k:Nat) (out:List (List Int)),k<=bs.length/\c=bs.length-k/\out.length=k/\out=(bs.take k).map Ss.rowOf/\σ=[(3, .slice (lid S.nx 0) 0 k),(13,vl je bs),(14,vnat bs.length),(15,vnat k)]/\S'=St S [] [some (1,out.map (vl vint))]) bs.length ?_ ?_
 ·exact ⟨0,[],by omega,rfl,rfl,by simp,by simp [Fr.only],by simp⟩
 ·rintro c σ T ⟨k,out,hk,rfl,hol,ho,rfl,rfl⟩
  by_cases hkt:k<bs.length
  ·have hw:=jg hkt (by omega);obtain ⟨_,htl,_,_⟩:=hbf _ (ah hkt);obtain ⟨⟨ps,code,⟨tk,ta,to,az⟩⟩,hx⟩ : ∃ b,bs[k]=b:=⟨_,rfl⟩
   rw [hx] at htl;simp only at htl;have htk:bs.take (k+1)=bs.take k++[⟨ps,code,⟨tk,ta,to,az⟩⟩]:=by rw [List.take_add_one,ac hkt,hx]; rfl
   refine bM hkt ?_;refine QT ?_;refine jJ rfl rfl rfl ?_;refine QT ?_;refine jF rfl ?_;refine QT ?_;refine jV 1 rfl rfl ?_;refine QY ?_ (r:=by conv=>lhs;simp[QV,hkt,hx]);refine QY ?_;refine zx 6 1 rfl (by conv=>lhs; simp [Fr.set]) ?_
   refine bw ?_
   refine QO [3,6,13,14,15,21,22,23] ?_;refine QK [0,2] ?_;refine QT ?_;refine jd [3,6,13,14,15,21,22,23] rfl (fun c σ S' => ∃ (j:Nat) (r:List Int),j<=to.length/\c=to.length-j/\r.length=j/\r=(to.take j).map Ss.Edge.to/\σ=[(3, .slice (lid S.nx 0) 0 k),(6, .slice (lid S.nx 1) 0 j),(13,vl je bs),(14,vnat bs.length),(15,vnat k),(21,vl jk to),(22,vnat to.length),(23,vnat j)]/\S'=St S [] [some (1,out.map (vl vint)),some (1,r.map vint)]) to.length ?_ ?_
   ·exact ⟨0,[],by omega,rfl,rfl,by simp,by simp [Fr.only],by simp⟩
   ·rintro c σ T ⟨j,r,hj,rfl,hrl,hr,rfl,rfl⟩
    by_cases hjt:j<to.length
    ·have hwj:=jg hjt (by omega);have hb:(j+1)*8<=140737488355328:=by omega
     have hb':j+1<=140737488355328:=by omega
     obtain ⟨⟨xt,xa⟩,hx2⟩ : ∃ b,to[j]=b:=⟨_,rfl⟩
     have htj:to.take (j+1)=to.take j++[⟨xt,xa⟩]:=by rw [List.take_add_one,ac hjt,hx2]; rfl
     refine bJ hjt hx2 hb hb' hrl ?_
     refine QA [0,4] (h:=⟨?_,j+1,r++[xt],hjt,rfl,by simp [hrl],by rw [htj,List.map_append,hr]; rfl,by simp [hwj],by simp⟩);omega
    ·have hje:j=to.length:=by omega
     subst hje;rw [List.take_length] at hr;have hb:(k+1)*24<=140737488355328:=by omega
     have hb':k+1<=140737488355328:=by omega
     refine bM hjt ?_;refine QT ?_;refine jG rfl rfl rfl ?_;refine QT ?_;refine qb 2 rfl rfl ?_;refine jt 6 rfl ((frz1 (k:=1) (len:=to.length) (by simp) (by rfl) (jq vint (fun _=>rfl) _) (by simpa using hrl))) (by conv=>lhs; simp [Fr.set]) ?_;simp only [aq,au]
     refine bv hb hb' hol ?_
     refine QA [3] (h:=⟨?_,k+1,out++[r],hkt,rfl,by simp [hol],by rw [htk,List.map_append, <-ho,hr]; rfl,by simp [hw],by simp [vl]⟩);omega
  ·have hke:k=bs.length:=by omega
   subst hke;rw [List.take_length] at ho
   refine bx hkt ?_
   rw [Ss.succs, <-ho];exact jf hwf ((frz1 (by simp) (by rfl) (jq (vl vint) (fun _=>rfl) _) (by simpa using hol)).toB _) rfl
theorem RDominates_v (l:List Int) (a b:Int) (hl:l.length<2^63):bS 111 [vl vint l,vint a,vint b] (.bool (G.dominates l a b)):=by
 intro S;refine qK rfl ?_;refine qD (c:=jc Tryz.f111) Tryz.func111 rfl rfl (by simp [Tryz.ntmps111]) ?_;rw [Tryz.ntmps111];refine QY ?_
 by_cases ha:G.okIx l a
 ·by_cases hb:G.okIx l b
  ·obtain ⟨ha1,ha2⟩:=ha;obtain ⟨hb1,hb2⟩:=hb;have e1 : ¬ a<0:=by omega
   have e2 : ¬ (l.length:Int)<=a:=by omega
   have e3 : ¬ b<0:=by omega
   have e4 : ¬ (l.length:Int)<=b:=by omega
   refine QY ?_ (r:=by conv=>lhs;simp[QV,jy,e1,e2,e3,e4]);refine QT ?_;refine jG rfl rfl rfl ?_;refine QT ?_;refine jF rfl ?_;refine QY ?_;refine QT ?_;refine jV 0 rfl rfl ?_;refine QT ?_;refine jd [0,1,2,7] rfl (fun n σ S' => ∃ (k:Nat) (c:Int),k<=257/\n=257-k/\G.okIx l c/\G.dom1 l a (257-k) c=G.dom1 l a 257 b/\σ=[(0,vl vint l),(1,vint a),(2,vint c),(7,vnat k)]/\S'=S) 257 ?_ ?_
   ·exact ⟨0,b,by omega,rfl,⟨hb1,hb2⟩,rfl,by simp [Fr.only,Fr.look,vnat,vint],rfl⟩
   ·rintro n σ S' ⟨k,c,hk,rfl,hc,hd,rfl,rfl⟩;have hfin:G.dominates l a b=G.dom1 l a 257 b:=by simp [G.dominates,G.okIx,ha1,ha2]
    obtain ⟨hc1,hc2⟩:=hc;have hcn:c.toNat<l.length:=by omega
    refine QY ?_;refine QT ?_;refine Yk rfl rfl rfl (k<=256) (by first | (simp; done) | (simp; omega)) ?_ ?_
    ·intro hk6;have hst:G.dom1 l a (257-k) c=if a=c then true else G.dom1 l a (256-k) (l[c.toNat]):=by
      rw [show 257-k=(256-k)+1 from by omega,G.dom1,if_pos ⟨hc1,hc2⟩];simp [hcn]
     refine QT ?_;refine jF rfl ?_;refine QT ?_;refine jV 1 rfl rfl ?_;refine QY ?_;refine QT ?_;refine Yk rfl rfl rfl (a=c) (by first | (simp; done) | (simp; omega)) ?_ ?_
     ·intro hac;refine QY ?_;refine QT ?_;refine jC rfl ?_;rw [hfin, <-hd,hst,if_pos hac];exact Gives.same (Agree.refl S')
     ·intro hac;rw [if_neg hac] at hst;refine QT ?_;refine jF rfl ?_;refine QY ?_ (r:=by conv=>lhs;simp[QV,jar,hc1,hcn]);have fls : ¬ G.okIx l l[c.toNat]->G.dom1 l a (256-k) l[c.toNat]=false:=by
       intro h
       cases 256-k<;>simp [G.dom1,h]
      by_cases hx:l[c.toNat]<0
      ·refine QY ?_ (r:=by conv=>lhs;simp[QV,jy,hx]);refine QT ?_;refine jJ rfl rfl rfl ?_;refine QY ?_;refine QT ?_;refine jC rfl ?_;rw [hfin, <-hd,hst,fls (by simp [G.okIx]; omega)];exact Gives.same (Agree.refl S')
      ·by_cases hy:(l.length:Int)<=l[c.toNat]
       ·refine QY ?_ (r:=by conv=>lhs;simp[QV,jy,hx,hy]);refine QT ?_;refine jJ rfl rfl rfl ?_;refine QY ?_;refine QT ?_;refine jC rfl ?_;rw [hfin, <-hd,hst,fls (by simp [G.okIx]; omega)];exact Gives.same (Agree.refl S')
       ·refine QY ?_ (r:=by conv=>lhs;simp[QV,jy,hx,hy]);refine QT ?_;refine jG rfl rfl rfl ?_;refine QT ?_;refine jF rfl ?_;have hw:IntKind.i64.wrap ((k:Int)+1)=(k:Int)+1:=wrap_i64 (by omega) (by omega);refine bM hw ?_;exact again ⟨ao (by omega) (aY k),k+1,l[c.toNat],by omega,rfl,⟨by omega,by omega⟩,by rw [<-hd,hst]; congr 1; omega,by simp [Fr.only,Fr.look,vnat,vint],rfl⟩
    ·intro hk6;refine QT ?_;refine qb 0 rfl rfl ?_;refine QY ?_;refine QT ?_;refine jC rfl ?_;rw [hfin, <-hd,show 257-k=0 from by omega];exact Gives.same (Agree.refl S')
  ·have hfin:G.dominates l a b=false:=by simp [G.dominates,G.dom1,hb]
   obtain ⟨ha1,ha2⟩:=ha;have e1 : ¬ a<0:=by omega
   have e2 : ¬ (l.length:Int)<=a:=by omega
   rw [hfin]
   by_cases e3:b<0
   ·refine QY ?_ (r:=by conv=>lhs;simp[QV,jy,e1,e2,e3]);refine QT ?_;refine jJ rfl rfl rfl ?_;refine QY ?_;refine QT ?_;refine jC rfl ?_;exact Gives.same (Agree.refl S)
   ·have e4:(l.length:Int)<=b:=by simp [G.okIx] at hb; omega
    refine QY ?_ (r:=by conv=>lhs;simp[QV,jy,e1,e2,e3,e4]);refine QT ?_;refine jJ rfl rfl rfl ?_;refine QY ?_;refine QT ?_;refine jC rfl ?_;exact Gives.same (Agree.refl S)
 ·have hfin:G.dominates l a b=false:=by simp [G.dominates,ha]
  rw [hfin]
  by_cases e1:a<0
  ·refine QY ?_ (r:=by conv=>lhs;simp[QV,jy,e1]);refine QT ?_;refine jJ rfl rfl rfl ?_;refine QY ?_;refine QT ?_;refine jC rfl ?_;exact Gives.same (Agree.refl S)
  ·have e2:(l.length:Int)<=a:=by simp [G.okIx] at ha; omega
   refine QY ?_ (r:=by conv=>lhs;simp[QV,jy,e1,e2]);refine QT ?_;refine jJ rfl rfl rfl ?_;refine QY ?_;refine QT ?_;refine jC rfl ?_;exact Gives.same (Agree.refl S)
theorem there_v (l:List Int) (n:Int):bS 140 [vint n, .ref (vl vint l)] (.bool (decide (G.okIx l n))):=by
 intro S;refine qK rfl ?_;refine qD (c:=jc Tryz.f140) Tryz.func140 rfl rfl (by simp [Tryz.ntmps140]) ?_;rw [Tryz.ntmps140];refine QY ?_
 by_cases h0:0<=n
 ·refine QY ?_ (r:=by conv=>lhs;simp[QV,jy,h0]);refine QT ?_;refine jC rfl ?_;have:decide (G.okIx l n)=decide (n<(l.length:Int)):=by simp [G.okIx,h0]
  rw [this];exact Gives.same (Agree.refl S)
 ·refine QY ?_ (r:=by conv=>lhs;simp[QV,jy,h0]);refine QT ?_;refine jC rfl ?_;have:decide (G.okIx l n)=false:=by simp [G.okIx,h0]
  rw [this];exact Gives.same (Agree.refl S)
theorem Dominates_v (l:List Int) (a b:Int) (hl:l.length<2^63):bS 130 [vl vint l,vint a,vint b] (.bool (G.dominates l a b)):=by
 intro S;refine qK rfl ?_;refine qD (c:=jc Tryz.f130) Tryz.func130 rfl rfl (by simp [Tryz.ntmps130]) ?_;rw [Tryz.ntmps130];refine QY ?_;refine jt 3 rfl (Ghost.box (get_add _ _) (jbT _ _)) (by conv=>lhs; simp [Fr.set]) ?_;have hag:Agree S ((S.add (1,[vl vint l])).del S.nx):=((Agree.refl S).add _).del (bf _);generalize (S.add (1,[vl vint l])).del S.nx=S1 at hag ⊢;refine QY ?_;refine QP ?_;refine qx rfl rfl rfl (there_v l a) ?_;refine QW ?_
 by_cases ha:G.okIx l a
 ·have hfin:G.dominates l a b=G.dom1 l a 257 b:=by simp [G.dominates,ha]
  rw [hfin];refine jG rfl rfl (by simp [ev,Fr.look,ha]) ?_;refine QT ?_;refine jF rfl ?_;refine QY ?_;refine QT ?_;refine jV 0 rfl rfl ?_;refine QT ?_;refine jd [0,1,2,3,7,8] rfl (fun n σ S' => ∃ (k:Nat) (c:Int),k<=257/\n=257-k/\G.dom1 l a (257-k) c=G.dom1 l a 257 b/\σ=[(0,vl vint l),(1,vint a),(2,vint c),(3, .ref (vl vint l)),(7, .func 140 [.ref (vl vint l)]),(8,vnat k)]/\S'=S1) 257 ?_ ?_
  ·exact ⟨0,b,by omega,rfl,rfl,by simp [Fr.only,Fr.look,vnat,vint],rfl⟩
  ·rintro n σ S' ⟨k,c,hk,rfl,hd,rfl,rfl⟩
   by_cases hk6:k<=256
   ·have hst:G.dom1 l a (257-k) c=if G.okIx l c then (if a=c then true else G.dom1 l a (256-k) (l.getD c.toNat 0)) else false:=by
     rw [show 257-k=(256-k)+1 from by omega,G.dom1]
    have h7:(k:Int)<=256:=by omega
    refine bH h7 ?_;refine qx rfl rfl rfl (there_v l c) ?_;refine QW ?_
    by_cases hc:G.okIx l c
    ·refine jJ rfl rfl (by simp [ev,Fr.look,hc]) ?_;rw [if_pos hc] at hst;obtain ⟨hc1,hc2⟩:=hc;have hcn:c.toNat<l.length:=by omega
     refine QT ?_;refine jF rfl ?_;refine QT ?_;refine jV 1 rfl rfl ?_;refine QY ?_;refine QT ?_;refine Yk rfl rfl rfl (a=c) (by first | (simp; done) | (simp; omega)) ?_ ?_
     ·intro hac;refine QY ?_;refine QT ?_;refine jC rfl ?_;rw [<-hd,hst,if_pos hac];exact Gives.same hag
     ·intro hac;rw [if_neg hac] at hst;have hw:IntKind.i64.wrap ((k:Int)+1)=(k:Int)+1:=wrap_i64 (by omega) (by omega);refine QT ?_;refine jF rfl ?_;refine QY ?_ (r:=by conv=>lhs;simp[QV,jar,hc1,hcn]);refine bM hw ?_;exact again ⟨ao (by omega) (aY k),k+1,l[c.toNat],by omega,rfl,by rw [<-hd,hst,show 257-(k+1)=256-k from by omega]; simp [hcn],by simp [Fr.only,Fr.look,vnat,vint],rfl⟩
    ·refine jG rfl rfl (by simp [ev,Fr.look,hc]) ?_;refine QT ?_;refine qb 0 rfl rfl ?_;refine QY ?_;refine QT ?_;refine jC rfl ?_;rw [<-hd,hst,if_neg hc];exact Gives.same hag
   ·have h7 : ¬ (k:Int)<=256:=by omega
    refine bM h7 ?_;refine QT ?_;refine jG rfl rfl rfl ?_;refine QT ?_;refine qb 0 rfl rfl ?_;refine QY ?_;refine QT ?_;refine jC rfl ?_;rw [<-hd,show 257-k=0 from by omega];exact Gives.same hag
 ·have hfin:G.dominates l a b=false:=by simp [G.dominates,ha]
  rw [hfin];refine jJ rfl rfl (by simp [ev,Fr.look,ha]) ?_;refine QY ?_;refine QT ?_;refine jC rfl ?_;exact Gives.same hag
end Go.Vw
/-
 Graphs that may be: lists of lists of numbers of nodes.
-/
namespace Go.Vw.G
open Go.Vw
structure Ok (g:List (List Nat)):Prop where
 pos:1<=g.length
 max:g.length<=256
 row : ∀ l∈g,l.length<=128
 elt : ∀ l∈g, ∀ n∈l,n<g.length
def nats (g:List (List Int)):List (List Nat):=g.map (·.map Int.toNat)
theorem nats_length (g:List (List Int)):(nats g).length=g.length:=by simp [nats]
theorem rowOk_iff {n:Nat} {l:List Int}:rowOk n l=true↔l.length<=128 /\ ∀ x∈l,0<=x/\x<n:=by
 simp only [rowOk,af,aj,Bool.not_eq_true',List.any_eq_false,wild,bq,not_or,aj];constructor
 ·rintro ⟨h1,h2⟩; exact ⟨h1,fun x hx=>by have:=h2 x hx; omega⟩
 ·rintro ⟨h1,h2⟩; exact ⟨h1,fun x hx=>by have:=h2 x hx; omega⟩
theorem right_ok {g:List (List Int)} (h:right g=true):Ok (nats g):=by
 simp only [right,af,aj,aD,rowOk_iff] at h;obtain ⟨⟨h1,h2⟩,h3⟩:=h;refine ⟨by rw [nats_length]; exact h1,by rw [nats_length]; exact h2, ?_, ?_⟩
 ·intro l hl;obtain ⟨r,hr,rfl⟩:=bk.1 hl;rw [aI]; exact (h3 r hr).1
 ·intro l hl n hn;obtain ⟨r,hr,rfl⟩:=bk.1 hl;obtain ⟨x,hx,rfl⟩:=bk.1 hn;have:=(h3 r hr).2 x hx;rw [nats_length]; omega
theorem right_enc {g:List (List Int)} (h:right g=true):vl (vl vint) g=vl (vl vnat) (nats g):=by
 simp only [right,af,aj,aD,rowOk_iff] at h;obtain ⟨_,h3⟩:=h;unfold vl nats;simp only [V.list.injEq,List.map_map];refine a7 fun r hr => ?_
 simp only [Function.comp,List.map_map,V.list.injEq];refine a7 fun x hx => ?_
 have:=(h3 r hr).2 x hx;simp only [Function.comp,vint,vnat,V.int.injEq,true_and];omega
abbrev WS:=List Bool × List Nat
def walk (g:List (List Nat)):Nat->Nat->WS->Option WS
 | 0,_,_=>none
 | f+1,n,s=>((g.getD n []).foldlM (fun (s:WS) k=>if s.1.getD k false then some s else walk g f k s) ((s.1.set n true,s.2):WS)).map fun (s:WS)=>((s.1,s.2++[n]):WS)
def kids (g:List (List Nat)) (f:Nat) (l:List Nat) (s:WS):Option WS:=l.foldlM (fun (s:WS) k=>if s.1.getD k false then some s else walk g f k s) s
theorem walk_succ (g:List (List Nat)) (f n:Nat) (s:WS):walk g (f+1) n s=(kids g f (g.getD n []) (s.1.set n true,s.2)).map fun s=>(s.1,s.2++[n]):=rfl
theorem kids_nil (g:List (List Nat)) (f:Nat) (s:WS):kids g f [] s=some s:=rfl
theorem kids_cons (g:List (List Nat)) (f k:Nat) (l:List Nat) (s:WS):kids g f (k::l) s=if s.1.getD k false then kids g f l s else (walk g f k s).bind (kids g f l):=by
 simp only [kids,List.foldlM_cons]
 cases s.1.getD k false
 ·simp; rfl
 ·simp
theorem kids_len {g:List (List Nat)} {f:Nat} (ih : ∀ n s s',walk g f n s=some s'->s.2.length<=s'.2.length/\s'.1.length=s.1.length) : ∀ (l:List Nat) (s s':WS),kids g f l s=some s'->s.2.length<=s'.2.length/\s'.1.length=s.1.length
 | [],s,s',h=>by cases h; exact ⟨bf _,rfl⟩
 | k::l,s,s',h=>by
  rw [kids_cons] at h;split at h
  ·exact kids_len ih l s s' h
  ·obtain ⟨t,h1,h2⟩:=aN.1 h;have a:=ih _ _ _ h1;have b:=kids_len ih l t s' h2;omega
theorem walk_len (g:List (List Nat)) : ∀ (f n:Nat) (s s':WS),walk g f n s=some s'->s.2.length<=s'.2.length/\s'.1.length=s.1.length
 | 0,n,s,s',h=>by cases h
 | f+1,n,s,s',h=>by
  rw [walk_succ] at h;obtain ⟨t,h1,rfl⟩:=av.1 h;have:=kids_len (walk_len g f) _ _ _ h1;simp at this ⊢;omega
end Go.Vw.G
/-
 The walk in depth ends, with a stack or without.
-/
namespace Go.Vw.G
open Go.Vw
theorem WM {g:List (List Nat)} {f:Nat} (ih : ∀ n s t,walk g f n s=some t->walk g (f+1) n s=some t) : ∀ (l:List Nat) (s t:WS),kids g f l s=some t->kids g (f+1) l s=some t
 | [],s,t,h=>h
 | k::l,s,t,h=>by
  rw [kids_cons] at h ⊢;split
  ·rename_i hm; rw [if_pos hm] at h; exact WM ih l s t h
  ·rename_i hm;rw [if_neg hm] at h;obtain ⟨u,h1,h2⟩:=aN.1 h;rw [ih _ _ _ h1];exact WM ih l u t h2
theorem walk_mono {g:List (List Nat)} : ∀ (f n:Nat) (s t:WS),walk g f n s=some t->walk g (f+1) n s=some t
 | 0,n,s,t,h=>by cases h
 | f+1,n,s,t,h=>by
  rw [walk_succ] at h ⊢;obtain ⟨u,h1,rfl⟩:=av.1 h;rw [WM (walk_mono f) _ _ _ h1]
  rfl
theorem kids_mono' {g:List (List Nat)} {f:Nat} {l:List Nat} {s t:WS} (h:kids g f l s=some t):kids g (f+1) l s=some t:=WM (walk_mono f) l s t h
def unmet (m:List Bool):Nat:=m.count false
theorem unmet_set {m:List Bool} {n:Nat} (h:n<m.length) (hf:m[n]=false):unmet (m.set n true)+1=unmet m:=by
 unfold unmet
 induction m generalizing n with
 | nil=>simp at h
 | cons b m ih =>
  cases n with
  | zero=>simp at hf; subst hf; simp
  | succ n =>
   simp at h hf;have:=ih h hf;simp only [aq,List.count_cons];omega
theorem jaC {g:List (List Nat)} {f:Nat} (ih : ∀ n (s:WS),n<g.length->s.1.length=g.length->s.1.getD n false=false->unmet s.1<=f -> ∃ t,walk g f n s=some t/\t.2.length+unmet t.1=s.2.length+unmet s.1/\t.1.length=g.length/\unmet t.1<=unmet s.1) :
  ∀ (l:List Nat) (s:WS),(∀ k∈l,k<g.length)->s.1.length=g.length->unmet s.1<=f -> ∃ t,kids g f l s=some t/\t.2.length+unmet t.1=s.2.length+unmet s.1/\t.1.length=g.length/\unmet t.1<=unmet s.1
 | [],s,_,hs,_=>⟨s,rfl,rfl,hs,bf _⟩
 | k::l,s,hl,hs,hu=>by
  rw [kids_cons]
  cases hm:s.1.getD k false with
  | true=>simpa using jaC ih l s (fun k hk=>hl k (List.mem_cons_of_mem _ hk)) hs hu
  | false =>
   obtain ⟨t,h1,h2,h3,h4⟩:=ih k s (hl k List.mem_cons_self) hs hm hu;obtain ⟨u,k1,k2,k3,k4⟩:=jaC ih l t (fun k hk=>hl k (List.mem_cons_of_mem _ hk)) h3 (by omega);exact ⟨u,by simp [h1,k1],by omega,k3,by omega⟩
theorem ZN {g:List (List Nat)} (hg:Ok g) : ∀ (f n:Nat) (s:WS),n<g.length->s.1.length=g.length->s.1.getD n false=false->unmet s.1<=f -> ∃ t,walk g f n s=some t/\t.2.length+unmet t.1=s.2.length+unmet s.1/\t.1.length=g.length/\unmet t.1<=unmet s.1
 | 0,n,s,hn,hs,hm,hu=>by
  exfalso
  have hn':n<s.1.length:=by omega
  have:s.1[n]=false:=by simpa [hn'] using hm
  have:=unmet_set hn' this;omega
 | f+1,n,s,hn,hs,hm,hu=>by
  have hn':n<s.1.length:=by omega
  have hf:s.1[n]=false:=by simpa [hn'] using hm
  have hc:=unmet_set hn' hf;rw [walk_succ];obtain ⟨t,h1,h2,h3,h4⟩:=jaC (ZN hg f) (g.getD n []) (s.1.set n true,s.2) (by
   have:g.getD n []=g[n]:=by simp [hn]
   rw [this]; exact hg.elt _ (ah hn)) (by simpa using hs) (by simp only; omega)
  simp only at h2 h4;exact ⟨(t.1,t.2++[n]),by rw [h1]; rfl,by simp; omega,h3,by simp; omega⟩
theorem unmet_rep (n:Nat):unmet (List.replicate n false)=n:=by simp [unmet,List.count_replicate]
theorem order_ends {g:List (List Nat)} (hg:Ok g) : ∃ t,walk g g.length 0 (List.replicate g.length false,[])=some t/\t.2.length<=g.length/\t.1.length=g.length:=by
 obtain ⟨t,h1,h2,h3,_⟩:=ZN hg g.length 0 (List.replicate g.length false,[]) hg.pos (by simp) (by
  have:=hg.pos;simp [List.getElem?_replicate,aU Nat.zero_lt_one this]) (by simp [unmet_rep])
 simp only [unmet_rep,aM] at h2;exact ⟨t,h1,by omega,h3⟩
def Kf (g:List (List Nat)) (f:Nat) (next:List Nat):List Nat->WS->Option WS
 | [],s=>some s
 | n::r,s=>(kids g f ((g.getD n []).drop (next.getD n 0)) s).bind fun t=>Kf g f next r (t.1,t.2++[n])
theorem Yq {g:List (List Nat)} {f:Nat} {next:List Nat} {n k:Nat} : ∀ (r:List Nat) (s:WS),n∉r->Kf g f (next.set n k) r s=Kf g f next r s
 | [],s,_=>rfl
 | m::r,s,h=>by
  simp only [aL,not_or] at h;simp only [Kf];have e:(next.set n k).getD m 0=next.getD m 0:=by
   simp [ag,aR h.1]
  rw [e]
  congr 1
  funext t
  exact Yq r _ h.2
structure At (g:List (List Nat)) (f:Nat) (fin:WS) (met:List Bool) (next stack out:List Nat):Prop where
 lm:met.length=g.length
 ln:next.length=g.length
 nd:stack.Nodup
 lt : ∀ n∈stack,n<g.length
 on : ∀ n∈stack,met.getD n false=true
 le : ∀ n,next.getD n 0<=(g.getD n []).length
 zero : ∀ n,met.getD n false=false->next.getD n 0=0
 go:Kf g f next stack.reverse (met,out)=some fin
theorem At.start {g:List (List Nat)} (hg:Ok g) {f:Nat} {fin:WS} (h:walk g (f+1) 0 (List.replicate g.length false,[])=some fin) :
  At g f fin ((List.replicate g.length false).set 0 true) (List.replicate g.length 0) [0] []:=by
 have hp:=hg.pos;refine ⟨by simp,by simp,by simp,by simp; omega,by
  intro n hn;simp at hn; subst hn;have:0<(List.replicate g.length false).length:=by rw [List.length_replicate]; omega
  simp only [ag,aZ this,aS],fun n => ?_,fun n _ => ?_, ?_⟩
 ·simp [List.getElem?_replicate]; split<;>simp
 ·simp [List.getElem?_replicate]; split<;>simp
 ·rw [walk_succ] at h;obtain ⟨t,h1,h2⟩:=av.1 h;have e:(List.replicate g.length 0).getD 0 0=0:=by simp [List.getElem?_replicate]; split<;>simp
  simp only [List.reverse_cons,List.reverse_nil,List.nil_append,Kf,e,List.drop_zero];rw [h1];simp [<-h2]
section
variable {g:List (List Nat)} {f:Nat} {fin:WS} {met:List Bool} {next stack out:List Nat} {n:Nat}
theorem getD_set_self' {α:Type} {l:List α} {i:Nat} {a d:α} (h:i<l.length):(l.set i a).getD i d=a:=by simp [h]
theorem getD_set_other {α:Type} {l:List α} {i j:Nat} {a d:α} (h:i≠j):(l.set i a).getD j d=l.getD j d:=by
 simp [aR h]
theorem At.seen (h:At g f fin met next (stack++[n]) out) (hk:next.getD n 0<(g.getD n []).length) (hm:met.getD ((g.getD n [])[next.getD n 0]) false=true):At g f fin met (next.set n (next.getD n 0+1)) (stack++[n]) out:=by
 have hn:n<g.length:=h.lt n (by simp);have hnn:n<next.length:=by rw [h.ln]; exact hn
 have hnot:n∉stack.reverse:=by
  have:=h.nd;rw [List.nodup_append] at this;intro hc;exact this.2.2 n (by simpa using hc) n (by simp) rfl
 refine ⟨h.lm,by simpa using h.ln,h.nd,h.lt,h.on,fun m => ?_,fun m hmm => ?_, ?_⟩
 ·by_cases e:n=m
  ·subst e; rw [getD_set_self' hnn]; omega
  ·rw [getD_set_other e]; exact h.le m
 ·by_cases e:n=m
  ·subst e; have:=h.on n (by simp); rw [hmm] at this; cases this
  ·rw [getD_set_other e]; exact h.zero m hmm
 ·have hgo:=h.go;rw [List.reverse_append] at hgo ⊢;simp only [List.reverse_cons,List.reverse_nil,List.nil_append,List.singleton_append,Kf] at hgo ⊢;rw [getD_set_self' hnn];rw [am hk,kids_cons,if_pos (by exact hm)] at hgo;rw [<-hgo]
  congr 1
  funext t
  exact Yq _ _ hnot
theorem At.push (h:At g f fin met next (stack++[n]) out) (hg:Ok g) (hk:next.getD n 0<(g.getD n []).length) {c:Nat} (hc:(g.getD n [])[next.getD n 0]=c) (hm:met.getD c false=false):At g f fin (met.set c true) (next.set n (next.getD n 0+1)) (stack++[n]++[c]) out:=by
 have hn:n<g.length:=h.lt n (by simp);have hnn:n<next.length:=by rw [h.ln]; exact hn
 have hcl:c<g.length:=by
  have e:g.getD n []=g[n]:=by simp [hn]
  rw [<-hc];have:=hg.elt (g.getD n []) (by rw [e]; exact ah hn) _ (ah hk);exact this
 have hcm:c<met.length:=by rw [h.lm]; exact hcl
 have hcn:c∉stack++[n]:=fun hin=>by have:=h.on c hin; rw [hm] at this; cases this
 have hne:n≠c:=fun e=>hcn (by rw [<-e]; simp)
 have hnot:n∉stack.reverse:=by
  have:=h.nd;rw [List.nodup_append] at this;intro hc;exact this.2.2 n (by simpa using hc) n (by simp) rfl
 refine ⟨by simpa using h.lm,by simpa using h.ln, ?_, ?_, ?_,fun m => ?_,fun m hmm => ?_, ?_⟩
 ·rw [List.nodup_append];exact ⟨h.nd,by simp,fun a ha b hb=>by simp at hb; subst hb; intro e; subst e; exact hcn ha⟩
 ·intro m hmm;rcases aG.1 hmm with hm1 | hm1
  ·exact h.lt m hm1
  ·simp at hm1; subst hm1; exact hcl
 ·intro m hmm
  by_cases e:c=m
  ·subst e; exact getD_set_self' hcm
  ·rw [getD_set_other e];rcases aG.1 hmm with hm1 | hm1
   ·exact h.on m hm1
   ·simp at hm1; exact absurd hm1.symm e
 ·by_cases e:n=m
  ·subst e; rw [getD_set_self' hnn]; omega
  ·rw [getD_set_other e]; exact h.le m
 ·have hmc:m≠c:=by
   intro e; subst e;rw [getD_set_self' hcm] at hmm; cases hmm
  rw [getD_set_other (Ne.symm hmc)] at hmm
  by_cases e:n=m
  ·subst e; have:=h.on n (by simp); rw [hmm] at this; cases this
  ·rw [getD_set_other e]; exact h.zero m hmm
 ·have hgo:=h.go;rw [List.reverse_append] at hgo ⊢;rw [List.reverse_append];simp only [List.reverse_cons,List.reverse_nil,List.nil_append,List.singleton_append,Kf,List.cons_append] at hgo ⊢;rw [getD_set_self' hnn,getD_set_other hne,h.zero c hm,List.drop_zero];rw [am hk,kids_cons,hc,if_neg (by simpa using hm)] at hgo;obtain ⟨t,h1,h2⟩:=aN.1 hgo;obtain ⟨u,h3,h4⟩:=aN.1 h1
  cases f with
  | zero=>cases h3
  | succ f =>
   rw [walk_succ] at h3;obtain ⟨v,h5,h6⟩:=av.1 h3;simp only at h5;rw [kids_mono' h5];subst h6;simp only [Option.bind_some];rw [h4];simp only [Option.bind_some];rw [Yq _ _ hnot];exact h2
theorem At.pop (h:At g f fin met next (stack++[n]) out) (hk : ¬ next.getD n 0<(g.getD n []).length):At g f fin met next stack (out++[n]):=by
 refine ⟨h.lm,h.ln,(List.nodup_append.1 h.nd).1,fun m hm=>h.lt m (by simp [hm]),fun m hm=>h.on m (by simp [hm]),h.le,h.zero, ?_⟩;have hgo:=h.go;rw [List.reverse_append] at hgo;simp only [List.reverse_cons,List.reverse_nil,List.nil_append,List.singleton_append,Kf] at hgo;rw [List.drop_eq_nil_of_le (by omega),kids_nil] at hgo;exact hgo
theorem At.done (h:At g f fin met next [] out):fin=(met,out):=by
 have:=h.go;simp only [List.reverse_nil,Kf,ay] at this;exact this.symm
theorem At.seen' (h:At g f fin met next (stack++[n]) out) {row:List Nat} {k c:Nat} (hrow:g[n]? = some row) (hk:next[n]? = some k) (hc:row[k]? = some c) (hm:met[c]? = some true):At g f fin met (next.set n (k+1)) (stack++[n]) out:=by
 have ek:next.getD n 0=k:=by simp [ag,hk]
 have er:g.getD n []=row:=by simp [ag,hrow]
 have hlt:=(ae.1 hc)
 have:=h.seen;subst ek; subst er;exact this hlt.1 (by rw [hlt.2]; simp [hm])
theorem At.push' (h:At g f fin met next (stack++[n]) out) (hg:Ok g) {row:List Nat} {k c:Nat} (hrow:g[n]? = some row) (hk:next[n]? = some k) (hc:row[k]? = some c) (hm:met[c]? = some false):At g f fin (met.set c true) (next.set n (k+1)) (stack++[n]++[c]) out:=by
 have ek:next.getD n 0=k:=by simp [ag,hk]
 have er:g.getD n []=row:=by simp [ag,hrow]
 have hlt:=(ae.1 hc)
 subst ek; subst er;exact h.push hg hlt.1 hlt.2 (by simp [hm])
theorem At.pop' (h:At g f fin met next (stack++[n]) out) {row:List Nat} {k:Nat} (hrow:g[n]? = some row) (hk:next[n]? = some k) (hge : ¬ k<row.length):At g f fin met next stack (out++[n]):=by
 have ek:next.getD n 0=k:=by simp [ag,hk]
 have er:g.getD n []=row:=by simp [ag,hrow]
 exact h.pop (by rw [ek,er]; exact hge)
theorem jbB : ∀ (r:List Nat) (s t:WS),Kf g f next r s=some t->s.2.length+r.length<=t.2.length
 | [],s,t,h=>by cases h; simp
 | m::r,s,t,h=>by
  simp only [Kf] at h;obtain ⟨u,h1,h2⟩:=aN.1 h;have a:=(kids_len (walk_len g f) _ _ _ h1).1;have b:=jbB r _ _ h2;simp at b ⊢;omega
theorem At.out_le (h:At g f fin met next stack out):out.length+stack.length<=fin.2.length:=by
 have:=jbB _ _ _ h.go;simpa using this
end
def zZ (g:List (List Nat)) (m:List Bool):List Bool:=((walk g g.length 0 (m,[])).getD (m,[])).1
def without (g:List (List Nat)):Option Nat->List Bool
 | none=>zZ g (List.replicate g.length false)
 | some a=>if a=0 then List.replicate g.length false else (zZ g ((List.replicate g.length false).set a true)).set a false
theorem metFrom_ends {g:List (List Nat)} (hg:Ok g) {m:List Bool} (hm:m.length=g.length) (h0:m.getD 0 false=false) : ∃ t,walk g g.length 0 (m,[])=some t/\zZ g m=t.1/\t.2.length<=g.length/\t.1.length=g.length:=by
 have hu:unmet m<=g.length:=by rw [<-hm]; exact List.count_le_length
 obtain ⟨t,h1,h2,h3,_⟩:=ZN hg g.length 0 (m,[]) hg.pos hm h0 hu;exact ⟨t,h1,by simp [zZ,h1],by simp at h2; omega,h3⟩
theorem JA {g:List (List Nat)} (hg:Ok g) {m:List Bool} (hm:m.length=g.length) (h0:m.getD 0 false=false):(zZ g m).length=g.length:=by
 obtain ⟨t,h1,h2,h3,h4⟩:=metFrom_ends hg hm h0;rw [h2]; exact h4
theorem rep_getD (n k:Nat):(List.replicate n false).getD k false=false:=by
 simp [List.getElem?_replicate]; split<;>rfl
theorem without_length {g:List (List Nat)} (hg:Ok g) (a:Option Nat):(without g a).length=g.length:=by
 cases a with
 | none=>exact JA hg (by simp) (rep_getD _ _)
 | some a =>
  simp only [without];split
  ·simp
  ·rename_i h;rw [List.length_set];exact JA hg (by simp) (by rw [getD_set_other h]; exact rep_getD _ _)
def order (g:List (List Nat)):List Nat:=((walk g g.length 0 (List.replicate g.length false,[])).getD ([],[])).2.reverse
def tableRow (g:List (List Nat)) (a:Nat):List Bool :=
 if (without g none).getD a false then (List.range g.length).map fun b=>(without g none).getD b false && !((without g (some a)).getD b false) else List.replicate g.length false
def table (g:List (List Nat)):List (List Bool):=(List.range g.length).map (tableRow g)
def tabAt (t:List (List Bool)) (a b:Nat):Bool:=(t.getD a []).getD b false
def cntTo (t:List (List Bool)) (a:Nat):Nat->Nat
 | 0=>0
 | c+1=>if tabAt t c a then cntTo t a c+1 else cntTo t a c
def bestTo (t:List (List Bool)) (n b:Nat):Nat->Int × Nat
 | 0=>(-1,0)
 | a+1=>if a≠b/\tabAt t a b=true/\(bestTo t n b a).2<cntTo t a n then ((a:Int),cntTo t a n) else bestTo t n b a
def rNear (g:List (List Nat)):List Int:=(List.range g.length).map fun b=>(bestTo (table g) g.length b g.length).1
theorem cntTo_le (t:List (List Bool)) (a:Nat) : ∀ c,cntTo t a c<=c
 | 0=>bf _
 | c+1=>by have:=cntTo_le t a c; simp only [cntTo]; split<;>omega
theorem tableRow_length (g:List (List Nat)) (a:Nat):(tableRow g a).length=g.length:=by simp only [tableRow]; split<;>simp
end Go.Vw.G
namespace Go.Vw
open Go.Proofs Go.RowKit
attribute [-simp] List.map_set
theorem u64_bits:IntKind.u64.bits=64:=nr rfl
theorem mask_small {n:Nat} (h:n<4294967296):n % 18446744073709551616 &&& 4294967295=n:=by
 have e:n % 18446744073709551616=n:=by omega
 rw [e];have:=Nat.and_two_pow_sub_one_eq_mod n 32;rw [show (4294967295:Nat)=2^32-1 from rfl,this];exact Nat.mod_eq_of_lt h
theorem u64_wrap {n:Nat} (h:n<4294967296):IntKind.u64.wrap (n:Int)=n:=by
 have e:IntKind.u64.wrap (n:Int)=(n:Int) % 18446744073709551616:=rfl;rw [e]; omega
theorem shr_small {n:Nat} (h:n<4294967296):Int.fdiv (n:Int) 4294967296=0:=by
 rw [Int.fdiv_eq_ediv_of_nonneg _ (by omega)]; omega
theorem Mul64_v (n:Nat) (h:n<4294967296):bS 147 [.int .u64 1, .int .u64 (n:Int)] (.tuple [.int .u64 0, .int .u64 (n:Int)]):=by
 intro S;refine QB (c:=jc Tryz.f147) Tryz.func147 Tryz.ntmps147 fun hwf=>?_
 have h1:=mask_small h;have h2:=u64_wrap h;have h3:=shr_small h;have h4:IntKind.u64.wrap 0=0:=by decide
 have h5:IntKind.u64.wrap 1=1:=by decide
 have h6:Int.fdiv 1 4294967296=0:=by decide
 have h7:Int.fdiv 0 4294967296=0:=by decide
 repeat first|refine QG ?_|refine QY ?_ (r:=by conv=>lhs;simp[QV,u64_bits,h1,h2,h3,h4,h5,h6,h7])
 exact ja (l:=[]) hwf (by simp [resV,Fr.look]) rfl
theorem Mul_v (n:Nat) (h:n<4294967296):bS 138 [.int .u64 1, .int .u64 (n:Int)] (.tuple [.int .u64 0, .int .u64 (n:Int)]):=by
 intro S;refine QB (c:=jc Tryz.f138) Tryz.func138 Tryz.ntmps138 fun hwf=>?_
 refine bw ?_
 refine QP ?_;refine QL (Mul64_v n h) ?_;refine bQ ?_
 exact ja (l:=[]) hwf (by simp [resV,Fr.look]) rfl
def zJ (v:Int) (n m:Nat):List V:=List.replicate m (.int .i64 v)++List.replicate (n-m) (.int .i64 0)
theorem rcells_len {v:Int} {n m:Nat} (h:m<=n):(zJ v n m).length=n:=by simp [zJ]; omega
theorem rcells_step {v:Int} {n m:Nat} (h:m<=n):jS (zJ v n m) m ((((zJ v n m).drop 0).take (m*1)).take (min m (n-m)*1))=zJ v n (m+min m (n-m)):=by
 have e1:(((zJ v n m).drop 0).take (m*1)).take (min m (n-m)*1)=List.replicate (min m (n-m)) (V.int .i64 v):=by
  rw [List.drop_zero,Nat.mul_one,Nat.mul_one,zJ,List.take_left' (by simp)];rw [List.take_replicate]; congr 1; omega
 rw [e1,jS,List.length_replicate,zJ,List.take_left' (by simp)];rw [List.drop_append,List.drop_eq_nil_of_le (by simp),List.length_replicate];simp only [List.nil_append,List.drop_replicate,zJ];rw [List.replicate_append_replicate]
 congr 2; omega
theorem Repeat_v (S:Store) (o:Nat) (v:Int) (n:Nat) (hn:1<=n) (hn2:n<=65536) (ho:S.get o=some (1,[.int .i64 v])) :
  bU 124 [.slice o 0 1,vnat n] S (fun r S'=>r = .slice S.nx 0 n/\S'=S.add (1,List.replicate n (.int .i64 v))):=by
 refine QB (c:=jc Tryz.f124) Tryz.func124 Tryz.ntmps124 fun hwf=>?_
 have hon:o<S.nx:=by
  rcases Nat.lt_or_ge o S.nx with h | h
  ·exact h
  ·rw [hwf.gone o h] at ho; cases ho
 have hold:=fun u l => @jh S u l o hon
 have h2:=u64_wrap (n:=n) (by omega);have h5:IntKind.u64.wrap 1=1:=by decide
 have h6 : ¬ (9223372036854775807:Int)<(n:Int):=by omega
 have hw:IntKind.i64.wrap (n:Int)=n:=wrap_i64 (by omega) (by omega);have hb8:n*8<=140737488355328:=by omega
 have hb0:n<=140737488355328:=by omega
 have hmin:min 1 n=1:=by omega
 refine bD hold ho h2 h5 ?_
 refine QP ?_ (r:=by conv=>lhs;simp[QV,hold,ho,h2,h5]);refine QL (Mul_v n (by omega)) ?_;refine QW ?_
 repeat first|refine QG ?_|refine QY ?_ (r:=by conv=>lhs;simp[QV,h6,hw,hb8,hb0,hold,ho,hmin,jat,jO])
 refine QT ?_;refine jd [7,8] rfl (fun c σ S' => ∃ m:Nat,1<=m/\m<=n/\c=n-m/\σ=[(7, .slice (lid S.nx 0) 0 n),(8,vnat m)]/\S'=St S [] [some (1,zJ v n m)]) (n-1) ?_ ?_
 ·refine ⟨1,by omega,hn,rfl,by simp [Fr.only,Fr.look,vnat], ?_⟩;have e:n=(n-1)+1:=by omega
  rw [zJ];simp [List.drop_replicate]
 ·rintro c σ T ⟨m,hm1,hm2,rfl,rfl,rfl⟩;have hlen:=rcells_len (v:=v) hm2
  by_cases hlt:m<n
  ·have hml:m<=n:=by omega
   have hcp:jat 1 (St S [] [some (1,zJ v n m)]) (.slice (lid S.nx 0) m (n-m)) (.slice (lid S.nx 0) 0 m)=some (.int .i64 (min m (n-m):Nat),St S [] [some (1,zJ v n (m+min m (n-m)))]):=by
    have e1:jO 1 (St S [] [some (1,zJ v n m)]) (.slice (lid S.nx 0) 0 m)=some (((zJ v n m).drop 0).take (m*1),m):=by
     simp only [jO,jv,aK,Option.join_some];rw [if_pos (by omega)]
    simp only [jat,e1,jv,aK,Option.join_some];rw [if_pos (by omega),rcells_step hm2,JO (by simp)]
    rfl
   have hw2:IntKind.i64.wrap ((m:Int)+(min m (n-m):Nat))=((m+min m (n-m):Nat):Int):=by
    rw [wrap_i64 (by omega) (by omega)]; omega
   refine bx hlt ?_
   refine QT ?_;refine QJ (St S [] [none]) (St S [] [some (1,zJ v n m)]) [] ?_ (r:=by conv=>lhs; simp [QV,hml]);refine QI ?_ (r:=by conv=>lhs;simp[QV,hcp]);refine QW ?_;show js _ _ _ _ _ _ _;exact again ⟨(by omega:n-(m+min m (n-m))<n-m),m+min m (n-m),by omega,by omega,rfl,by rw [hw2]; simp [Fr.only,Fr.look,vnat],rfl⟩
  ·have hmn:m=n:=by omega
   subst hmn
   refine bx hlt ?_
   refine ⟨.slice S.nx 0 m,_, ?_,rfl,rfl⟩;have e:St S [] [some (1,zJ v m m)]=S.add (1,List.replicate m (.int .i64 v)):=by
    have := @Zk S [] [] (1,List.replicate m (.int .i64 v));rw [jM hwf] at this;rw [this]; simp [zJ]
   rw [<-e];have:lid S.nx 0=S.nx:=rfl;rw [<-this];exact GhostB.refl _ _ _
end Go.Vw
/-
 What goes to each node.
-/
namespace Go.Vw.G
open Go.Vw
def push (rows:List (List Nat)) (k i:Nat):List (List Nat):=rows.set k (rows.getD k []++[i])
def edges:List (List Nat)->Nat->List (Nat × Nat)
 | [],_=>[]
 | l::r,i=>l.map (·,i)++edges r (i+1)
def pushAll (rows:List (List Nat)) (es:List (Nat × Nat)):List (List Nat):=es.foldl (fun rows e=>push rows e.1 e.2) rows
def froms (g:List (List Nat)):List (List Nat):=pushAll (List.replicate g.length []) (edges g 0)
theorem push_length (rows:List (List Nat)) (k i:Nat):(push rows k i).length=rows.length:=by simp [push]
theorem Wc : ∀ (es:List (Nat × Nat)) (rows:List (List Nat)),(pushAll rows es).length=rows.length
 | [],_=>rfl
 | e::es,rows=>by
  have:=Wc es (push rows e.1 e.2);simpa [pushAll,push_length] using this
theorem pushAll_cons (rows:List (List Nat)) (k i:Nat) (es:List (Nat × Nat)):pushAll rows ((k,i)::es)=pushAll (push rows k i) es:=rfl
theorem froms_length (g:List (List Nat)):(froms g).length=g.length:=by simp [froms,Wc]
theorem edges_drop (g:List (List Nat)) {i:Nat} (h:i<g.length):edges (g.drop i) i=g[i].map (·,i)++edges (g.drop (i+1)) (i+1):=by
 rw [am h,edges]
theorem map_drop {l:List Nat} {k i:Nat} (h:k<l.length):(l.drop k).map (fun c=>(c,i))=(l[k],i)::(l.drop (k+1)).map (fun c=>(c,i)):=by
 rw [am h]; rfl
def total (rows:List (List Nat)):Nat:=(rows.map List.length).sum
theorem total_set : ∀ (rows:List (List Nat)) (k:Nat) (r:List Nat),k<rows.length->total (rows.set k r)+(rows.getD k []).length=total rows+r.length
 | [],_,_,h=>by simp at h
 | x::xs,0,r,_=>by simp [total]; omega
 | x::xs,k+1,r,h=>by
  have:=total_set xs k r (by simpa using h);simp [total] at this ⊢; omega
theorem total_push {rows:List (List Nat)} {k i:Nat} (h:k<rows.length):total (push rows k i)=total rows+1:=by
 have:=total_set rows k (rows.getD k []++[i]) h;simp only [push,List.length_append,aC,aM] at this ⊢;omega
theorem row_le_total : ∀ (rows:List (List Nat)) (k:Nat),(rows.getD k []).length<=total rows
 | [],_=>by simp
 | x::xs,0=>by simp [total]
 | x::xs,k+1=>by
  have:=row_le_total xs k;simp [total] at this ⊢; omega
theorem total_rep (n:Nat):total (List.replicate n [])=0:=by
 induction n with
 | zero=>rfl
 | succ n ih=>simp [total,List.replicate_succ]
theorem edges_len {g:List (List Nat)} (h : ∀ l∈g,l.length<=128) : ∀ i,(edges g i).length<=128*g.length:=by
 induction g with
 | nil=>simp [edges]
 | cons l g ih =>
  intro i;have h1:=h l List.mem_cons_self;have h2:=ih (fun l hl=>h l (List.mem_cons_of_mem _ hl)) (i+1);simp [edges] at h2 ⊢; omega
end Go.Vw.G
/-
 The nearest dominators, turn by turn.
-/
namespace Go.Vw.G
open Go.Vw
def rankTo (n:Nat) (l:List Nat):Nat->List Nat
 | 0=>List.replicate n 0
 | k+1=>(rankTo n l k).set (l.getD k 0) k
theorem rankTo_len (n:Nat) (l:List Nat) : ∀ k,(rankTo n l k).length=n
 | 0=>by simp [rankTo]
 | k+1=>by simp [rankTo,rankTo_len n l k]
def meetF (rank:List Nat) (near:List Int):Nat->Int->Int->Option Int
 | 0,_,_=>none
 | f+1,a,b=>if a=b then some a else if 0<=a/\a<near.length/\0<=b/\b<near.length then
   (if rank.getD b.toNat 0<rank.getD a.toNat 0 then meetF rank near f (near.getD a.toNat 0) b else meetF rank near f a (near.getD b.toNat 0))
  else none
def pickF (rank:List Nat) (near:List Int) (F:Nat):List Nat->Int->Option Int
 | [],best=>some best
 | p::ps,best=>if near.getD p 0<0 then pickF rank near F ps best else if best<0 then pickF rank near F ps p else (meetF rank near F best p).bind (pickF rank near F ps)
def sweepF (rank:List Nat) (fr:List (List Nat)) (F:Nat):List Nat->List Int->Bool->Option (List Int × Bool)
 | [],near,t=>some (near,t)
 | n::ns,near,t=>(pickF rank near F (fr.getD n []) (-1)).bind fun b=>sweepF rank fr F ns (near.set n b) (t||decide (near.getD n 0≠b))
def chk (rank:List Nat) (fr:List (List Nat)) (F:Nat) (l:List Nat):Nat->List Int->Option (List Int)
 | 0,_=>none
 | f+1,near=>(sweepF rank fr F l near false).bind fun s=>if s.2 then chk rank fr F l f s.1 else some s.1
end Go.Vw.G
