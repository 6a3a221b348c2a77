import Derived.Test.YtkfllaokjaldnaaGreatC10
/- Part of the proof. -/
set_option linter.unusedVariables false
set_option linter.unusedSimpArgs false
set_option maxRecDepth 10000
set_option maxHeartbeats 8000000
namespace Go.Vw
open Go.Proofs Go.RowKit
attribute [-simp] List.map_set
theorem aot (g:List (List Nat)) (hg:G.Ok g):b8 110 [vl (vl cu) g] (vl cu (G.order g)):=by
 obtain ⟨t,h1,h2,h3⟩:=G.aa6 hg;have hp:=hg.pos;have hm:=hg.max;have e:g.length=(g.length-1)+1:=by omega
 have:=aum g hg (g.length-1) t (by rw [<-e]; exact h1) (by omega);simpa [G.order,h1] using this
theorem aeo (g:List (List Int)) (hg:g.length<2^63) (hl : ∀ l∈g,l.length<2^63) (hr:G.right g=false):b8 77 [vl (vl cj) g] (.tuple [vl cj [],cj 1]):=by
 intro S;refine b7 Tryz.func77 Tryz.ntmps77 fun hwf=>?_
 refine bz ?_
 refine QP ?_;refine QL (ad6 g hg hl hr) ?_;refine bV ?_
 exact jf (l:=[]) hwf ((Ghost.tp [] [cj 1] (Ghost.nl _)).toB _) rfl
def We (S:Store) (rank:List Nat) (near:List Int):Store :=
 St S [] [some (1,rank.map cu),some (1,[.slice (lid S.nx 0) 0 rank.length]),some (1,[.int .i64 (-1)]),some (1,near.map cj),some (1,[.slice (lid S.nx 3) 0 near.length])]
theorem ank (g:List (List Nat)) (hg:G.Ok g) (hr:b8 113 [vl (vl cu) g] (.bool true)) (l:List Nat) (hl:G.order g=l) (hl1:1<=l.length) (hlt : ∀ x∈l,x<g.length) (fr:List (List Nat)) (hfr:G.froms g=fr) (hfl:fr.length=g.length) (hfe : ∀ r∈fr, ∀ x∈r,x<g.length) (hfm : ∀ r∈fr,r.length<=2^20)
  (hll:l.length<=g.length) (F K:Nat) (nearF:List Int) (hchk:G.chk (G.rankTo g.length l l.length) fr F l.tail K ((List.replicate g.length (-1)).set 0 0)=some nearF) :
  b8 77 [vl (vl cu) g] (.tuple [vl cj (nearF.set 0 (-1)),cj 0]):=by
 intro S;refine b7 Tryz.func77 Tryz.ntmps77 fun hwf=>?_
 have hp:0<g.length:=hg.pos;have hm256:=hg.max;have hb8:g.length*8<=140737488355328:=by omega
 have hb0:g.length<=140737488355328:=by omega
 refine QY ?_;refine QP ?_;refine QL (hfr▸ans g hg hr) ?_;refine bV ?_
 refine QP ?_;refine QL (hl▸aot g hg) ?_;refine QW ?_
 refine bF hb8 hb0 ?_
 refine bX [0,4,6,7,31,32,33] (fun c σ S' => ∃ k:Nat,k<=l.length/\c=l.length-k/\σ=[(0,vl (vl cu) g),(4,vl (vl cu) fr),(6,vl cu l),(7, .ptr (lid S.nx 1) 0),(31,vl cu l),(32,cu l.length),(33,cu k)]/\S'=St S [] [some (1,(G.rankTo g.length l k).map cu),some (1,[.slice (lid S.nx 0) 0 g.length])]) l.length ?_ ?_
 .exact ⟨0,by omega,rfl,by simp [Fr.oy,Fr.lk,cu],by simp [G.rankTo,cu]⟩
 .rintro c σ T ⟨k,hk,rfl,rfl,rfl⟩;have hrl:=G.abw g.length l k
  by_cases hkt:k<l.length
  .have hw:IntKind.i64.wrap ((k:Int)+1)=(k:Int)+1:=wrap_i64 (by omega) (by omega);have hlk:=hlt _ (ah hkt);have hst:G.rankTo g.length l (k+1)=(G.rankTo g.length l k).set l[k] k:=by simp [G.rankTo,hkt]
   refine bG hkt hlk hrl ?_
   show jx _ _ _ _ _ _ _;exact again ⟨ao hkt (aW k),k+1,hkt,rfl,by simp [Fr.oy,Fr.lk,cu,hw],by rw [hst]⟩
  .have hkl:k=l.length:=by omega
   subst hkl
   refine bD hkt ?_
   refine QP ?_;refine jK rfl (aub _ (lid S.nx 2) (-1) g.length hp (by omega) ?_) ?_
   .simp [jB]
   rintro X T ⟨rfl,rfl⟩;generalize hrank:G.rankTo g.length l l.length=rank at hchk hrl ⊢;refine QW ?_;have hn0:((List.replicate g.length (-1:Int)).set 0 0).length=g.length:=by simp
   refine bD hp ?_
   refine bX [0,4,6,7,10,11,12] (fun c σ S' => ∃ near:List Int,near.length=g.length/\((c=0/\near=nearF/\σ=[(0,vl (vl cu) g),(4,vl (vl cu) fr),(6,vl cu l),(7, .ptr (lid S.nx 1) 0),(10, .ptr (lid S.nx 4) 0),(11, .func 112 [.ptr (lid S.nx 1) 0, .ptr (lid S.nx 4) 0]),(12, .bool false)])\/(G.chk rank fr F l.tail c near=some nearF/\σ=[(0,vl (vl cu) g),(4,vl (vl cu) fr),(6,vl cu l),(7, .ptr (lid S.nx 1) 0),(10, .ptr (lid S.nx 4) 0),(11, .func 112 [.ptr (lid S.nx 1) 0, .ptr (lid S.nx 4) 0]),(12, .bool true)]))/\S'=We S rank near) K ?_ ?_
   .refine ⟨_,hn0, .inr ⟨hchk,by simp [Fr.oy,Fr.lk,cu]⟩, ?_⟩;simp [We,hrl,cj,List.map_set]
   .rintro c σ T ⟨near,hnl,⟨rfl,rfl,rfl⟩ | ⟨hc,rfl⟩,rfl⟩
    .have hp':0<near.length:=by omega
     unfold We
     refine bD hp' ?_
     have hfz:=frz1 (B:=S) (u:=[]) (l:=[some (1,rank.map cu),some (1,[.slice (lid S.nx 0) 0 rank.length]),some (1,[.int .i64 (-1)]),some (1,(near.set 0 (-1)).map cj),some (1,[.slice (lid S.nx 3) 0 near.length])]) (k:=3) (len:=near.length) (by simp) rfl (jo cj (fun _=>rfl) _) (by simp);exact jf hwf ((Ghost.tp [] [cj 0] hfz).toB _) rfl
    .cases c with
     | zero=>cases hc
     | succ c =>
      simp only [G.chk] at hc;obtain ⟨s,hsw,hc⟩:=aN.1 hc;have hl1':(1:Int)<=(l.length:Int):=by omega
      refine bD hl1' ?_
      refine bX [0,4,6,7,10,11,12,52,53,54] (fun c σ S' => ∃ (k:Nat) (near:List Int) (t:Bool),near.length=g.length/\k<=l.tail.length/\c=l.tail.length-k/\G.sweepF rank fr F (l.tail.drop k) near t=some s/\σ=[(0,vl (vl cu) g),(4,vl (vl cu) fr),(6,vl cu l),(7, .ptr (lid S.nx 1) 0),(10, .ptr (lid S.nx 4) 0),(11, .func 112 [.ptr (lid S.nx 1) 0, .ptr (lid S.nx 4) 0]),(12, .bool t),(52,vl cu l.tail),(53,cu (l.length-1)),(54,cu k)]/\S'=We S rank near) l.tail.length ?_ ?_
      .exact ⟨0,near,false,hnl,by omega,rfl,hsw,by simp [Fr.oy,Fr.lk,cu],rfl⟩
      .rintro c' σ T ⟨k,near,t,hnl,hk,rfl,hsw,rfl,rfl⟩;have htl:l.tail.length=l.length-1:=by simp
       by_cases hkt:k<l.tail.length
       .have hw:IntKind.i64.wrap ((k:Int)+1)=(k:Int)+1:=wrap_i64 (by omega) (by omega);have hkt':k<l.length-1:=by omega
        have hk1:k+1<l.length:=by omega
        have hel:l[k+1]=l.tail[k]:=by simp
        rw [am hkt,G.sweepF] at hsw;obtain ⟨b,hpk,hsw⟩:=aN.1 hsw;have hlk:=hlt _ (List.mem_of_mem_tail (ah hkt));generalize hn:l.tail[k]=n at hpk hsw hlk hel;have hnf:n<fr.length:=by omega
        have hfn:fr.getD n []=fr[n]:=by simp [hnf]
        rw [hfn] at hpk;have hmr:=hfe _ (ah hnf);have hmm:=hfm _ (ah hnf);have hnn:n<near.length:=by omega
        have hng:near.getD n 0=near[n]:=by simp [hnn]
        rw [hng] at hsw;unfold We
        refine bH hkt' hk1 hel hnf ?_
        refine bX [0,4,6,7,10,11,12,14,15,52,53,54,61,62,63] (fun c σ S' => ∃ (j:Nat) (best:Int),j<=fr[n].length/\c=fr[n].length-j/\G.pickF rank near F (fr[n].drop j) best=some b/\σ=[(0,vl (vl cu) g),(4,vl (vl cu) fr),(6,vl cu l),(7, .ptr (lid S.nx 1) 0),(10, .ptr (lid S.nx 4) 0),(11, .func 112 [.ptr (lid S.nx 1) 0, .ptr (lid S.nx 4) 0]),(12, .bool t),(14,cu n),(15,cj best),(52,vl cu l.tail),(53,cu (l.length-1)),(54,cu k),(61,vl cu fr[n]),(62,cu fr[n].length),(63,cu j)]/\S'=We S rank near) fr[n].length ?_ ?_
        .exact ⟨0, -1,by omega,rfl,hpk,by simp [Fr.oy,Fr.lk,cu,cj],rfl⟩
        .rintro c'' σ T ⟨j,best,hj,rfl,hpk,rfl,rfl⟩
         by_cases hjt:j<fr[n].length
         .have hwj:IntKind.i64.wrap ((j:Int)+1)=(j:Int)+1:=wrap_i64 (by omega) (by omega);rw [am hjt,G.pickF] at hpk;have hpg:=hmr _ (ah hjt);generalize hp':fr[n][j]=p at hpk hpg;have hpn:p<near.length:=by omega
          have hpd:near.getD p 0=near[p]:=by simp [hpn]
          rw [hpd] at hpk;unfold We
          by_cases h1:near[p]<0
          .rw [if_pos h1] at hpk
           refine bH hjt hp' hpn h1 ?_
           show jx _ _ _ _ _ _ _;exact again ⟨ao hjt (aW j),j+1,best,hjt,rfl,hpk,by simp [Fr.oy,Fr.lk,cu,cj,hwj],rfl⟩
          .rw [if_neg h1] at hpk
           by_cases h2:best<0
           .rw [if_pos h2] at hpk
            refine bO hjt hp' hpn h1 h2 ?_
            show jx _ _ _ _ _ _ _;exact again ⟨ao hjt (aW j),j+1,p,hjt,rfl,hpk,by simp [Fr.oy,Fr.lk,cu,cj,hwj],rfl⟩
           .rw [if_neg h2] at hpk;obtain ⟨q,hq,hpk⟩:=aN.1 hpk
            refine bO hjt hp' hpn h1 h2 ?_
            refine QP ?_;refine zH rfl rfl rfl (ayo _ rank near (by omega) (lid S.nx 1) (lid S.nx 4) (lid S.nx 0) (lid S.nx 3) ?_ ?_ ?_ ?_ F best p q hq) ?_
            .simp [jB]
            .simp [jB]
            .simp [jB]
            .simp [jB]
            rintro X T ⟨rfl,rfl⟩;refine bV ?_
            show jx _ _ _ _ _ _ _;exact again ⟨ao hjt (aW j),j+1,q,hjt,rfl,hpk,by simp [Fr.oy,Fr.lk,cu,cj,hwj],rfl⟩
         .have hje:j=fr[n].length:=by omega
          subst hje;rw [List.drop_length,G.pickF] at hpk
          cases hpk
          unfold We
          cases t with
          | true =>
           refine bF hjt hnn ?_
           show jx _ _ _ _ _ _ _;exact again ⟨ao hkt (aW k),k+1,near.set n b,true,by simp [hnl],hkt,rfl,by simpa using hsw,by simp [Fr.oy,Fr.lk,cu,hw],by simp [We,cj]⟩
          | false =>
           refine bF hjt hnn ?_
           show jx _ _ _ _ _ _ _;exact again ⟨ao hkt (aW k),k+1,near.set n b, !decide (near[n]=b),by simp [hnl],hkt,rfl,by simpa using hsw,by simp [Fr.oy,Fr.lk,cu,hw],by simp [We,cj]⟩
       .have hkl:k=l.tail.length:=by omega
        subst hkl;rw [List.drop_length,G.sweepF] at hsw
        cases hsw
        have hkt' : ¬ l.tail.length<l.length-1:=by omega
        refine bD hkt' ?_
        cases t with
        | true =>
         show jx _ _ _ _ _ _ _;exact again ⟨aW c,near,hnl, .inr ⟨hc,by simp [Fr.oy,Fr.lk]⟩,rfl⟩
        | false =>
         show jx _ _ _ _ _ _ _;exact again ⟨Nat.succ_pos c,near,hnl, .inl ⟨rfl,by simpa using hc,by simp [Fr.oy,Fr.lk]⟩,rfl⟩
end Go.Vw
/-
 What the walk in depth meets; its order.
-/
namespace Go.Vw.G
open Go.Vw
abbrev Met (m:List Bool) (n:Nat):Prop:=m.getD n false=true
inductive From (g:List (List Nat)) (m:List Bool) (n:Nat):Nat->Prop
 | start (h : ¬ Met m n):From g m n n
 | step {a k:Nat} (h:From g m n a) (hk:k∈g.getD a []) (hm : ¬ Met m k):From g m n k
theorem From.not {g:List (List Nat)} {m:List Bool} {n b:Nat} (h:From g m n b) : ¬ Met m b:=by
 cases h<;>assumption
theorem From.less {g:List (List Nat)} {m m':List Bool} {n b:Nat} (hm : ∀ k,Met m k->Met m' k) (h:From g m' n b):From g m n b:=by
 induction h with
 | start h=>exact .start fun hk=>h (hm _ hk)
 | step _ hk hn ih=>exact .step ih hk fun h=>hn (hm _ h)
theorem From.cons {g:List (List Nat)} {m:List Bool} {n k b:Nat} (hn : ¬ Met m n) (hk:k∈g.getD n []) (h:From g m k b):From g m n b:=by
 induction h with
 | start h=>exact .step (.start hn) hk h
 | step _ hk' hm ih=>exact .step ih hk' hm
theorem jcW {m:List Bool} {n:Nat} (h:n<m.length) (k:Nat):Met (m.set n true) k↔k=n\/Met m k:=by
 unfold Met
 by_cases e:n=k
 .subst e; rw [aac h]; simp
 .rw [aab e];constructor
  .exact fun h => .inr h
  .rintro (h | h)
   .exact absurd h.symm e
   .exact h
structure Left (g:List (List Nat)) (roots:List Nat) (s t:WS):Prop where
 len:t.1.length=s.1.length
 mono : ∀ k,Met s.1 k->Met t.1 k
 root : ∀ r∈roots,Met t.1 r
 kids : ∀ b,Met t.1 b -> ¬ Met s.1 b -> ∀ k∈g.getD b [],Met t.1 k
 way : ∀ b,Met t.1 b -> ¬ Met s.1 b -> ∃ r∈roots,From g s.1 r b
 done : ∃ d,t.2=s.2++d/\d.Nodup/\(∀ b,b∈d↔Met t.1 b /\ ¬ Met s.1 b)
 /-- Behind each that is done stand, further back, nodes from which it is reached: but for the roots. -/
 behind : ∀ b,Met t.1 b -> ¬ Met s.1 b->b∉roots -> ∃ p d1 d2 d3,t.2=s.2++(d1++b::d2++p::d3)/\b∈g.getD p []
theorem Left.nil {g:List (List Nat)} (s:WS):Left g [] s s :=
 ⟨rfl,fun _ h=>h,by simp,fun b h1 h2=>absurd h1 h2,fun b h1 h2=>absurd h1 h2,⟨[],by simp,by simp,fun b=>⟨fun h=>by simp at h,fun h=>absurd h.1 h.2⟩⟩,fun b h1 h2=>absurd h1 h2⟩
theorem Left.met {g:List (List Nat)} {k:Nat} {l:List Nat} {s t:WS} (hk:Met s.1 k) (h:Left g l s t):Left g (k::l) s t:=by
 refine ⟨h.len,h.mono,fun r hr => ?_,h.kids,fun b h1 h2 => ?_,h.done,fun b h1 h2 h3=>h.behind b h1 h2 fun hb=>h3 (List.mem_cons_of_mem _ hb)⟩
 .rcases aL.1 hr with rfl | hr
  .exact h.mono _ hk
  .exact h.root r hr
 .obtain ⟨r,hr,hw⟩:=h.way b h1 h2;exact ⟨r,List.mem_cons_of_mem _ hr,hw⟩
theorem Left.cons {g:List (List Nat)} {k:Nat} {l:List Nat} {s t u:WS} (h:Left g [k] s t) (h':Left g l t u):Left g (k::l) s u:=by
 obtain ⟨d,e1,n1,m1⟩:=h.done;obtain ⟨d',e2,n2,m2⟩:=h'.done;refine ⟨h'.len.trans h.len,fun x hx=>h'.mono x (h.mono x hx),fun r hr => ?_,fun b h1 h2 => ?_,fun b h1 h2 => ?_,⟨d++d', ?_, ?_,fun b => ?_⟩,fun b h1 h2 h3 => ?_⟩
 .rcases aL.1 hr with rfl | hr
  .exact h'.mono _ (h.root _ (by simp))
  .exact h'.root r hr
 .intro c hc
  by_cases hb:Met t.1 b
  .exact h'.mono _ (h.kids b hb h2 c hc)
  .exact h'.kids b h1 hb c hc
 .by_cases hb:Met t.1 b
  .obtain ⟨r,hr,hw⟩:=h.way b hb h2;simp at hr; subst hr;exact ⟨r,by simp,hw⟩
  .obtain ⟨r,hr,hw⟩:=h'.way b h1 hb;exact ⟨r,List.mem_cons_of_mem _ hr,hw.less h.mono⟩
 .rw [e2,e1,List.append_assoc]
 .rw [List.nodup_append];refine ⟨n1,n2,fun x hx y hy e => ?_⟩;subst e;exact ((m2 x).1 hy).2 ((m1 x).1 hx).1
 .rw [aG,m1,m2];constructor
  .rintro (⟨a,b⟩ | ⟨a,b⟩)
   .exact ⟨h'.mono _ a,b⟩
   .exact ⟨a,fun hs=>b (h.mono _ hs)⟩
  .rintro ⟨a,c⟩
   by_cases hb:Met t.1 b
   .exact .inl ⟨hb,c⟩
   .exact .inr ⟨a,hb⟩
 .by_cases hb:Met t.1 b
  .obtain ⟨p,d1,d2,d3,e,hp⟩:=h.behind b hb h2 (by simpa using fun e=>h3 (by simp [e]));exact ⟨p,d1,d2,d3++d',by rw [e2,e]; simp,hp⟩
  .obtain ⟨p,d1,d2,d3,e,hp⟩:=h'.behind b h1 hb fun hm=>h3 (List.mem_cons_of_mem _ hm)
   exact ⟨p,d++d1,d2,d3,by rw [e,e1]; simp,hp⟩
theorem Left.walk {g:List (List Nat)} {n:Nat} {s t:WS} (hn:n<s.1.length) (hm : ¬ Met s.1 n) (h:Left g (g.getD n []) (s.1.set n true,s.2) t):Left g [n] s (t.1,t.2++[n]):=by
 have hset:=jcW hn;have hnt:Met t.1 n:=h.mono n ((hset n).2 (.inl rfl));obtain ⟨d,e1,n1,m1⟩:=h.done;have hnd:n∉d:=fun hd=>((m1 n).1 hd).2 ((hset n).2 (.inl rfl))
 refine ⟨by have:=h.len; simpa using this,fun k hk=>h.mono k ((hset k).2 (.inr hk)),fun r hr=>by simp at hr; subst hr; exact hnt,fun b h1 h2 c hc => ?_,fun b h1 h2=>⟨n,by simp, ?_⟩,⟨d++[n],by simp [e1], ?_,fun b => ?_⟩,fun b h1 h2 h3 => ?_⟩
 .by_cases e:b=n
  .subst e; exact h.root c hc
  .exact h.kids b h1 (fun hs=>by rcases (hset b).1 hs with h | h; exact e h; exact h2 h) c hc
 .by_cases e:b=n
  .subst e; exact .start hm
  .obtain ⟨r,hr,hw⟩:=h.way b h1 (fun hs=>by rcases (hset b).1 hs with h | h; exact e h; exact h2 h);exact From.cons hm hr (hw.less fun k hk=>(hset k).2 (.inr hk))
 .rw [List.nodup_append];exact ⟨n1,by simp,fun x hx y hy e=>by simp at hy; subst hy; subst e; exact hnd hx⟩
 .rw [aG,m1,hset];simp only [aU,not_or];constructor
  .rintro (⟨a,_,c⟩ | rfl)
   .exact ⟨a,c⟩
   .exact ⟨hnt,hm⟩
  .rintro ⟨a,c⟩
   by_cases e:b=n
   .exact .inr e
   .exact .inl ⟨a,e,c⟩
 .have e:b≠n:=by simpa using h3
  have hb2 : ¬ Met (s.1.set n true) b:=fun hs=>by rcases (hset b).1 hs with h | h; exact e h; exact h2 h
  by_cases hr:b∈g.getD n []
  .have hbd:b∈d:=(m1 b).2 ⟨h1,hb2⟩;obtain ⟨d1,d2,rfl⟩:=List.append_of_mem hbd;exact ⟨n,d1,d2,[],by simp only [e1]; simp,hr⟩
  .obtain ⟨p,d1,d2,d3,e2,hp⟩:=h.behind b h1 hb2 hr;exact ⟨p,d1,d2,d3++[n],by simp only [e2]; simp,hp⟩
theorem jaQ {g:List (List Nat)} {f:Nat} (ih : ∀ n s t,s.1.length=g.length->n<s.1.length -> ¬ Met s.1 n->walk g f n s=some t->Left g [n] s t) : ∀ (l:List Nat) (s t:WS),s.1.length=g.length->(∀ k∈l,k<s.1.length)->kids g f l s=some t->Left g l s t
 | [],s,t,_,_,h=>by cases h; exact Left.nil s
 | k::l,s,t,hs,hl,h=>by
  rw [aay] at h;split at h
  .rename_i hm;exact Left.met hm (jaQ ih l s t hs (fun k hk=>hl k (List.mem_cons_of_mem _ hk)) h)
  .rename_i hm;obtain ⟨u,h1,h2⟩:=aN.1 h;have a:=ih k s u hs (hl k List.mem_cons_self) (by simpa using hm) h1;exact a.cons (jaQ ih l u t (a.len.trans hs) (fun k hk=>by rw [a.len]; exact hl k (List.mem_cons_of_mem _ hk)) h2)
theorem jag {g:List (List Nat)} (hg:Ok g) : ∀ (f n:Nat) (s t:WS),s.1.length=g.length->n<s.1.length -> ¬ Met s.1 n->walk g f n s=some t->Left g [n] s t
 | 0,n,s,t,_,_,_,h=>by cases h
 | f+1,n,s,t,hs,hn,hm,h=>by
  rw [aau] at h;obtain ⟨u,h1,rfl⟩:=av.1 h;refine Left.walk hn hm (jaQ (jag hg f) _ _ u (by simpa using hs) (fun k hk => ?_) h1);have hng:n<g.length:=by omega
  have e:g.getD n []=g[n]:=by simp [hng]
  rw [e] at hk;have:=hg.elt _ (ah hng) k hk;simp only [List.length_set];omega
theorem JX {g:List (List Nat)} (hg:Ok g) {m:List Bool} (hm:m.length=g.length) (h0 : ¬ Met m 0) (b:Nat):Met (Ja g m) b↔Met m b\/From g m 0 b:=by
 obtain ⟨t,h1,h2,h3,h4⟩:=aa5 hg hm (by simpa using h0);have hl:=jag hg _ 0 (m,[]) t hm (by have:=hg.pos; show 0<m.length; omega) h0 h1;rw [h2];constructor
 .intro h
  by_cases hb:Met m b
  .exact .inl hb
  .obtain ⟨r,hr,hw⟩:=hl.way b h hb;simp at hr; subst hr;exact .inr hw
 .rintro (h | h)
  .exact hl.mono b h
  .induction h with
   | start _=>exact hl.root 0 (by simp)
   | step ha hk _ ih=>exact hl.kids _ ih ha.not _ hk
abbrev R (g:List (List Nat)) (b:Nat):Prop:=From g (List.replicate g.length false) 0 b
theorem jV (n k:Nat) : ¬ Met (List.replicate n false) k:=by unfold Met; rw [aaw]; simp
structure qr (g:List (List Nat)) (l:List Nat):Prop where
 nd:l.Nodup
 mem : ∀ b,b∈l↔R g b
 head : ∃ r,l=0::r
 lt : ∀ b∈l,b<g.length
 par : ∀ b∈l,b≠0 -> ∃ p d1 d2 d3,l=d1++p::d2++b::d3/\b∈g.getD p []
theorem R.lt {g:List (List Nat)} (hg:Ok g) {b:Nat} (h:R g b):b<g.length:=by
 cases h with
 | start _=>exact hg.pos
 | step ha hk _ =>
  rename_i a _
  by_cases hal:a<g.length
  .have e:g.getD a []=g[a]:=by simp [hal]
   rw [e] at hk;exact hg.elt _ (ah hal) _ hk
  .have e:g.getD a []=[]:=by simp [aJ (by omega:g.length<=a)]
   rw [e] at hk; simp at hk
theorem aah {g:List (List Nat)} (hg:Ok g):qr g (order g):=by
 obtain ⟨t,h1,h2,h3⟩:=aa6 hg;have hl:=jag hg _ 0 (List.replicate g.length false,[]) t (by simp) (by have:=hg.pos; simp only [List.length_replicate]; omega) (jV _ _) h1;have ho:order g=t.2.reverse:=by simp [order,h1]
 obtain ⟨d,e1,n1,m1⟩:=hl.done;simp only [bm] at e1;have hmem : ∀ b,b∈order g↔R g b:=by
  intro b;have:=JX hg (m:=List.replicate g.length false) (by simp) (jV _ _) b;have hme:Ja g (List.replicate g.length false)=t.1:=by simp [Ja,h1]
  rw [hme] at this;rw [ho,List.mem_reverse,e1,m1,this];constructor
  .rintro ⟨h | h,_⟩
   .exact absurd h (jV _ _)
   .exact h
  .exact fun h=>⟨.inr h,jV _ _⟩
 refine ⟨by rw [ho,e1]; exact List.pairwise_reverse.2 (n1.imp fun h=>Ne.symm h),hmem, ?_,fun b hb=>((hmem b).1 hb).lt hg,fun b hb hb0 => ?_⟩
 .have hp:=hg.pos;obtain ⟨f,hf⟩ : ∃ f,g.length=f+1:=⟨g.length-1,by omega⟩
  rw [hf,aau] at h1;obtain ⟨u,_,rfl⟩:=av.1 h1;exact ⟨u.2.reverse,by rw [ho]; simp⟩
 .have hbt:Met t.1 b:=by
   have:=(hmem b).1 hb;have hme:Ja g (List.replicate g.length false)=t.1:=by simp [Ja,h1]
   rw [<-hme];exact (JX hg (by simp) (jV _ _) b).2 (.inr this)
  obtain ⟨p,d1,d2,d3,e,hp⟩:=hl.behind b hbt (jV _ _) (by simpa using hb0);simp only [bm] at e;exact ⟨p,d3.reverse,d2.reverse,d1.reverse,by rw [ho,e]; simp,hp⟩
end Go.Vw.G
/-
 Dominators: what the nearest ones are, and that both ways find them.
-/
namespace Go.Vw.G
open Go.Vw
/-! ### Where nodes stand in the order -/
theorem jbS {n:Nat} {l:List Nat} (hn:l.Nodup) (hl : ∀ x∈l,x<n) : ∀ (k i:Nat),k<=l.length->(hi:i<l.length)->i<k->(rankTo n l k).getD l[i] 0=i
 | 0,i,_,_,h=>by omega
 | k+1,i,hk,hi,h=>by
  have hkl:k<l.length:=by omega
  have e:l.getD k 0=l[k]:=by simp [hkl]
  simp only [rankTo,e]
  by_cases hik:k=i
  .subst hik;rw [aac (by rw [abw]; exact hl _ (ah hi))]
  .have hne:l[k]≠l[i]:=fun h=>hik ((List.getElem_inj hn).1 h)
   rw [aab hne];exact jbS hn hl k i (by omega) hi (by omega)
section
variable {g:List (List Nat)} {l:List Nat}
def rk (g:List (List Nat)) (l:List Nat) (x:Nat):Nat:=(rankTo g.length l l.length).getD x 0
theorem abo (h:qr g l) {i:Nat} (hi:i<l.length):rk g l l[i]=i:=jbS h.nd h.lt _ i (a9 _) hi hi
theorem ab4 (h:qr g l) {a b:Nat} (ha:a∈l) (hb:b∈l) (e:rk g l a=rk g l b):a=b:=by
 obtain ⟨i,hi,rfl⟩:=a7 ha;obtain ⟨j,hj,rfl⟩:=a7 hb;rw [abo h hi,abo h hj] at e;subst e; rfl
theorem Yw (h:qr g l):rk g l 0=0:=by
 obtain ⟨r,rfl⟩:=h.head;have:=abo h (i:=0) (by simp);simpa using this
theorem ZJ (h:qr g l):0∈l:=by obtain ⟨r,rfl⟩:=h.head; simp
theorem aco (h:qr g l) {a:Nat} (ha:a∈l) (h0:a≠0):0<rk g l a:=by
 rcases Nat.eq_zero_or_pos (rk g l a) with e | e
 .exact absurd (ab4 h ha (ZJ h) (e.trans (Yw h).symm)) h0
 .exact e
theorem abu (h:qr g l) {a:Nat} (ha:a∈l):rk g l a<l.length:=by
 obtain ⟨i,hi,rfl⟩:=a7 ha;rw [abo h hi]; exact hi
theorem an4 (h:qr g l) {b:Nat} (hb:b∈l) (h0:b≠0) : ∃ p,p∈l/\rk g l p<rk g l b/\b∈g.getD p []:=by
 obtain ⟨p,d1,d2,d3,e,hp⟩:=h.par b hb h0;have hp1:d1.length<l.length:=by rw [e]; simp
 have hb1:d1.length+1+d2.length<l.length:=by rw [e]; simp; omega
 have ep:l[d1.length]=p:=by simp [e]
 have eb:l[d1.length+1+d2.length]=b:=by
  simp only [e];rw [List.getElem_append_right (by simp; omega)];simp [show d1.length+1+d2.length-(d1.length+(d2.length+1))=0 by omega]
 refine ⟨p,by rw [e]; simp, ?_,hp⟩;have a1:=abo h hp1;have a2:=abo h hb1;rw [ep] at a1; rw [eb] at a2;omega
/-! ### Ways that avoid a node, with so many steps back at most -/
inductive Way (g:List (List Nat)) (l:List Nat) (y:Nat):Nat->Nat->Prop
 | start (k:Nat) (h:0≠y):Way g l y k 0
 | on {k a n:Nat} (h:Way g l y k a) (hn:n∈g.getD a []) (hr:rk g l a<rk g l n) (hy:n≠y):Way g l y k n
 | back {k a n:Nat} (h:Way g l y k a) (hn:n∈g.getD a []) (hy:n≠y):Way g l y (k+1) n
theorem Way.ne {y k n:Nat} (h:Way g l y k n):n≠y:=by cases h<;>assumption
theorem Way.more {y k n:Nat} (h:Way g l y k n):Way g l y (k+1) n:=by
 induction h with
 | start k h=>exact .start _ h
 | on _ hn hr hy ih=>exact .on ih hn hr hy
 | back _ hn hy ih=>exact .back ih hn hy
theorem Way.le {y k k' n:Nat} (h:Way g l y k n) (hk:k<=k'):Way g l y k' n:=by
 induction hk with
 | refl=>exact h
 | step _ ih=>exact ih.more
theorem Way.other {y z k n:Nat} (h:Way g l y k n):Way g l z k n\/(∃ k',k'<=k/\Way g l y k' z):=by
 induction h with
 | start k h =>
  by_cases e:0=z
  .subst e; exact .inr ⟨k,a9 _, .start _ h⟩
  .exact .inl (.start _ e)
 | @on k a n ha hn hr hy ih =>
  by_cases e:n=z
  .subst e; exact .inr ⟨k,a9 _, .on ha hn hr hy⟩
  .rcases ih with h | h
   .exact .inl (.on h hn hr e)
   .exact .inr h
 | @back k a n ha hn hy ih =>
  by_cases e:n=z
  .subst e; exact .inr ⟨k+1,a9 _, .back ha hn hy⟩
  .rcases ih with h | ⟨k',h1,h2⟩
   .exact .inl (.back h hn e)
   .exact .inr ⟨k',by omega,h2⟩
def DomK (g:List (List Nat)) (l:List Nat) (k y n:Nat):Prop := ¬ Way g l y k n
def Dom (g:List (List Nat)) (l:List Nat) (y n:Nat):Prop := ∀ k, ¬ Way g l y k n
theorem DomK.less {k k' y n:Nat} (h:DomK g l k y n) (hk:k'<=k):DomK g l k' y n:=fun hw=>h (hw.le hk)
theorem DomK.trans {k y z n:Nat} (h:DomK g l k y z) (h':DomK g l k z n):DomK g l k y n:=by
 intro hw;rcases hw.other (z:=z) with h1 | ⟨k',h1,h2⟩
 .exact h' h1
 .exact h (h2.le h1)
theorem DomK.self (k n:Nat):DomK g l k n n:=fun hw=>hw.ne rfl
theorem Dom.trans {y z n:Nat} (h:Dom g l y z) (h':Dom g l z n):Dom g l y n:=fun k=>DomK.trans (h k) (h' k)
theorem Dom.self (n:Nat):Dom g l n n:=fun k=>DomK.self k n
theorem Way.reached {y k n:Nat} (h:Way g l y k n):R g n:=by
 induction h with
 | start k h=>exact .start (jV _ _)
 | on _ hn _ _ ih=>exact .step ih hn (jV _ _)
 | back _ hn _ ih=>exact .step ih hn (jV _ _)
theorem From.way {y n:Nat} {m:List Bool} (hm:Met m y) (h:From g m 0 n) : ∃ k,Way g l y k n:=by
 induction h with
 | start h=>exact ⟨0, .start 0 fun e=>h (e▸hm)⟩
 | step _ hk hn ih =>
  obtain ⟨k,ih⟩:=ih;exact ⟨k+1, .back ih hk fun e=>hn (e▸hm)⟩
theorem Way.fromM {y k n:Nat} {m:List Bool} (hm : ∀ b,Met m b->b=y) (h:Way g l y k n):From g m 0 n:=by
 induction h with
 | start k h=>exact .start fun h'=>h (hm _ h')
 | on _ hn _ hy ih=>exact .step ih hn fun h'=>hy (hm _ h')
 | back _ hn hy ih=>exact .step ih hn fun h'=>hy (hm _ h')
theorem straight (h:qr g l) {y:Nat} : ∀ (r n:Nat),rk g l n=r->n∈l->(∀ x∈l,rk g l x<=r->x≠y)->Way g l y 0 n:=by
 intro r
 induction r using Nat.strongRecOn with
 | _ r ih =>
  intro n hr hn hy
  by_cases h0:n=0
  .subst h0; exact .start _ (hy 0 hn (by omega))
  .obtain ⟨p,hp,hlt,hk⟩:=an4 h hn h0;exact .on (ih _ (by omega) p rfl hp fun x hx hle=>hy x hx (by omega)) hk (by omega) (hy n hn (by omega))
theorem Dom.rk (h:qr g l) {y n:Nat} (hd:Dom g l y n) (hy:y∈l) (hn:n∈l) (hne:y≠n):rk g l y<rk g l n:=by
 rcases bt (G.rk g l y) (G.rk g l n) with h1 | h1
 .exact h1
 .exfalso
  refine hd 0 (straight h _ n rfl hn fun x hx hle e => ?_);subst e;have:G.rk g l x=G.rk g l n:=by omega
  exact hne (ab4 h hx hn this)
theorem Dom.anti (h:qr g l) {y n:Nat} (hd:Dom g l y n) (hd':Dom g l n y) (hy:y∈l) (hn:n∈l):y=n:=by
 by_cases e:y=n
 .exact e
 .have:=hd.rk h hy hn e;have:=hd'.rk h hn hy (Ne.symm e);omega
theorem Dom.zero (h:qr g l) {n:Nat}:Dom g l 0 n:=by
 intro k hw
 induction hw with
 | start k h=>exact h rfl
 | on _ _ _ _ ih=>exact ih
 | back _ _ _ ih=>exact ih
theorem Dom.pred {d n p:Nat} (hd:Dom g l d n) (hne:d≠n) (hp:n∈g.getD p []):Dom g l d p:=fun k hw=>hd (k+1) (.back hw hp (Ne.symm hne))
theorem Dom.mem (h:qr g l) {y n:Nat} (hd:Dom g l y n) (hn:n∈l):y∈l:=by
 by_cases hy:y∈l
 .exact hy
 .exact absurd (straight h _ n rfl hn fun x hx _ e=>hy (by rw [<-e]; exact hx)) (hd 0)
end
end Go.Vw.G
/-
 Turn by turn the nearest dominators are found.
-/
namespace Go.Vw.G
open Go.Vw
section
variable {g:List (List Nat)} {l:List Nat}
def nd (near:List Int) (x:Nat):Int:=near.getD x 0
structure Ptr (g:List (List Nat)) (l:List Nat) (near:List Int) (k x p:Nat):Prop where
 mem:p∈l
 rk:rk g l p<rk g l x
 dom : ∀ d,Dom g l d x->d≠x->Dom g l d p
 lev:DomK g l k p x
structure Inv (g:List (List Nat)) (l:List Nat) (lev:Nat->Nat) (near:List Int):Prop where
 len:near.length=g.length
 zero:nd near 0=0
 out : ∀ x,x<g.length->x∉l->nd near x = -1
 ptr : ∀ x∈l,x≠0->0<=nd near x -> ∃ p:Nat,nd near x=p/\0<=nd near p/\Ptr g l near (lev x) x p
 neg : ∀ x∈l,nd near x<0->nd near x = -1
inductive Anc (near:List Int) (y:Nat):Nat->Prop
 | refl:Anc near y y
 | up {x p:Nat} (h0:x≠0) (hp:nd near x=p) (h:Anc near y p):Anc near y x
theorem aj6 {lev:Nat->Nat} {near:List Int} (hI:Inv g l lev near) {k y a:Nat} (h:Anc near y a) (ha:a∈l) (hd:0<=nd near a) (hk : ∀ x∈l,rk g l x<=rk g l a->0<=nd near x->x≠0->k<=lev x):DomK g l k y a:=by
 induction h with
 | refl=>exact DomK.self k y
 | @up x p h0 hp _ ih =>
  obtain ⟨p',e,hdp,hP⟩:=hI.ptr x ha h0 hd;rw [hp] at e;have e:p=p':=by omega
  subst e;have:=ih hP.mem hdp fun z hz hle hdz h0z=>hk z hz (by have:=hP.rk; omega) hdz h0z
  exact this.trans (hP.lev.less (hk x ha (a9 _) hd h0))
theorem jaN (ho:qr g l) {lev:Nat->Nat} {near:List Int} (hI:Inv g l lev near) : ∀ (f a b:Nat),rk g l a+rk g l b<f->a∈l->b∈l->0<=nd near a->0<=nd near b ->
  ∃ c:Nat,meetF (rankTo g.length l l.length) near f a b=some (c:Int)/\c∈l/\0<=nd near c/\Anc near c a/\Anc near c b/\rk g l c<=rk g l a/\rk g l c<=rk g l b /\
   ∀ D:Nat->Prop,(∀ d,D d->Dom g l d a)->(∀ d,D d->Dom g l d b) -> ∀ d,D d->Dom g l d c
 | 0,a,b,h,_,_,_,_=>by omega
 | f+1,a,b,h,ha,hb,hda,hdb=>by
  by_cases hab:a=b
  .subst hab;exact ⟨a,by simp [meetF],ha,hda, .refl, .refl,a9 _,a9 _,fun D h1 _ d hd=>h1 d hd⟩
  .have hab' : ¬ (a:Int)=(b:Int):=by omega
   have hal:=ho.lt a ha;have hbl:=ho.lt b hb;have hl:=hI.len;have hne:rk g l a≠rk g l b:=fun e=>hab (ab4 ho ha hb e)
   have hbnd:(0:Int)<=a/\(a:Int)<near.length/\(0:Int)<=b/\(b:Int)<near.length:=⟨by omega,by omega,by omega,by omega⟩
   by_cases hlt:rk g l b<rk g l a
   .have h0:a≠0:=by intro e; subst e; rw [Yw ho] at hlt; omega
    obtain ⟨p,e,hdp,hP⟩:=hI.ptr a ha h0 hda;have e':near.getD a 0=(p:Int):=e;have e1:meetF (rankTo g.length l l.length) near (f+1) a b=meetF (rankTo g.length l l.length) near f (p:Int) b:=by
     rw [meetF,if_neg hab',if_pos hbnd];simp only [bq];rw [if_pos (show (rankTo g.length l l.length).getD b 0<(rankTo g.length l l.length).getD a 0 from hlt),e']
    rw [e1];have hrk:=hP.rk;obtain ⟨c,k1,k2,k3,k4,k5,k6,k7,k8⟩:=jaN ho hI f p b (by omega) hP.mem hb hdp hdb;refine ⟨c,k1,k2,k3, .up h0 e k4,k5,by omega,k7,fun D h1 h2=>k8 D (fun d hd => ?_) h2⟩
    by_cases hda':d=a
    .subst hda';have:=(h2 d hd).rk ho ha hb hab;omega
    .exact hP.dom d (h1 d hd) hda'
   .have h0:b≠0:=by intro e; subst e; rw [Yw ho] at hlt; have:=aco ho ha (by omega); omega
    obtain ⟨p,e,hdp,hP⟩:=hI.ptr b hb h0 hdb;have e':near.getD b 0=(p:Int):=e;have e1:meetF (rankTo g.length l l.length) near (f+1) a b=meetF (rankTo g.length l l.length) near f a (p:Int):=by
     rw [meetF,if_neg hab',if_pos hbnd];simp only [bq];rw [if_neg (show ¬ (rankTo g.length l l.length).getD b 0<(rankTo g.length l l.length).getD a 0 from hlt),e']
    rw [e1];have hrk:=hP.rk;obtain ⟨c,k1,k2,k3,k4,k5,k6,k7,k8⟩:=jaN ho hI f a p (by omega) ha hP.mem hda hdp;refine ⟨c,k1,k2,k3,k4, .up h0 e k5,k6,by omega,fun D h1 h2=>k8 D h1 fun d hd => ?_⟩
    by_cases hda':d=b
    .subst hda';have:=(h1 d hd).rk ho hb ha (Ne.symm hab);omega
    .exact hP.dom d (h2 d hd) hda'
structure Best (g:List (List Nat)) (l:List Nat) (near:List Int) (n:Nat) (seen:List Nat) (best:Int):Prop where
 none:best<0->best = -1 /\ ∀ p∈seen,nd near p<0
 some:0<=best -> ∃ c:Nat,best=c/\c∈l/\0<=nd near c/\(∀ p∈seen,0<=nd near p->Anc near c p/\rk g l c<=rk g l p) /\ ∀ d,Dom g l d n->d≠n->Dom g l d c
theorem WP (ho:qr g l) {lev:Nat->Nat} {near:List Int} (hI:Inv g l lev near) {F n:Nat} (hF:2*l.length<F) : ∀ (ps seen:List Nat) (best:Int),Best g l near n seen best->(∀ p∈ps,p<g.length/\n∈g.getD p []) ->
  ∃ b,pickF (rankTo g.length l l.length) near F ps best=some b/\Best g l near n (seen++ps) b
 | [],seen,best,hB,_=>⟨best,rfl,by simpa using hB⟩
 | p::ps,seen,best,hB,hps=>by
  obtain ⟨hpl,hpn⟩:=hps p List.mem_cons_self;have hps':=fun q hq=>hps q (List.mem_cons_of_mem _ hq)
  have happ:seen++p::ps=(seen++[p])++ps:=by simp
  simp only [pickF];have hnd:near.getD p 0=nd near p:=rfl;rw [hnd,happ]
  by_cases h1:nd near p<0
  .rw [if_pos h1];refine WP ho hI hF ps (seen++[p]) best ⟨fun hb=>⟨(hB.none hb).1,fun q hq => ?_⟩,fun hb => ?_⟩ hps'
   .rcases aG.1 hq with h | h
    .exact (hB.none hb).2 q h
    .simp at h; subst h; exact h1
   .obtain ⟨c,e,k1,k2,k3,k4⟩:=hB.some hb;refine ⟨c,e,k1,k2,fun q hq hdq => ?_,k4⟩;rcases aG.1 hq with h | h
    .exact k3 q h hdq
    .simp at h; subst h; omega
  .rw [if_neg h1];have hdp:0<=nd near p:=by omega
   have hpm:p∈l:=by
    by_cases hm:p∈l
    .exact hm
    .have:=hI.out p hpl hm; omega
   by_cases h2:best<0
   .rw [if_pos h2];refine WP ho hI hF ps (seen++[p]) p ⟨fun hb=>by omega,fun _=>⟨p,rfl,hpm,hdp,fun q hq hdq => ?_,fun d hd hne=>hd.pred hne hpn⟩⟩ hps';rcases aG.1 hq with h | h
    .have:=(hB.none h2).2 q h; omega
    .simp at h; subst h; exact ⟨.refl,a9 _⟩
   .rw [if_neg h2];obtain ⟨c,e,k1,k2,k3,k4⟩:=hB.some (by omega);subst e;obtain ⟨c',m1,m2,m3,m4,m5,m6,m7,m8⟩:=jaN ho hI F c p (by have:=abu ho k1; have:=abu ho hpm; omega) k1 hpm k2 hdp;rw [m1];simp only [Option.bind_some];have trans : ∀ q,Anc near c q->Anc near c' q:=by
     intro q hq
     induction hq with
     | refl=>exact m4
     | up h0 hp _ ih=>exact .up h0 hp ih
    refine WP ho hI hF ps (seen++[p]) c' ⟨fun hb=>by omega,fun _=>⟨c',rfl,m2,m3,fun q hq hdq => ?_,fun d hd hne=>m8 (fun d=>Dom g l d n/\d≠n) (fun d h=>k4 d h.1 h.2) (fun d h=>h.1.pred h.2 hpn) d ⟨hd,hne⟩⟩⟩ hps';rcases aG.1 hq with h | h
    .obtain ⟨a1,a2⟩:=k3 q h hdq;exact ⟨trans q a1,by omega⟩
    .simp at h; subst h; exact ⟨m5,m7⟩
/-! ### A turn -/
structure PassInv (g:List (List Nat)) (l:List Nat) (j i:Nat) (near:List Int):Prop where
 inv:Inv g l (fun x=>if rk g l x<i then j else j-1) near
 dfd : ∀ x∈l,rk g l x<i->0<=nd near x
 und:j=0 -> ∀ x∈l,i<=rk g l x->nd near x<0
 all:0<j -> ∀ x∈l,0<=nd near x
theorem ag1 {near:List Int} {n:Nat} (h:n<near.length) (c:Int) (x:Nat):nd (near.set n c) x=if x=n then c else nd near x:=by
 unfold nd
 by_cases e:n=x
 .subst e; rw [aac h,if_pos rfl]
 .rw [aab e,if_neg (fun h=>e h.symm)]
theorem an9 (ho:qr g l) {fr:List (List Nat)} (hfr : ∀ n p,n<g.length->(p∈fr.getD n []↔p<g.length/\n∈g.getD p [])) {F:Nat} (hF:2*l.length<F) {j i:Nat} {near:List Int} (hP:PassInv g l j i near) (hi:i<l.length) (hi1:1<=i) :
  ∃ c:Nat,pickF (rankTo g.length l l.length) near F (fr.getD l[i] []) (-1)=some (c:Int)/\PassInv g l j (i+1) (near.set l[i] (c:Int))/\Ptr g l near j l[i] c:=by
 obtain ⟨n,hn⟩ : ∃ n,l[i]=n:=⟨_,rfl⟩
 have hnl:n∈l:=hn▸ah hi;have hrn:rk g l n=i:=by rw [<-hn]; exact abo ho hi
 have hn0:n≠0:=by intro e; rw [e,Yw ho] at hrn; omega
 have hng:=ho.lt n hnl;rw [hn];obtain ⟨b,h1,h2⟩:=WP ho hP.inv hF (fr.getD n []) [] (-1) ⟨fun _=>⟨rfl,by simp⟩,fun h=>by omega⟩ (fun p hp=>(hfr n p hng).1 hp);simp only [bm] at h2;obtain ⟨q,hq,hqr,hqk⟩:=an4 ho hnl hn0;have hqf:q∈fr.getD n []:=(hfr n q hng).2 ⟨ho.lt q hq,hqk⟩;have hqd:0<=nd near q:=hP.dfd q hq (by omega);have hb:0<=b:=by
  rcases Int.lt_or_le b 0 with h | h
  .have:=(h2.none h).2 q hqf; omega
  .exact h
 obtain ⟨c,rfl,k1,k2,k3,k4⟩:=h2.some hb;have hcr:rk g l c<i:=by have:=(k3 q hqf hqd).2; omega
 have hlev:DomK g l j c n:=by
  intro hw;generalize hjj:j=jj at hw
  cases hw with
  | start _ _=>exact hn0 rfl
  | @on _ a _ ha hna hr _ =>
   have haR:a∈l:=(ho.mem a).2 ha.reached;have had:0<=nd near a:=hP.dfd a haR (by omega);have haf:a∈fr.getD n []:=(hfr n a hng).2 ⟨ho.lt a haR,hna⟩;have:=aj6 hP.inv (k:=j) (k3 a haf had).1 haR had (fun x hx hle _ _=>by rw [if_pos (by omega)]; exact a9 _);rw [hjj] at this;exact this ha
  | @back j' a _ ha hna _ =>
   have haR:a∈l:=(ho.mem a).2 ha.reached;have had:0<=nd near a:=hP.all (by omega) a haR;have haf:a∈fr.getD n []:=(hfr n a hng).2 ⟨ho.lt a haR,hna⟩;have:=aj6 hP.inv (k:=j') (k3 a haf had).1 haR had (fun x hx hle _ _=>by split<;>omega);exact this ha
 have hcn:c≠n:=by intro e; subst e; omega
 have hptr:Ptr g l near j n c:=⟨k1,by omega,k4,hlev⟩
 have hnn:n<near.length:=by rw [hP.inv.len]; exact hng
 have hset:=ag1 hnn (c:Int);refine ⟨c,h1,⟨⟨by simpa using hP.inv.len, ?_,fun x hx hxl => ?_,fun x hx hx0 hdx => ?_,fun x hx hdx => ?_⟩,fun x hx hrx => ?_,fun h0 x hx hrx => ?_,fun h0 x hx => ?_⟩,hptr⟩
 .rw [hset,if_neg (Ne.symm hn0)]; exact hP.inv.zero
 .rw [hset,if_neg (fun (e:x=n)=>hxl (by rw [e]; exact hnl))]; exact hP.inv.out x hx hxl
 .rw [hset] at hdx ⊢
  by_cases e:x=n
  .subst e;refine ⟨c,by rw [if_pos rfl],by rw [hset,if_neg hcn]; exact k2,⟨k1,hptr.rk,k4, ?_⟩⟩;rw [if_pos (by omega)]; exact hlev
  .rw [if_neg e] at hdx ⊢;obtain ⟨p,e1,e2,e3⟩:=hP.inv.ptr x hx hx0 hdx;refine ⟨p,e1, ?_,⟨e3.mem,e3.rk,e3.dom, ?_⟩⟩
   .rw [hset]; split
    .omega
    .exact e2
   .have hne:rk g l x≠i:=fun h=>e (ab4 ho hx hnl (h.trans hrn.symm))
    have:=e3.lev
    by_cases hlt:rk g l x<i
    .rw [if_pos hlt] at this; rw [if_pos (by omega)]; exact this
    .rw [if_neg hlt] at this; rw [if_neg (by omega)]; exact this
 .rw [hset] at hdx ⊢
  by_cases e:x=n
  .rw [if_pos e] at hdx; omega
  .rw [if_neg e] at hdx ⊢; exact hP.inv.neg x hx hdx
 .rw [hset]
  by_cases e:x=n
  .rw [if_pos e]; omega
  .rw [if_neg e];have hne:rk g l x≠i:=fun h=>e (ab4 ho hx hnl (h.trans hrn.symm))
   exact hP.dfd x hx (by omega)
 .rw [hset,if_neg (fun e=>by subst e; omega)];exact hP.und h0 x hx (by omega)
 .rw [hset]; split
  .omega
  .exact hP.all h0 x hx
theorem Ptr.unique (ho:qr g l) {K k k' n p q:Nat} {near near':List Int} (hK : ∀ y n,y∈l->n∈l->DomK g l K y n->Dom g l y n) (hn:n∈l) (h:Ptr g l near k n p) (h':Ptr g l near' k' n q) (hk:K<=k) (hk':K<=k'):p=q:=by
 have d1:=hK p n h.mem hn (h.lev.less hk);have d2:=hK q n h'.mem hn (h'.lev.less hk');have n1:p≠n:=fun e=>by have:=h.rk; rw [e] at this; omega
 have n2:q≠n:=fun e=>by have:=h'.rk; rw [e] at this; omega
 exact (h'.dom p d1 n1).anti ho (h.dom q d2 n2) h.mem h'.mem
theorem KK (ho:qr g l) {fr:List (List Nat)} (hfr : ∀ n p,n<g.length->(p∈fr.getD n []↔p<g.length/\n∈g.getD p [])) {F:Nat} (hF:2*l.length<F) {K j:Nat} (hK : ∀ y n,y∈l->n∈l->DomK g l K y n->Dom g l y n) :
  ∀ (m i:Nat) (near:List Int) (t:Bool),i+m=l.length->1<=i->PassInv g l j i near ->
   ∃ near' t',sweepF (rankTo g.length l l.length) fr F (l.drop i) near t=some (near',t')/\PassInv g l j l.length near'/\(K+1<=j->t'=t)/\(t'=false->t=false/\near'=near)
 | 0,i,near,t,hi,_,hP=>by
  have:i=l.length:=by omega
  subst this;exact ⟨near,t,by rw [List.drop_length]; rfl,hP,fun _=>rfl,fun h=>⟨h,rfl⟩⟩
 | m+1,i,near,t,hi,h1,hP=>by
  have hil:i<l.length:=by omega
  obtain ⟨c,e1,e2,e3⟩:=an9 ho hfr hF hP hil h1;rw [am hil,sweepF,e1,Option.bind_some];obtain ⟨near',t',k1,k2,k3,k4⟩:=KK ho hfr hF hK m (i+1) (near.set l[i] (c:Int)) (t||decide (near.getD l[i] 0≠(c:Int))) (by omega) (by omega) e2;have hnl:=ah hil;have hrn:=abo ho hil;refine ⟨near',t',k1,k2,fun hj => ?_,fun ht => ?_⟩
  .rw [k3 hj];have hn0:l[i]≠0:=by intro e; rw [e,Yw ho] at hrn; omega
   obtain ⟨p,q1,q2,q3⟩:=hP.inv.ptr l[i] hnl hn0 (hP.all (by omega) _ hnl);have hpc:p=c:=by
    refine Ptr.unique ho hK hnl q3 e3 ?_ (by omega);rw [if_neg (by omega)]; omega
   have:near.getD l[i] 0=(c:Int):=by rw [<-hpc]; exact q1
   rw [this]; simp
  .obtain ⟨a1,a2⟩:=k4 ht;simp only [Bool.or_eq_false_iff,decide_eq_false_iff_not,Decidable.not_not] at a1;refine ⟨a1.1,a2.trans ?_⟩;have hnn:l[i]<near.length:=by rw [hP.inv.len]; exact ho.lt _ hnl
   have e:near.getD l[i] 0=near[l[i]]:=by simp [hnn]
   have:=a1.2;rw [e] at this;rw [<-this];exact List.set_getElem_self hnn
structure Idom (g:List (List Nat)) (l:List Nat) (near:List Int):Prop where
 len:near.length=g.length
 zero:nd near 0=0
 out : ∀ x,x<g.length->x∉l->nd near x = -1
 near : ∀ x∈l,x≠0 -> ∃ p:Nat,nd near x=p/\p∈l/\p≠x/\Dom g l p x /\ ∀ d,Dom g l d x->d≠x->Dom g l d p
theorem PassInv.next (ho:qr g l) {j:Nat} {near:List Int} (h:PassInv g l j l.length near):PassInv g l (j+1) 1 near:=by
 refine ⟨⟨h.inv.len,h.inv.zero,h.inv.out,fun x hx hx0 hd => ?_,h.inv.neg⟩,fun x hx _=>h.dfd x hx (abu ho hx),fun h0=>by omega,fun _ x hx=>h.dfd x hx (abu ho hx)⟩;obtain ⟨p,e1,e2,e3⟩:=h.inv.ptr x hx hx0 hd;refine ⟨p,e1,e2,⟨e3.mem,e3.rk,e3.dom, ?_⟩⟩;have:=e3.lev;rw [if_pos (abu ho hx)] at this;have hp:=aco ho hx hx0;rw [if_neg (by omega)];simpa using this
theorem PassInv.idom (ho:qr g l) {K j:Nat} {near:List Int} (hK : ∀ y n,y∈l->n∈l->DomK g l K y n->Dom g l y n) (h:PassInv g l j 1 near) (hj:K+1<=j):Idom g l near:=by
 refine ⟨h.inv.len,h.inv.zero,h.inv.out,fun x hx hx0 => ?_⟩;obtain ⟨p,e1,e2,e3⟩:=h.inv.ptr x hx hx0 (h.all (by omega) x hx);have hp:=aco ho hx hx0;have hl:=e3.lev;rw [if_neg (by omega)] at hl;exact ⟨p,e1,e3.mem,fun e=>by have:=e3.rk; rw [e] at this; omega,hK p x e3.mem hx (hl.less (by omega)),e3.dom⟩
theorem arw (ho:qr g l) {fr:List (List Nat)} (hfr : ∀ n p,n<g.length->(p∈fr.getD n []↔p<g.length/\n∈g.getD p [])) {F:Nat} (hF:2*l.length<F) {K:Nat} (hK : ∀ y n,y∈l->n∈l->DomK g l K y n->Dom g l y n) :
  ∀ (r j:Nat) (near:List Int),j+r=K+1->PassInv g l j 1 near -> ∃ nearF,chk (rankTo g.length l l.length) fr F l.tail (r+1) near=some nearF/\Idom g l nearF:=by
 have hl1:1<=l.length:=by obtain ⟨r,rfl⟩:=ho.head; simp
 intro r
 induction r with
 | zero =>
  intro j near hj hP;obtain ⟨near',t',k1,k2,k3,k4⟩:=KK ho hfr hF hK (l.length-1) 1 near false (by omega) (by omega) hP;have ht:=k3 (by omega);subst ht;obtain ⟨_,rfl⟩:=k4 rfl;rw [List.drop_one] at k1;exact ⟨near',by simp [chk,k1],hP.idom ho hK (by omega)⟩
 | succ r ih =>
  intro j near hj hP;obtain ⟨near',t',k1,k2,k3,k4⟩:=KK ho hfr hF hK (l.length-1) 1 near false (by omega) (by omega) hP;rw [List.drop_one] at k1
  cases t' with
  | true =>
   obtain ⟨nearF,a1,a2⟩:=ih (j+1) near' (by omega) (k2.next ho);exact ⟨nearF,by rw [chk,k1]; simpa using a1,a2⟩
  | false =>
   obtain ⟨_,rfl⟩:=k4 rfl;refine ⟨near',by simp [chk,k1], ?_⟩;have again : ∀ m,PassInv g l (j+m) 1 near':=by
    intro m
    induction m with
    | zero=>exact hP
    | succ m ihm =>
     obtain ⟨n2,t2,q1,q2,_,_⟩:=KK ho hfr hF hK (l.length-1) 1 near' false (by omega) (by omega) ihm;rw [List.drop_one,k1] at q1
     cases q1
     exact q2.next ho
   exact (again (K+1)).idom ho hK (by omega)
theorem enough (ho:qr g l) : ∃ K, ∀ y n,y∈l->n∈l->DomK g l K y n->Dom g l y n:=by
 have one : ∀ y n, ∃ k,DomK g l k y n->Dom g l y n:=by
  intro y n
  by_cases h:Dom g l y n
  .exact ⟨0,fun _=>h⟩
  .have : ∃ k,Way g l y k n:=Classical.byContradiction fun hc=>h fun k hw=>hc ⟨k,hw⟩
   obtain ⟨k,hk⟩:=this;exact ⟨k,fun hd=>absurd hk hd⟩
 have row : ∀ (y:Nat) (ns:List Nat), ∃ K, ∀ n∈ns,DomK g l K y n->Dom g l y n:=by
  intro y ns
  induction ns with
  | nil=>exact ⟨0,by simp⟩
  | cons n ns ih =>
   obtain ⟨K,hK⟩:=ih;obtain ⟨k,hk⟩:=one y n;refine ⟨max K k,fun m hm hd => ?_⟩;rcases aL.1 hm with rfl | hm
   .exact hk (hd.less (by omega))
   .exact hK m hm (hd.less (by omega))
 have all : ∀ ys:List Nat, ∃ K, ∀ y∈ys, ∀ n∈l,DomK g l K y n->Dom g l y n:=by
  intro ys
  induction ys with
  | nil=>exact ⟨0,by simp⟩
  | cons y ys ih =>
   obtain ⟨K,hK⟩:=ih;obtain ⟨k,hk⟩:=row y l;refine ⟨max K k,fun z hz n hn hd => ?_⟩;rcases aL.1 hz with rfl | hz
   .exact hk n hn (hd.less (by omega))
   .exact hK z hz n hn (hd.less (by omega))
 obtain ⟨K,hK⟩:=all l;exact ⟨K,fun y n hy hn=>hK y hy n hn⟩
theorem api (ho:qr g l) (hg:Ok g):PassInv g l 0 1 ((List.replicate g.length (-1)).set 0 0):=by
 have hlen:0<(List.replicate g.length (-1:Int)).length:=by rw [List.length_replicate]; exact hg.pos
 have hset:=ag1 hlen 0;have hrep : ∀ x,x<g.length->nd (List.replicate g.length (-1:Int)) x = -1:=by
  intro x hx; simp [nd,List.getElem?_replicate,hx]
 have z : ∀ x∈l,rk g l x<1->x=0:=by
  intro x hx h
  by_cases e:x=0
  .exact e
  .have:=aco ho hx e; omega
 refine ⟨⟨by simp,by rw [hset]; simp,fun x hx hxl => ?_,fun x hx hx0 hd => ?_,fun x hx hd => ?_⟩,fun x hx h => ?_,fun _ x hx h => ?_,fun h=>by omega⟩
 .rw [hset,if_neg (fun (e:x=0)=>hxl (by rw [e]; exact ZJ ho))]; exact hrep x hx
 .rw [hset,if_neg hx0,hrep x (ho.lt x hx)] at hd; omega
 .rw [hset] at hd ⊢
  by_cases e:x=0
  .rw [if_pos e] at hd; omega
  .rw [if_neg e]; exact hrep x (ho.lt x hx)
 .rw [z x hx h,hset]; simp
 .have hx0:x≠0:=by intro e; subst e; rw [Yw ho] at h; omega
  rw [hset,if_neg hx0,hrep x (ho.lt x hx)]; omega
end
/-! ### What goes to each node -/
theorem as4 {rows:List (List Nat)} {k i:Nat} (n:Nat) (h:k<rows.length):(push rows k i).getD n []=if n=k then rows.getD n []++[i] else rows.getD n []:=by
 unfold push
 by_cases e:k=n
 .subst e; rw [aac h,if_pos rfl]
 .rw [aab e,if_neg (fun h=>e h.symm)]
theorem jaL : ∀ (es:List (Nat × Nat)) (rows:List (List Nat)) (n p:Nat),(∀ e∈es,e.1<rows.length)->(p∈(pushAll rows es).getD n []↔p∈rows.getD n []\/(n,p)∈es)
 | [],rows,n,p,_=>by simp [pushAll]
 | e::es,rows,n,p,h=>by
  have h1:=h e List.mem_cons_self;have:=jaL es (push rows e.1 e.2) n p (fun e' he'=>by rw [aba]; exact h e' (List.mem_cons_of_mem _ he'));show p∈(pushAll (push rows e.1 e.2) es).getD n []↔_;rw [this,as4 n h1];obtain ⟨a,b⟩:=e
  by_cases hn:n=a
  .subst hn;rw [if_pos rfl,aG];simp only [aL,List.not_mem_nil,or_false,Prod.mk.injEq,true_and];constructor
   .rintro ((h | h) | h)
    .exact .inl h
    .exact .inr (.inl h)
    .exact .inr (.inr h)
   .rintro (h | h | h)
    .exact .inl (.inl h)
    .exact .inl (.inr h)
    .exact .inr h
  .rw [if_neg hn];simp only [aL,Prod.mk.injEq,hn,false_and,false_or]
theorem jaM : ∀ (g:List (List Nat)) (j n p:Nat),(n,p)∈edges g j↔j<=p/\n∈g.getD (p-j) []
 | [],j,n,p=>by simp [edges]
 | l::g,j,n,p=>by
  simp only [edges,aG,bi,Prod.mk.injEq,jaM g (j+1) n p];constructor
  .rintro (⟨a,h1,rfl,rfl⟩ | ⟨h1,h2⟩)
   .simpa using h1
   .have e:p-j=(p-(j+1))+1:=by omega
    rw [e];exact ⟨by omega,by simpa using h2⟩
  .rintro ⟨h1,h2⟩
   by_cases e:p=j
   .subst e;exact .inl ⟨n,by simpa using h2,rfl,rfl⟩
   .have e':p-j=(p-(j+1))+1:=by omega
    rw [e'] at h2;exact .inr ⟨by omega,by simpa using h2⟩
theorem aar {g:List (List Nat)} (hg:Ok g) (n p:Nat) (hn:n<g.length):p∈(froms g).getD n []↔p<g.length/\n∈g.getD p []:=by
 have he : ∀ e∈edges g 0,e.1<(List.replicate g.length ([]:List Nat)).length:=by
  rintro ⟨a,b⟩ h;have:=((jaM g 0 a b).1 h).2;rw [List.length_replicate];simp only [Nat.sub_zero] at this
  by_cases hb:b<g.length
  .have e:g.getD b []=g[b]:=by simp [hb]
   rw [e] at this;exact hg.elt _ (ah hb) _ this
  .have e:g.getD b []=[]:=by simp [aJ (by omega:g.length<=b)]
   rw [e] at this; simp at this
 rw [froms,jaL _ _ _ _ he,jaM];have:(List.replicate g.length ([]:List Nat)).getD n []=[]:=by simp [List.getElem?_replicate,hn]
 rw [this];simp only [List.not_mem_nil,false_or,Nat.zero_le,true_and,Nat.sub_zero];constructor
 .intro h;refine ⟨?_,h⟩;rcases bt p g.length with hp | hp
  .exact hp
  .have e:g.getD p []=[]:=by simp [aJ hp]
   rw [e] at h; simp at h
 .exact fun h=>h.2
theorem af3 {g:List (List Nat)} (hg:Ok g) : ∃ F K nearF,chk (rankTo g.length (order g) (order g).length) (froms g) F (order g).tail K ((List.replicate g.length (-1)).set 0 0)=some nearF/\Idom g (order g) nearF:=by
 have ho:=aah hg;obtain ⟨K,hK⟩:=enough ho;obtain ⟨nearF,h1,h2⟩:=arw ho (fun n p hn=>aar hg n p hn) (F:=2*(order g).length+1) (by omega) hK (K+1) 0 _ (by omega) (api ho hg);exact ⟨_,_,nearF,h1,h2⟩
end Go.Vw.G
/-
 The document's nearest dominators are those that the turns find.
-/
namespace Go.Vw.G
open Go.Vw
section
variable {g:List (List Nat)}
theorem aak (hg:Ok g) (b:Nat):Met (without g none) b↔b∈order g:=by
 rw [(aah hg).mem];have:=JX hg (m:=List.replicate g.length false) (by simp) (jV _ _) b;show Met (Ja g (List.replicate g.length false)) b↔_;rw [this];constructor
 .rintro (h | h)
  .exact absurd h (jV _ _)
  .exact h
 .exact .inr
theorem Zj (hg:Ok g) {a b:Nat} (ha:a<g.length):Met (without g (some a)) b↔b≠a /\ ∃ k,Way g (order g) a k b:=by
 simp only [without]
 by_cases h0:a=0
 .rw [if_pos h0];subst h0;constructor
  .exact fun h=>absurd h (jV _ _)
  .rintro ⟨_,k,hw⟩;exact absurd hw (Dom.zero (aah hg) k)
 .rw [if_neg h0];have hset:=jcW (m:=List.replicate g.length false) (n:=a) (by simpa using ha);have hm : ∀ b,Met ((List.replicate g.length false).set a true) b↔b=a:=by
   intro b; rw [hset];constructor
   .rintro (h | h)
    .exact h
    .exact absurd h (jV _ _)
   .exact .inl
  have hmf:=JX hg (m:=(List.replicate g.length false).set a true) (by simp) (fun h=>h0 ((hm 0).1 h).symm) b;have hlen:=JD hg (m:=(List.replicate g.length false).set a true) (by simp) (by rw [aab h0]; exact aaw _ _);unfold Met
  by_cases hb:a=b
  .subst hb;rw [aac (by omega)];simp
  .rw [aab hb];show Met (Ja g ((List.replicate g.length false).set a true)) b↔_;rw [hmf,hm];constructor
   .rintro (h | h)
    .exact absurd h.symm hb
    .exact ⟨Ne.symm hb,h.way ((hm a).2 rfl)⟩
   .rintro ⟨_,k,hw⟩;exact .inr (hw.fromM fun x hx=>(hm x).1 hx)
theorem Kr (hg:Ok g) (a b:Nat):tabAt (table g) a b=true↔a∈order g/\b∈order g/\Dom g (order g) a b:=by
 have ho:=aah hg
 by_cases ha:a<g.length
 .have e1:(table g).getD a []=tableRow g a:=by simp [table,ha]
  simp only [tabAt,e1,tableRow]
  by_cases hr:a∈order g
  .have h1:(without g none).getD a false=true:=(aak hg a).2 hr;rw [if_pos h1]
   by_cases hb:b<g.length
   .have e2:((List.range g.length).map fun b=>(without g none).getD b false && !((without g (some a)).getD b false)).getD b false=((without g none).getD b false && !((without g (some a)).getD b false)):=by
     simp [hb]
    rw [e2,af,Bool.not_eq_true'];have w1:=aak hg b;have w2:=Zj hg (b:=b) ha;unfold Met at w1 w2;rw [w1];constructor
    .rintro ⟨k1,k2⟩;refine ⟨hr,k1,fun k hw => ?_⟩
     by_cases e:b=a
     .subst e; exact hw.ne rfl
     .have:=w2.2 ⟨e,k,hw⟩;rw [k2] at this; cases this
    .rintro ⟨_,k1,k2⟩;refine ⟨k1, ?_⟩
     cases hx:(without g (some a)).getD b false with
     | false=>rfl
     | true =>
      obtain ⟨_,k,hw⟩:=w2.1 hx;exact absurd hw (k2 k)
   .constructor
    .intro h;rw [ag,aJ (by simp; omega)] at h;simp at h
    .rintro ⟨_,h,_⟩;exact absurd (ho.lt b h) hb
  .have h1 : ¬ (without g none).getD a false=true:=fun h=>hr ((aak hg a).1 h)
   rw [if_neg h1,aaw];constructor
   .intro h; cases h
   .rintro ⟨h,_⟩; exact absurd h hr
 .constructor
  .intro h;have e:(table g).getD a []=[]:=by
    rw [ag,aJ (by simp [table]; omega)]; rfl
   rw [tabAt,e] at h;simp at h
  .rintro ⟨h,_⟩;exact absurd (ho.lt a h) ha
theorem jcf {t:List (List Bool)} {a p:Nat} (h : ∀ c,tabAt t c a=true->tabAt t c p=true) : ∀ n,cntTo t a n<=cntTo t p n
 | 0=>a9 _
 | n+1=>by
  have:=jcf h n;simp only [cntTo]
  by_cases h1:tabAt t n a=true
  .rw [if_pos h1,if_pos (h n h1)]; omega
  .rw [if_neg h1]; split<;>omega
theorem ag8 {t:List (List Bool)} {a p:Nat} (h : ∀ c,tabAt t c a=true->tabAt t c p=true) {x:Nat} (h1:tabAt t x p=true) (h2 : ¬ tabAt t x a=true) : ∀ n,x<n->cntTo t a n<cntTo t p n
 | 0,hx=>by omega
 | n+1,hx=>by
  have hm:=jcf h n;simp only [cntTo]
  by_cases e:x=n
  .subst e; rw [if_neg h2,if_pos h1]; omega
  .have:=ag8 h h1 h2 n (by omega)
   by_cases k1:tabAt t n a=true
   .rw [if_pos k1,if_pos (h n k1)]; omega
   .rw [if_neg k1]; split<;>omega
theorem adu {t:List (List Bool)} {p:Nat} {x:Nat} (h1:tabAt t x p=true) : ∀ n,x<n->0<cntTo t p n
 | 0,hx=>by omega
 | n+1,hx=>by
  simp only [cntTo]
  by_cases e:x=n
  .subst e; rw [if_pos h1]; omega
  .have:=adu h1 n (by omega);split<;>omega
theorem jbk {t:List (List Bool)} {n b:Nat} (h : ∀ a,a≠b -> ¬ tabAt t a b=true) : ∀ a,bestTo t n b a=(-1,0)
 | 0=>rfl
 | a+1=>by
  simp only [bestTo];rw [if_neg (fun hh=>h a hh.1 hh.2.1)];exact jbk h a
theorem adp {t:List (List Bool)} {n b p:Nat} (hpb:p≠b) (hp:tabAt t p b=true) (hc : ∀ a,a≠b->a≠p->tabAt t a b=true->cntTo t a n<cntTo t p n) (h0:0<cntTo t p n) :
  ∀ a,(p<a->bestTo t n b a=((p:Int),cntTo t p n))/\(¬ p<a->(bestTo t n b a).2<cntTo t p n)
 | 0=>⟨fun h=>by omega,fun _=>h0⟩
 | a+1=>by
  obtain ⟨h1,h2⟩:=adp hpb hp hc h0 a;simp only [bestTo]
  by_cases e:a=p
  .subst e;rw [if_pos ⟨hpb,hp,h2 (by omega)⟩];exact ⟨fun _=>rfl,fun h=>by omega⟩
  .refine ⟨fun h => ?_,fun h => ?_⟩
   .have:=h1 (by omega);rw [this];rw [if_neg (fun hh=>by have:=hc a hh.1 e hh.2.1; have:=hh.2.2; simp only at this; omega)]
   .have k:=h2 (by omega);split
    .rename_i hh; exact hc a hh.1 e hh.2.1
    .exact k
theorem ajt (hg:Ok g) {nearF:List Int} (h:Idom g (order g) nearF):rNear g=nearF.set 0 (-1):=by
 have ho:=aah hg;refine List.ext_getElem (by simp [rNear,h.len]) fun b h1 h2 => ?_
 have hb:b<g.length:=by simpa [rNear] using h1
 have hbn:b<nearF.length:=by rw [h.len]; exact hb
 have e1:(rNear g)[b]=(bestTo (table g) g.length b g.length).1:=by simp [rNear]
 rw [e1,List.getElem_set];have hnd:nearF[b]=nd nearF b:=by simp [nd,hbn]
 by_cases hb0:0=b
 .rw [if_pos hb0];subst hb0;rw [jbk (fun a ha ht=>((Kr hg a 0).1 ht).2.2 0 (.start 0 (Ne.symm ha)))]
 .rw [if_neg hb0,hnd]
  by_cases hbl:b∈order g
  .obtain ⟨p,q1,q2,q3,q4,q5⟩:=h.near b hbl (Ne.symm hb0);rw [q1];have hpt:tabAt (table g) p b=true:=(Kr hg p b).2 ⟨q2,hbl,q4⟩;have hpp:tabAt (table g) p p=true:=(Kr hg p p).2 ⟨q2,q2,Dom.self p⟩;have hpn:=ho.lt p q2;have hc : ∀ a,a≠b->a≠p->tabAt (table g) a b=true->cntTo (table g) a g.length<cntTo (table g) p g.length:=by
    intro a hab hap hat;obtain ⟨a1,_,a3⟩:=(Kr hg a b).1 hat;have hdp:=q5 a a3 hab;refine ag8 (x:=p) (fun c hcc => ?_) hpp (fun hx => ?_) _ hpn
    .obtain ⟨c1,_,c3⟩:=(Kr hg c a).1 hcc;exact (Kr hg c p).2 ⟨c1,q2,c3.trans hdp⟩
    .exact hap (hdp.anti ho ((Kr hg p a).1 hx).2.2 a1 q2)
   rw [(adp q3 hpt hc (adu hpp _ hpn) g.length).1 hpn]
  .rw [jbk (fun a _ ht=>hbl ((Kr hg a b).1 ht).2.1)];exact (h.out b hb hbl).symm
end
end Go.Vw.G
namespace Go.Vw
open Go.Proofs Go.RowKit
attribute [-simp] List.map_set
namespace G
def ordI (g:List (List Int)):List Nat:=if right g then order (nats g) else []
def fromI (g:List (List Int)):List (List Nat):=if right g then froms (nats g) else []
def err (g:List (List Int)):Int:=if right g then 0 else 1
end G
def Fits (g:List (List Int)):Prop:=g.length<2^63 /\ ∀ l∈g,l.length<2^63
theorem Yy (g:List (List Int)) (h:Fits g) (hr:G.right g=true):b8 113 [vl (vl cu) (G.nats g)] (.bool true):=by
 have:=ac6 g h.1 h.2;rw [hr,G.aan hr] at this;exact this
theorem ak3 (g:List (List Int)) (h:Fits g):b8 104 [vl (vl cj) g] (.tuple [vl cu (G.ordI g),cj (G.err g)]):=by
 intro S
 cases hr:G.right g with
 | false =>
  simp only [G.ordI,G.err,hr];refine b7 Tryz.func104 Tryz.ntmps104 fun hwf=>?_
  refine bz ?_
  refine QP ?_;refine QL (ac6 g h.1 h.2) ?_;refine bJ hr ?_;refine bW ?_
  exact jf (l:=[]) hwf ((Ghost.tp [] [cj 1] (Ghost.nl _)).toB _) rfl
 | true =>
  simp only [G.ordI,G.err,hr,if_true];rw [G.aan hr];have hg:=G.aag hr;generalize hgn:G.nats g=gn at hg;have hrn:=Yy g h hr;rw [hgn] at hrn;refine b7 Tryz.func104 Tryz.ntmps104 fun hwf=>?_
  refine bz ?_
  refine QP ?_;refine QL hrn ?_;refine bV ?_
  refine QP ?_;refine QL (aot gn hg) ?_;refine bV ?_
  exact bS
theorem aqs (g:List (List Int)):(G.ordI g).length<=256:=by
 simp only [G.ordI];split
 .rename_i h;have hg:=G.aag h;obtain ⟨t,h1,h2,h3⟩:=G.aa6 hg;have:=hg.max;simp [G.order,h1]; omega
 .simp
theorem Wp : ∀ (es:List (Nat × Nat)) (rows:List (List Nat)) (r:List Nat),r∈G.pushAll rows es->r.length<=G.total rows+es.length
 | [],rows,r,h=>by
  have h:r∈rows:=h;obtain ⟨i,hi,rfl⟩:=a7 h;have:=G.abg rows i;have hi':i<rows.length:=hi;have e:rows.getD i []=rows[i]:=by simp [hi']
  rw [e] at this;simpa using this
 | e::es,rows,r,h=>by
  have:=Wp es (G.push rows e.1 e.2) r h
  by_cases hk:e.1<rows.length
  .have k:=G.acq (rows:=rows) (k:=e.1) (i:=e.2) hk;simp; omega
  .have k:G.push rows e.1 e.2=rows:=by simp only [G.push]; exact List.set_eq_of_length_le (by omega)
   rw [k] at this;simp; omega
namespace G
def cD (g:List (List Int)):List Int:=if right g then rNear (nats g) else []
theorem adn (g:List (List Int)):(cD g).length<=256:=by
 simp only [cD];split
 .rename_i h;have:=(aag h).max;simp [rNear]; exact this
 .simp
end G
theorem KJ (g:List (List Int)) (h:Fits g):b8 77 [vl (vl cj) g] (.tuple [vl cj (G.cD g),cj (G.err g)]):=by
 cases hr:G.right g with
 | false =>
  simp only [G.cD,G.err,hr];exact aeo g h.1 h.2 hr
 | true =>
  simp only [G.cD,G.err,hr,if_true];rw [G.aan hr];have hg:=G.aag hr;have ho:=G.aah hg;obtain ⟨F,K,nearF,h1,h2⟩:=G.af3 hg;rw [G.ajt hg h2];refine ank (G.nats g) hg (Yy g h hr) (G.order (G.nats g)) rfl ?_ ho.lt (G.froms (G.nats g)) rfl (G.aa4 _) (fun r hr x hx => ?_) (fun r hr => ?_) ?_ F K nearF h1
  .obtain ⟨r,e⟩:=ho.head; rw [e]; simp
  .obtain ⟨i,hi,rfl⟩:=a7 hr;have hig:i<(G.nats g).length:=by rw [G.aa4] at hi; exact hi
   have:=(G.aar hg i x hig).1 (by simpa [hi] using hx);exact this.1
  .have k1:=Wp _ _ r hr;have k2:=G.ab2 hg.row 0;have k3:=hg.max;rw [G.aca] at k1;omega
  .obtain ⟨t,k1,k2,k3⟩:=G.aa6 hg;simp [G.order,k1]; exact k2
end Go.Vw
/-
 Circles of blocks, by a walk in depth: the walk ends.
-/
namespace Ss
def tickB (b:Block):Bool:=b.code.any fun x=>decide (x.op=258)
mutual
def ringW (tick:List Bool) (g:List (List Nat)):Nat->Nat->List Nat->Option (Bool × List Nat)
 | 0,_,_=>none
 | fuel+1,n,st=>if tick.getD n false then some (false,st) else
   match ringL tick g fuel (g.getD n []) (st.set n 1) with
   | some (true,s)=>some (true,s)
   | some (false,s)=>some (false,s.set n 2)
   | none=>none
 termination_by fuel _ _=>(fuel,0)
def ringL (tick:List Bool) (g:List (List Nat)):Nat->List Nat->List Nat->Option (Bool × List Nat)
 | _,[],st=>some (false,st)
 | fuel,k::ks,st=>if st.getD k 0=1 then some (true,st) else if st.getD k 0=0 then
   match ringW tick g fuel k st with
   | some (true,s)=>some (true,s)
   | some (false,s)=>ringL tick g fuel ks s
   | none=>none
  else ringL tick g fuel ks st
 termination_by fuel ks _=>(fuel,ks.length+1)
end
def ringM (tick:List Bool) (g:List (List Nat)) (fuel:Nat):List Nat->List Nat->Option Bool
 | [],_=>some false
 | n::ns,st=>if st.getD n 0=0 then
   match ringW tick g fuel n st with
   | some (true,_)=>some true
   | some (false,s)=>ringM tick g fuel ns s
   | none=>none
  else ringM tick g fuel ns st
def JA (st:List Nat):Nat:=(st.filter fun x=>decide (x=0)).length
theorem jae (v:Nat) : ∀ (st:List Nat) (n:Nat),v≠0->JA (st.set n v)<=JA st/\(n<st.length->st.getD n 1=0->JA (st.set n v)+1=JA st)
 | [],n,_=>by simp [JA]
 | x::st,0,hv=>by
  have e:JA ((x::st).set 0 v)=JA st:=by simp [JA,hv]
  rw [e];refine ⟨?_,fun _ h => ?_⟩
  .simp only [JA,List.filter_cons];split<;>simp
  .simp at h; subst h; simp [JA]
 | x::st,n+1,hv=>by
  obtain ⟨h1,h2⟩:=jae v st n hv;simp only [JA,aq,List.filter_cons] at h1 h2 ⊢;split
  .simp only [aC];refine ⟨by omega,fun h3 h4 => ?_⟩;have:=h2 (by simpa using h3) (by simpa using h4);omega
  .exact ⟨h1,fun h3 h4=>h2 (by simpa using h3) (by simpa using h4)⟩
theorem aq3 (st:List Nat):JA st<=st.length:=List.length_filter_le _ _
section
variable {tick:List Bool} {g:List (List Nat)}
theorem Yx {N fuel:Nat} (hg : ∀ n, ∀ k∈g.getD n [],k<N)
  (ih : ∀ n st,n<N->st.length=N->st.getD n 0=0->JA st<fuel -> ∃ r s,ringW tick g fuel n st=some (r,s)/\JA s<=JA st/\s.length=st.length) :
  ∀ (ks st:List Nat),(∀ k∈ks,k<N)->st.length=N->JA st<fuel -> ∃ r s,ringL tick g fuel ks st=some (r,s)/\JA s<=JA st/\s.length=st.length
 | [],st,_,_,_=>⟨false,st,by rw [ringL],a9 _,rfl⟩
 | k::ks,st,hk,hl,hz=>by
  rw [ringL];split
  .exact ⟨true,st,rfl,a9 _,rfl⟩
  .split
   .rename_i h0;obtain ⟨r,s,h1,h2,h3⟩:=ih k st (hk k (by simp)) hl h0 hz;rw [h1]
    cases r with
    | true=>exact ⟨true,s,rfl,h2,h3⟩
    | false =>
     obtain ⟨r',s',k1,k2,k3⟩:=Yx hg ih ks s (fun x hx=>hk x (by simp [hx])) (by omega) (by omega);exact ⟨r',s',k1,by omega,by omega⟩
   .exact Yx hg ih ks st (fun x hx=>hk x (by simp [hx])) hl hz
theorem jbP {N:Nat} (hg : ∀ n, ∀ k∈g.getD n [],k<N) : ∀ (fuel n:Nat) (st:List Nat),n<N->st.length=N->st.getD n 0=0->JA st<fuel -> ∃ r s,ringW tick g fuel n st=some (r,s)/\JA s<=JA st/\s.length=st.length
 | 0,_,_,_,_,_,hz=>by omega
 | fuel+1,n,st,hn,hl,h0,hz=>by
  rw [ringW];split
  .exact ⟨false,st,rfl,a9 _,rfl⟩
  .have hz1:=(jae 1 st n (by decide)).2 (by omega) (by
    rw [ag,ac (by omega)] at h0 ⊢;exact h0)
   obtain ⟨r,s,h1,h2,h3⟩:=Yx hg (fun n st=>jbP hg fuel n st) (g.getD n []) (st.set n 1) (hg n) (by simp; omega) (by omega);rw [h1];have h3':s.length=st.length:=by rw [h3]; simp
   cases r with
   | true=>exact ⟨true,s,rfl,by omega,h3'⟩
   | false =>
    have:=(jae 2 s n (by decide)).1;exact ⟨false,s.set n 2,rfl,by omega,by simp [h3']⟩
theorem abc {N fuel:Nat} (hg : ∀ n, ∀ k∈g.getD n [],k<N) (hf:N<fuel) : ∀ (ns st:List Nat),(∀ n∈ns,n<N)->st.length=N -> ∃ r,ringM tick g fuel ns st=some r
 | [],_,_,_=>⟨false,rfl⟩
 | n::ns,st,hn,hl=>by
  simp only [ringM];split
  .rename_i h0;obtain ⟨r,s,h1,h2,h3⟩:=jbP (tick:=tick) hg fuel n st (hn n (by simp)) hl h0 (by have:=aq3 st; omega);rw [h1]
   cases r with
   | true=>exact ⟨true,rfl⟩
   | false=>exact abc hg hf ns s (fun x hx=>hn x (by simp [hx])) (by omega)
  .exact abc hg hf ns st (fun x hx=>hn x (by simp [hx])) hl
theorem WH {fuel:Nat} (ih : ∀ n st r s,ringW tick g fuel n st=some (r,s)->s.length=st.length) : ∀ (ks st:List Nat) (r:Bool) (s:List Nat),ringL tick g fuel ks st=some (r,s)->s.length=st.length
 | [],st,r,s,h=>by rw [ringL] at h; cases h; rfl
 | k::ks,st,r,s,h=>by
  rw [ringL] at h;split at h
  .cases h; rfl
  .split at h
   .cases hw:ringW tick g fuel k st with
    | none=>rw [hw] at h; cases h
    | some p =>
     obtain ⟨b,s1⟩:=p;rw [hw] at h;have e1:=ih k st b s1 hw
     cases b with
     | true=>cases h; exact e1
     | false=>exact (WH ih ks s1 r s h).trans e1
   .exact WH ih ks st r s h
theorem aax : ∀ (fuel n:Nat) (st:List Nat) (r:Bool) (s:List Nat),ringW tick g fuel n st=some (r,s)->s.length=st.length
 | 0,_,_,_,_,h=>by rw [ringW] at h; cases h
 | fuel+1,n,st,r,s,h=>by
  rw [ringW] at h;split at h
  .cases h; rfl
  .cases hl:ringL tick g fuel (g.getD n []) (st.set n 1) with
   | none=>rw [hl] at h; cases h
   | some p =>
    obtain ⟨b,s1⟩:=p;rw [hl] at h;have e1:=WH (aax fuel) _ _ _ _ hl
    cases b with
    | true=>cases h; simpa using e1
    | false=>cases h; simpa using e1
end
def rings (bs:List Block) (g:List (List Nat)):Bool:=(ringM (bs.map tickB) g (g.length+1) (List.range g.length) (List.replicate g.length 0)).getD false
end Ss
namespace Go.Vw
open Go.Proofs Go.RowKit
attribute [-simp] List.map_set
theorem ay9 (l m:List (Int)) (p:Int->Int->Bool) (fid:FuncId) (caps:List V) (hc:jT Tryz.prog fid=true) (hl:l.length<2^63) (h:l.length=m.length -> ∀ (k:Nat) (h1:k<l.length) (h2:k<m.length),b8 fid ([cj l[k],cj m[k]]++caps) (.bool (p l[k] m[k]))) :
  b8 135 [vl (cj) l,vl (cj) m, .func fid caps] (.bool (eqF p l m)):=by
 intro S
 by_cases hlm:l.length=m.length
 .have hlm':(l.length:Int)=(m.length:Int):=by omega
  have h:=h hlm;refine b7 Tryz.func135 Tryz.ntmps135 fun hwf=>?_
  refine bF hlm hlm' ?_
  refine bX [1,2,15,16,17] (fun c σ S' => ∃ (k:Nat),k<=l.length/\c=l.length-k/\eqF p (l.drop k) (m.drop k)=eqF p l m/\σ=[(1,vl (cj) m),(2, .func fid caps),(15,vl (cj) l),(16,cu m.length),(17,cu k)]/\S'=St S [] []) l.length ?_ ?_
  .exact ⟨0,by omega,rfl,rfl,by simp [Fr.oy,hlm],rfl⟩
  .rintro c σ T ⟨k,hk,rfl,hd,rfl,rfl⟩
   by_cases hkt:k<l.length
   .have hkm:k<m.length:=by omega
    have hw:=jg hkt hl;have hst:eqF p (l.drop k) (m.drop k)=(p l[k] m[k]&&eqF p (l.drop (k+1)) (m.drop (k+1))):=by rw [am hkt,am hkm,eqF]
    have hh:=h k hkt hkm;obtain ⟨x,hx⟩ : ∃ x,l[k]=x:=⟨_,rfl⟩
    obtain ⟨y,hy⟩ : ∃ y,m[k]=y:=⟨_,rfl⟩
    rw [hx,hy] at hst hh
    refine bH hkt hkm hx hy ?_
    refine QP ?_ (r:=by conv=>lhs;simp[QV,hkt,hkm,hx,hy]);refine qU rfl hc rfl hh ?_;refine QW ?_
    cases hp:p x y with
    | false =>
     rw [hp] at hst
     refine bD hp ?_
     exact ja hwf (by rw [<-hd,hst]; rfl) rfl
    | true =>
     rw [hp] at hst
     refine bD hp ?_
     show jx _ _ _ _ _ _ _;exact again ⟨ao hkt (aW k),k+1,hkt,rfl,by rw [<-hd,hst]; rfl,by simp [Fr.oy,hw],rfl⟩
   .have e:l.drop k=[]:=by rw [aH]; omega
    have e':m.drop k=[]:=by rw [aH]; omega
    rw [e,e'] at hd;have hkm : ¬ k<m.length:=by omega
    refine bF hkt hkm ?_
    exact ja hwf (by rw [<-hd]; rfl) rfl
 .have hlm' : ¬ (l.length:Int)=(m.length:Int):=by omega
  have e:eqF p l m=false:=eqF_len hlm;rw [e];refine b7 Tryz.func135 Tryz.ntmps135 fun hwf=>?_
  refine bF hlm hlm' ?_
  exact bS
end Go.Vw
namespace Ss
structure Def where
 made:Bool
 block:Int
 pos:Int
deriving DecidableEq,Inhabited
def askOk (ts:List Int) (ds:List Def) (near:List Int) (block pos v t:Int):Bool :=
 decide (0<=v)&&decide (v<ds.length)&&decide (ts.getD v.toNat 0=t)&&(ds.getD v.toNat default).made &&
  (if (ds.getD v.toNat default).block=block then decide ((ds.getD v.toNat default).pos<pos) else Go.Vw.G.cy near (ds.getD v.toNat default).block block)
def asks (ts:List Int) (ds:List Def) (near:List Int) (block pos:Int) (l types:List Int):Bool:=Go.Vw.eqF (askOk ts ds near block pos) l types
def cv (ts:List Int) (l:List Int):List Int:=l.map fun v=>ts.getD v.toNat 0
def InTs (n:Nat) (l:List Int):Prop := ∀ v∈l,0<=v/\v<n
end Ss
namespace Go.Vw
open Go.Proofs Go.RowKit
attribute [-simp] List.map_set
def qL (d:Ss.Def):V := .agg [.bool d.made,cj d.block,cj d.pos]
theorem aqe (d:Ss.Def):qL d = .agg [.bool d.made,cj d.block,cj d.pos]:=nr rfl
theorem anu (d:Ss.Def):(qL d).ncells=3:=nr rfl
theorem afd (d:Ss.Def):(qL d).cells=[.bool d.made,cj d.block,cj d.pos]:=nr rfl
theorem zC (d:Ss.Def):(qL d).closed=true:=rfl
attribute [simp] aqe anu
def ckC (e:Ss.Env) (f:Ss.Fn) (ds near:V):List V:=[vl jn e.sigs,cj e.imports,vl cj e.globals,vl V.bool e.muts, .bool e.mem,vl cj f.sig.inn,vl cj f.sig.out,vl cj f.types,vl je f.blocks,ds,near]
theorem ayp (e:Ss.Env) (f:Ss.Fn) (ds near:V):ckC e f ds near=[vl jn e.sigs,cj e.imports,vl cj e.globals,vl V.bool e.muts, .bool e.mem,vl cj f.sig.inn,vl cj f.sig.out,vl cj f.types,vl je f.blocks,ds,near]:=nr rfl
attribute [simp] ayp
abbrev ckV (e:Ss.Env) (f:Ss.Fn) (ds:List Ss.Def) (near:List Int):V := .ref (.agg (ckC e f (vl qL ds) (vl cj near)))
theorem acr {B:Store} {u:Upds} {l:List (Option (Nat × List V))} {k s:Nat} {x:V} (hk:k<l.length) (hc:(l[k]?).join=some (s,[x])) (h1:x.cG=true):Ghost (.ptr (lid B.nx k) 0) (St B u l) (.ref x) (St B u (l.set k none)):=by
 rw [<-ab1 hk];exact Ghost.box (by rw [jB]; exact hc) h1
theorem ajr (e:Ss.Env) (f:Ss.Fn) (ds:List Ss.Def) (near:List Int) (l:List Int) (hl:l.length<=1048576) (hv:Ss.InTs f.types.length l):b8 107 [ckV e f ds near,vl cj l] (vl cj (Ss.cv f.types l)):=by
 intro S;obtain ⟨⟨fi,fo⟩,ts,bs⟩:=f;simp only at hv;generalize hg:(fun v:Int=>ts.getD v.toNat 0)=g;have hX:Ss.cv ts l=l.map g:=by rw [Ss.cv,hg]
 simp only;rw [hX];refine b7 Tryz.func107 Tryz.ntmps107 fun hwf=>?_
 refine QY ?_;refine QY ?_;refine qZ 5 1 rfl (by conv=>lhs; simp [Fr.set]) ?_
 refine bz ?_
 refine bX [0,5,8,9,10] (fun c σ S' => ∃ (k:Nat) (out:List Int),k<=l.length/\c=l.length-k/\out=(l.take k).map g/\out.length=k/\σ=[(0,ckV e ⟨⟨fi,fo⟩,ts,bs⟩ ds near),(5, .slice (lid S.nx 0) 0 k),(8,vl cj l),(9,cu l.length),(10,cu k)]/\S'=St S [] [some (1,out.map cj)]) l.length ?_ ?_
 .exact ⟨0,[],by omega,rfl,by simp,rfl,by simp [Fr.oy],by simp⟩
 .rintro c σ T ⟨k,out,hk,rfl,ho,hlen,rfl,rfl⟩
  by_cases hkt:k<l.length
  .have hw:=jg hkt (by omega);obtain ⟨h0,h1⟩:=hv _ (ah hkt);obtain ⟨v,hx⟩ : ∃ v,l[k]=v:=⟨_,rfl⟩
   rw [hx] at h0 h1;obtain ⟨n,rfl⟩ : ∃ n:Nat,v=n:=⟨v.toNat,by omega⟩
   have hn:n<ts.length:=by omega
   have hgn:g (n:Int)=ts[n]:=by rw [<-hg]; simp [hn]
   have htk:l.take (k+1)=l.take k++[(n:Int)]:=by rw [List.take_add_one,ac hkt,hx]; rfl
   have hb:(k+1)*8<=140737488355328:=by omega
   have hb':k+1<=140737488355328:=by omega
   refine bB hkt hx hn hlen hb hb' ?_
   refine QA [2] (h:=⟨?_,k+1,out++[ts[n]],hkt,rfl,by rw [htk,List.map_append,ho]; simp [hgn],by simp [hlen],by simp [hw],by simp⟩);omega
  .have hke:k=l.length:=by omega
   subst hke;rw [List.take_length] at ho
   refine bD hkt ?_
   rw [<-ho];exact jf hwf ((frz1 (by simp) (by rfl) (jo cj (fun _=>rfl) _) (by simpa using hlen)).toB _) rfl
theorem awd (e:Ss.Env) (f:Ss.Fn) (ds:List Ss.Def) (near:List Int) (block pos v t:Int) (hds:ds.length=f.types.length) (htl:f.types.length<2^63) (hnl:near.length<2^63) :
  b8 136 ([cj v,cj t]++[.ref (ckV e f ds near), .ref (cj block), .ref (cj pos)]) (.bool (Ss.askOk f.types ds near block pos v t)):=by
 intro S;obtain ⟨⟨fi,fo⟩,ts,bs⟩:=f;simp only at hds htl ⊢
 by_cases h0:v<0
 .have e:Ss.askOk ts ds near block pos v t=false:=by simp [Ss.askOk]; omega
  rw [e];refine b7 Tryz.func136 Tryz.ntmps136 fun hwf=>?_
  refine bD h0 ?_
  exact ja hwf (by simp) rfl
 obtain ⟨n,rfl⟩ : ∃ n:Nat,v=n:=⟨v.toNat,by omega⟩
 by_cases h1:n<ds.length
 case neg =>
  have h1' : ¬ (n:Int)<(ds.length:Int):=by omega
  have h1'':(ds.length:Int)<=(n:Int):=by omega
  have e:Ss.askOk ts ds near block pos n t=false:=by simp [Ss.askOk]; omega
  rw [e];refine b7 Tryz.func136 Tryz.ntmps136 fun hwf=>?_
  refine bH h0 h1 h1' h1'' ?_
  exact ja hwf (by simp) rfl
 have hnt:n<ts.length:=by omega
 have h1'' : ¬ (ds.length:Int)<=(n:Int):=by omega
 obtain ⟨tt,htt⟩ : ∃ x,ts[n]=x:=⟨_,rfl⟩
 obtain ⟨⟨dm,db,dp⟩,hd⟩ : ∃ x,ds[n]=x:=⟨_,rfl⟩
 have hX:Ss.askOk ts ds near block pos n t=(decide (tt=t)&&(dm&&(if db=block then decide (dp<pos) else G.cy near db block))):=by
  simp [Ss.askOk,h1,hnt,htt,hd,Bool.and_assoc]
 rw [hX]
 by_cases h2:tt=t
 case neg =>
  refine b7 Tryz.func136 Tryz.ntmps136 fun hwf=>?_
  refine bB h0 h1 h1'' hnt htt h2 ?_
  exact ja hwf (by simp [h2]) rfl
 cases dm with
 | false =>
  refine b7 Tryz.func136 Tryz.ntmps136 fun hwf=>?_
  repeat first|refine QG ?_|refine QY ?_ (r:=by conv=>lhs;simp[QV,h0,h1,h1'',hnt,htt,h2,hd])
  exact ja hwf (by simp) rfl
 | true =>
  by_cases h3:db=block
  .refine b7 Tryz.func136 Tryz.ntmps136 fun hwf=>?_
   repeat first|refine QG ?_|refine QY ?_ (r:=by conv=>lhs;simp[QV,h0,h1,h1'',hnt,htt,h2,hd,h3])
   exact ja hwf (by simp [h2,h3]) rfl
  .have cd:=jbq near db block hnl;generalize G.cy near db block=y at *
   refine b7 Tryz.func136 Tryz.ntmps136 fun hwf=>?_
   repeat first|refine QG ?_|refine QY ?_ (r:=by conv=>lhs;simp[QV,h0,h1,h1'',hnt,htt,h2,hd,h3])
   refine bY (r:=by conv=>lhs;simp[QV,h0,h1,h1'',hnt,htt,h2,hd,h3]) (k:=?_);refine QL (cd) ?_;refine bV ?_
   exact ja hwf (by simp [h2,h3]) rfl
theorem ann (e:Ss.Env) (f:Ss.Fn) (ds:List Ss.Def) (near:List Int) (block pos:Int) (l types:List Int) (hds:ds.length=f.types.length) (htl:f.types.length<2^63) (hnl:near.length<2^63) (hl:l.length<2^63) :
  b8 109 [ckV e f ds near,cj block,cj pos,vl cj l,vl cj types] (.bool (Ss.asks f.types ds near block pos l types)):=by
 intro S;refine b7 Tryz.func109 Tryz.ntmps109 fun hwf=>?_
 refine QY ?_;refine jy 5 rfl ((acr (by simp) rfl rfl)) (by conv=>lhs; simp [Fr.set]) ?_;simp only [aq,au];refine jy 6 rfl ((acr (by simp) rfl rfl)) (by conv=>lhs; simp [Fr.set]) ?_;simp only [aq,au];refine jy 7 rfl ((acr (by simp) rfl rfl)) (by conv=>lhs; simp [Fr.set]) ?_;simp only [aq,au];refine QP ?_;refine QL (ay9 l types (Ss.askOk f.types ds near block pos) 136 [.ref (ckV e f ds near), .ref (cj block), .ref (cj pos)] rfl hl (fun _ k h1 h2=>awd e f ds near block pos _ _ hds htl hnl)) ?_;refine bV ?_
 exact bS
end Go.Vw
