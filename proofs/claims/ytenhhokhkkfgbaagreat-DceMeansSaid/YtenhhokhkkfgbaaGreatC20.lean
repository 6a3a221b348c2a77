import Derived.Test.YtenhhokhkkfgbaaGreatC19
/- Part of the proof. -/
set_option linter.unusedVariables false
set_option linter.unusedSimpArgs false
set_option maxRecDepth 10000
set_option maxHeartbeats 8000000
namespace Go.Vw
open Go.Proofs Go.RowKit
attribute [-simp] List.map_set
theorem gOrd_v (g:List (List Nat)) (hg:G.Ok g):bS 119 [vl (vl vnat) g] (vl vnat (G.order g)):=by
 obtain ⟨t,h1,h2,h3⟩:=G.order_ends hg;have hp:=hg.pos;have hm:=hg.max;have e:g.length=(g.length-1)+1:=by omega
 have:=gOrder_v g hg (g.length-1) t (by rw [<-e]; exact h1) (by omega);simpa [G.order,h1] using this
theorem NearestErr_v (g:List (List Int)) (hg:g.length<2^63) (hl : ∀ l∈g,l.length<2^63) (hr:G.right g=false):bS 102 [vl (vl vint) g] (.tuple [vl vint [],vint 1]):=by
 intro S;refine QB (c:=jc Tryz.f102) Tryz.func102 Tryz.ntmps102 fun hwf=>?_
 refine bw ?_
 refine QP ?_;refine QL (FromErr_v g hg hl hr) ?_;refine bQ ?_
 exact jf (l:=[]) hwf ((Ghost.tuple [] [vint 1] (Ghost.nils_list _)).toB _) rfl
def Wd (S:Store) (rank:List Nat) (near:List Int):Store :=
 St S [] [some (1,rank.map vnat),some (1,[.slice (lid S.nx 0) 0 rank.length]),some (1,[.int .i64 (-1)]),some (1,near.map vint),some (1,[.slice (lid S.nx 3) 0 near.length])]
theorem Nearest_v (g:List (List Nat)) (hg:G.Ok g) (hr:bS 118 [vl (vl vnat) g] (.bool true)) (l:List Nat) (hl:G.order g=l) (hl1:1<=l.length) (hlt : ∀ x∈l,x<g.length) (fr:List (List Nat)) (hfr:G.froms g=fr) (hfl:fr.length=g.length) (hfe : ∀ r∈fr, ∀ x∈r,x<g.length) (hfm : ∀ r∈fr,r.length<=2^20)
  (hll:l.length<=g.length) (F K:Nat) (nearF:List Int) (hchk:G.chk (G.rankTo g.length l l.length) fr F l.tail K ((List.replicate g.length (-1)).set 0 0)=some nearF) :
  bS 102 [vl (vl vnat) g] (.tuple [vl vint (nearF.set 0 (-1)),vint 0]):=by
 intro S;refine QB (c:=jc Tryz.f102) Tryz.func102 Tryz.ntmps102 fun hwf=>?_
 have hp:0<g.length:=hg.pos;have hm256:=hg.max;have hb8:g.length*8<=140737488355328:=by omega
 have hb0:g.length<=140737488355328:=by omega
 refine QY ?_;refine QP ?_;refine QL (hfr▸From_v g hg hr) ?_;refine bQ ?_
 refine QP ?_;refine QL (hl▸gOrd_v g hg) ?_;refine QW ?_
 refine bt hb8 hb0 ?_
 refine QT ?_;refine jd [0,4,6,7,31,32,33] rfl (fun c σ S' => ∃ k:Nat,k<=l.length/\c=l.length-k/\σ=[(0,vl (vl vnat) g),(4,vl (vl vnat) fr),(6,vl vnat l),(7, .ptr (lid S.nx 1) 0),(31,vl vnat l),(32,vnat l.length),(33,vnat k)]/\S'=St S [] [some (1,(G.rankTo g.length l k).map vnat),some (1,[.slice (lid S.nx 0) 0 g.length])]) l.length ?_ ?_
 ·exact ⟨0,by omega,rfl,by simp [Fr.only,Fr.look,vnat],by simp [G.rankTo,vnat]⟩
 ·rintro c σ T ⟨k,hk,rfl,rfl,rfl⟩;have hrl:=G.rankTo_len g.length l k
  by_cases hkt:k<l.length
  ·have hw:IntKind.i64.wrap ((k:Int)+1)=(k:Int)+1:=wrap_i64 (by omega) (by omega);have hlk:=hlt _ (ah hkt);have hst:G.rankTo g.length l (k+1)=(G.rankTo g.length l k).set l[k] k:=by simp [G.rankTo,hkt]
   refine bv hkt hlk hrl ?_
   show js _ _ _ _ _ _ _;exact again ⟨ao hkt (aY k),k+1,hkt,rfl,by simp [Fr.only,Fr.look,vnat,hw],by rw [hst]⟩
  ·have hkl:k=l.length:=by omega
   subst hkl
   refine bx hkt ?_
   refine QP ?_;refine jK rfl (Repeat_v _ (lid S.nx 2) (-1) g.length hp (by omega) ?_) ?_
   ·simp [jv]
   rintro X T ⟨rfl,rfl⟩;generalize hrank:G.rankTo g.length l l.length=rank at hchk hrl ⊢;refine QW ?_;have hn0:((List.replicate g.length (-1:Int)).set 0 0).length=g.length:=by simp
   refine bx hp ?_
   refine QT ?_;refine jd [0,4,6,7,10,11,12] rfl (fun c σ S' => ∃ near:List Int,near.length=g.length/\((c=0/\near=nearF/\σ=[(0,vl (vl vnat) g),(4,vl (vl vnat) fr),(6,vl vnat l),(7, .ptr (lid S.nx 1) 0),(10, .ptr (lid S.nx 4) 0),(11, .func 125 [.ptr (lid S.nx 1) 0, .ptr (lid S.nx 4) 0]),(12, .bool false)])\/(G.chk rank fr F l.tail c near=some nearF/\σ=[(0,vl (vl vnat) g),(4,vl (vl vnat) fr),(6,vl vnat l),(7, .ptr (lid S.nx 1) 0),(10, .ptr (lid S.nx 4) 0),(11, .func 125 [.ptr (lid S.nx 1) 0, .ptr (lid S.nx 4) 0]),(12, .bool true)]))/\S'=Wd S rank near) K ?_ ?_
   ·refine ⟨_,hn0, .inr ⟨hchk,by simp [Fr.only,Fr.look,vnat]⟩, ?_⟩;simp [Wd,hrl,vint,List.map_set]
   ·rintro c σ T ⟨near,hnl,⟨rfl,rfl,rfl⟩ | ⟨hc,rfl⟩,rfl⟩
    ·have hp':0<near.length:=by omega
     unfold Wd
     refine bx hp' ?_
     have hfz:=frz1 (B:=S) (u:=[]) (l:=[some (1,rank.map vnat),some (1,[.slice (lid S.nx 0) 0 rank.length]),some (1,[.int .i64 (-1)]),some (1,(near.set 0 (-1)).map vint),some (1,[.slice (lid S.nx 3) 0 near.length])]) (k:=3) (len:=near.length) (by simp) rfl (jq vint (fun _=>rfl) _) (by simp);exact jf hwf ((Ghost.tuple [] [vint 0] hfz).toB _) rfl
    ·cases c with
     | zero=>cases hc
     | succ c =>
      simp only [G.chk] at hc;obtain ⟨s,hsw,hc⟩:=aN.1 hc;have hl1':(1:Int)<=(l.length:Int):=by omega
      refine bx hl1' ?_
      refine QT ?_;refine jd [0,4,6,7,10,11,12,52,53,54] rfl (fun c σ S' => ∃ (k:Nat) (near:List Int) (t:Bool),near.length=g.length/\k<=l.tail.length/\c=l.tail.length-k/\G.sweepF rank fr F (l.tail.drop k) near t=some s/\σ=[(0,vl (vl vnat) g),(4,vl (vl vnat) fr),(6,vl vnat l),(7, .ptr (lid S.nx 1) 0),(10, .ptr (lid S.nx 4) 0),(11, .func 125 [.ptr (lid S.nx 1) 0, .ptr (lid S.nx 4) 0]),(12, .bool t),(52,vl vnat l.tail),(53,vnat (l.length-1)),(54,vnat k)]/\S'=Wd S rank near) l.tail.length ?_ ?_
      ·exact ⟨0,near,false,hnl,by omega,rfl,hsw,by simp [Fr.only,Fr.look,vnat],rfl⟩
      ·rintro c' σ T ⟨k,near,t,hnl,hk,rfl,hsw,rfl,rfl⟩;have htl:l.tail.length=l.length-1:=by simp
       by_cases hkt:k<l.tail.length
       ·have hw:IntKind.i64.wrap ((k:Int)+1)=(k:Int)+1:=wrap_i64 (by omega) (by omega);have hkt':k<l.length-1:=by omega
        have hk1:k+1<l.length:=by omega
        have hel:l[k+1]=l.tail[k]:=by simp
        rw [am hkt,G.sweepF] at hsw;obtain ⟨b,hpk,hsw⟩:=aN.1 hsw;have hlk:=hlt _ (List.mem_of_mem_tail (ah hkt));generalize hn:l.tail[k]=n at hpk hsw hlk hel;have hnf:n<fr.length:=by omega
        have hfn:fr.getD n []=fr[n]:=by simp [hnf]
        rw [hfn] at hpk;have hmr:=hfe _ (ah hnf);have hmm:=hfm _ (ah hnf);have hnn:n<near.length:=by omega
        have hng:near.getD n 0=near[n]:=by simp [hnn]
        rw [hng] at hsw;unfold Wd
        refine bD hkt' hk1 hel hnf ?_
        refine QT ?_;refine jd [0,4,6,7,10,11,12,14,15,52,53,54,61,62,63] rfl (fun c σ S' => ∃ (j:Nat) (best:Int),j<=fr[n].length/\c=fr[n].length-j/\G.pickF rank near F (fr[n].drop j) best=some b/\σ=[(0,vl (vl vnat) g),(4,vl (vl vnat) fr),(6,vl vnat l),(7, .ptr (lid S.nx 1) 0),(10, .ptr (lid S.nx 4) 0),(11, .func 125 [.ptr (lid S.nx 1) 0, .ptr (lid S.nx 4) 0]),(12, .bool t),(14,vnat n),(15,vint best),(52,vl vnat l.tail),(53,vnat (l.length-1)),(54,vnat k),(61,vl vnat fr[n]),(62,vnat fr[n].length),(63,vnat j)]/\S'=Wd S rank near) fr[n].length ?_ ?_
        ·exact ⟨0, -1,by omega,rfl,hpk,by simp [Fr.only,Fr.look,vnat,vint],rfl⟩
        ·rintro c'' σ T ⟨j,best,hj,rfl,hpk,rfl,rfl⟩
         by_cases hjt:j<fr[n].length
         ·have hwj:IntKind.i64.wrap ((j:Int)+1)=(j:Int)+1:=wrap_i64 (by omega) (by omega);rw [am hjt,G.pickF] at hpk;have hpg:=hmr _ (ah hjt);generalize hp':fr[n][j]=p at hpk hpg;have hpn:p<near.length:=by omega
          have hpd:near.getD p 0=near[p]:=by simp [hpn]
          rw [hpd] at hpk;unfold Wd
          by_cases h1:near[p]<0
          ·rw [if_pos h1] at hpk
           refine bD hjt hp' hpn h1 ?_
           show js _ _ _ _ _ _ _;exact again ⟨ao hjt (aY j),j+1,best,hjt,rfl,hpk,by simp [Fr.only,Fr.look,vnat,vint,hwj],rfl⟩
          ·rw [if_neg h1] at hpk
           by_cases h2:best<0
           ·rw [if_pos h2] at hpk
            refine bJ hjt hp' hpn h1 h2 ?_
            show js _ _ _ _ _ _ _;exact again ⟨ao hjt (aY j),j+1,p,hjt,rfl,hpk,by simp [Fr.only,Fr.look,vnat,vint,hwj],rfl⟩
           ·rw [if_neg h2] at hpk;obtain ⟨q,hq,hpk⟩:=aN.1 hpk
            refine bJ hjt hp' hpn h1 h2 ?_
            refine QP ?_;refine ql rfl rfl rfl (Meet_v _ rank near (by omega) (lid S.nx 1) (lid S.nx 4) (lid S.nx 0) (lid S.nx 3) ?_ ?_ ?_ ?_ F best p q hq) ?_
            ·simp [jv]
            ·simp [jv]
            ·simp [jv]
            ·simp [jv]
            rintro X T ⟨rfl,rfl⟩;refine bQ ?_
            show js _ _ _ _ _ _ _;exact again ⟨ao hjt (aY j),j+1,q,hjt,rfl,hpk,by simp [Fr.only,Fr.look,vnat,vint,hwj],rfl⟩
         ·have hje:j=fr[n].length:=by omega
          subst hje;rw [List.drop_length,G.pickF] at hpk
          cases hpk
          unfold Wd
          cases t with
          | true =>
           refine bt hjt hnn ?_
           show js _ _ _ _ _ _ _;exact again ⟨ao hkt (aY k),k+1,near.set n b,true,by simp [hnl],hkt,rfl,by simpa using hsw,by simp [Fr.only,Fr.look,vnat,hw],by simp [Wd,vint]⟩
          | false =>
           refine bt hjt hnn ?_
           show js _ _ _ _ _ _ _;exact again ⟨ao hkt (aY k),k+1,near.set n b, !decide (near[n]=b),by simp [hnl],hkt,rfl,by simpa using hsw,by simp [Fr.only,Fr.look,vnat,hw],by simp [Wd,vint]⟩
       ·have hkl:k=l.tail.length:=by omega
        subst hkl;rw [List.drop_length,G.sweepF] at hsw
        cases hsw
        have hkt' : ¬ l.tail.length<l.length-1:=by omega
        refine bx hkt' ?_
        cases t with
        | true =>
         show js _ _ _ _ _ _ _;exact again ⟨aY c,near,hnl, .inr ⟨hc,by simp [Fr.only,Fr.look]⟩,rfl⟩
        | false =>
         show js _ _ _ _ _ _ _;exact again ⟨Nat.succ_pos c,near,hnl, .inl ⟨rfl,by simpa using hc,by simp [Fr.only,Fr.look]⟩,rfl⟩
end Go.Vw
/-
 What the walk in depth meets; its order.
-/
namespace Go.Vw.G
open Go.Vw
abbrev Met (m:List Bool) (n:Nat):Prop:=m.getD n false=true
inductive From (g:List (List Nat)) (m:List Bool) (n:Nat):Nat->Prop
 | start (h : ¬ Met m n):From g m n n
 | step {a k:Nat} (h:From g m n a) (hk:k∈g.getD a []) (hm : ¬ Met m k):From g m n k
theorem From.not {g:List (List Nat)} {m:List Bool} {n b:Nat} (h:From g m n b) : ¬ Met m b:=by
 cases h<;>assumption
theorem From.less {g:List (List Nat)} {m m':List Bool} {n b:Nat} (hm : ∀ k,Met m k->Met m' k) (h:From g m' n b):From g m n b:=by
 induction h with
 | start h=>exact .start fun hk=>h (hm _ hk)
 | step _ hk hn ih=>exact .step ih hk fun h=>hn (hm _ h)
theorem From.cons {g:List (List Nat)} {m:List Bool} {n k b:Nat} (hn : ¬ Met m n) (hk:k∈g.getD n []) (h:From g m k b):From g m n b:=by
 induction h with
 | start h=>exact .step (.start hn) hk h
 | step _ hk' hm ih=>exact .step ih hk' hm
theorem jcF {m:List Bool} {n:Nat} (h:n<m.length) (k:Nat):Met (m.set n true) k↔k=n\/Met m k:=by
 unfold Met
 by_cases e:n=k
 ·subst e; rw [getD_set_self' h]; simp
 ·rw [getD_set_other e];constructor
  ·exact fun h => .inr h
  ·rintro (h | h)
   ·exact absurd h.symm e
   ·exact h
structure Left (g:List (List Nat)) (roots:List Nat) (s t:WS):Prop where
 len:t.1.length=s.1.length
 mono : ∀ k,Met s.1 k->Met t.1 k
 root : ∀ r∈roots,Met t.1 r
 kids : ∀ b,Met t.1 b -> ¬ Met s.1 b -> ∀ k∈g.getD b [],Met t.1 k
 way : ∀ b,Met t.1 b -> ¬ Met s.1 b -> ∃ r∈roots,From g s.1 r b
 done : ∃ d,t.2=s.2++d/\d.Nodup/\(∀ b,b∈d↔Met t.1 b /\ ¬ Met s.1 b)
 /-- Behind each that is done stand, further back, nodes from which it is reached: but for the roots. -/
 behind : ∀ b,Met t.1 b -> ¬ Met s.1 b->b∉roots -> ∃ p d1 d2 d3,t.2=s.2++(d1++b::d2++p::d3)/\b∈g.getD p []
theorem Left.nil {g:List (List Nat)} (s:WS):Left g [] s s :=
 ⟨rfl,fun _ h=>h,by simp,fun b h1 h2=>absurd h1 h2,fun b h1 h2=>absurd h1 h2,⟨[],by simp,by simp,fun b=>⟨fun h=>by simp at h,fun h=>absurd h.1 h.2⟩⟩,fun b h1 h2=>absurd h1 h2⟩
theorem Left.met {g:List (List Nat)} {k:Nat} {l:List Nat} {s t:WS} (hk:Met s.1 k) (h:Left g l s t):Left g (k::l) s t:=by
 refine ⟨h.len,h.mono,fun r hr => ?_,h.kids,fun b h1 h2 => ?_,h.done,fun b h1 h2 h3=>h.behind b h1 h2 fun hb=>h3 (List.mem_cons_of_mem _ hb)⟩
 ·rcases aL.1 hr with rfl | hr
  ·exact h.mono _ hk
  ·exact h.root r hr
 ·obtain ⟨r,hr,hw⟩:=h.way b h1 h2;exact ⟨r,List.mem_cons_of_mem _ hr,hw⟩
theorem Left.cons {g:List (List Nat)} {k:Nat} {l:List Nat} {s t u:WS} (h:Left g [k] s t) (h':Left g l t u):Left g (k::l) s u:=by
 obtain ⟨d,e1,n1,m1⟩:=h.done;obtain ⟨d',e2,n2,m2⟩:=h'.done;refine ⟨h'.len.trans h.len,fun x hx=>h'.mono x (h.mono x hx),fun r hr => ?_,fun b h1 h2 => ?_,fun b h1 h2 => ?_,⟨d++d', ?_, ?_,fun b => ?_⟩,fun b h1 h2 h3 => ?_⟩
 ·rcases aL.1 hr with rfl | hr
  ·exact h'.mono _ (h.root _ (by simp))
  ·exact h'.root r hr
 ·intro c hc
  by_cases hb:Met t.1 b
  ·exact h'.mono _ (h.kids b hb h2 c hc)
  ·exact h'.kids b h1 hb c hc
 ·by_cases hb:Met t.1 b
  ·obtain ⟨r,hr,hw⟩:=h.way b hb h2;simp at hr; subst hr;exact ⟨r,by simp,hw⟩
  ·obtain ⟨r,hr,hw⟩:=h'.way b h1 hb;exact ⟨r,List.mem_cons_of_mem _ hr,hw.less h.mono⟩
 ·rw [e2,e1,List.append_assoc]
 ·rw [List.nodup_append];refine ⟨n1,n2,fun x hx y hy e => ?_⟩;subst e;exact ((m2 x).1 hy).2 ((m1 x).1 hx).1
 ·rw [aG,m1,m2];constructor
  ·rintro (⟨a,b⟩ | ⟨a,b⟩)
   ·exact ⟨h'.mono _ a,b⟩
   ·exact ⟨a,fun hs=>b (h.mono _ hs)⟩
  ·rintro ⟨a,c⟩
   by_cases hb:Met t.1 b
   ·exact .inl ⟨hb,c⟩
   ·exact .inr ⟨a,hb⟩
 ·by_cases hb:Met t.1 b
  ·obtain ⟨p,d1,d2,d3,e,hp⟩:=h.behind b hb h2 (by simpa using fun e=>h3 (by simp [e]));exact ⟨p,d1,d2,d3++d',by rw [e2,e]; simp,hp⟩
  ·obtain ⟨p,d1,d2,d3,e,hp⟩:=h'.behind b h1 hb fun hm=>h3 (List.mem_cons_of_mem _ hm)
   exact ⟨p,d++d1,d2,d3,by rw [e,e1]; simp,hp⟩
theorem Left.walk {g:List (List Nat)} {n:Nat} {s t:WS} (hn:n<s.1.length) (hm : ¬ Met s.1 n) (h:Left g (g.getD n []) (s.1.set n true,s.2) t):Left g [n] s (t.1,t.2++[n]):=by
 have hset:=jcF hn;have hnt:Met t.1 n:=h.mono n ((hset n).2 (.inl rfl));obtain ⟨d,e1,n1,m1⟩:=h.done;have hnd:n∉d:=fun hd=>((m1 n).1 hd).2 ((hset n).2 (.inl rfl))
 refine ⟨by have:=h.len; simpa using this,fun k hk=>h.mono k ((hset k).2 (.inr hk)),fun r hr=>by simp at hr; subst hr; exact hnt,fun b h1 h2 c hc => ?_,fun b h1 h2=>⟨n,by simp, ?_⟩,⟨d++[n],by simp [e1], ?_,fun b => ?_⟩,fun b h1 h2 h3 => ?_⟩
 ·by_cases e:b=n
  ·subst e; exact h.root c hc
  ·exact h.kids b h1 (fun hs=>by rcases (hset b).1 hs with h | h; exact e h; exact h2 h) c hc
 ·by_cases e:b=n
  ·subst e; exact .start hm
  ·obtain ⟨r,hr,hw⟩:=h.way b h1 (fun hs=>by rcases (hset b).1 hs with h | h; exact e h; exact h2 h);exact From.cons hm hr (hw.less fun k hk=>(hset k).2 (.inr hk))
 ·rw [List.nodup_append];exact ⟨n1,by simp,fun x hx y hy e=>by simp at hy; subst hy; subst e; exact hnd hx⟩
 ·rw [aG,m1,hset];simp only [aW,not_or];constructor
  ·rintro (⟨a,_,c⟩ | rfl)
   ·exact ⟨a,c⟩
   ·exact ⟨hnt,hm⟩
  ·rintro ⟨a,c⟩
   by_cases e:b=n
   ·exact .inr e
   ·exact .inl ⟨a,e,c⟩
 ·have e:b≠n:=by simpa using h3
  have hb2 : ¬ Met (s.1.set n true) b:=fun hs=>by rcases (hset b).1 hs with h | h; exact e h; exact h2 h
  by_cases hr:b∈g.getD n []
  ·have hbd:b∈d:=(m1 b).2 ⟨h1,hb2⟩;obtain ⟨d1,d2,rfl⟩:=List.append_of_mem hbd;exact ⟨n,d1,d2,[],by simp only [e1]; simp,hr⟩
  ·obtain ⟨p,d1,d2,d3,e2,hp⟩:=h.behind b h1 hb2 hr;exact ⟨p,d1,d2,d3++[n],by simp only [e2]; simp,hp⟩
theorem jaB {g:List (List Nat)} {f:Nat} (ih : ∀ n s t,s.1.length=g.length->n<s.1.length -> ¬ Met s.1 n->walk g f n s=some t->Left g [n] s t) : ∀ (l:List Nat) (s t:WS),s.1.length=g.length->(∀ k∈l,k<s.1.length)->kids g f l s=some t->Left g l s t
 | [],s,t,_,_,h=>by cases h; exact Left.nil s
 | k::l,s,t,hs,hl,h=>by
  rw [kids_cons] at h;split at h
  ·rename_i hm;exact Left.met hm (jaB ih l s t hs (fun k hk=>hl k (List.mem_cons_of_mem _ hk)) h)
  ·rename_i hm;obtain ⟨u,h1,h2⟩:=aN.1 h;have a:=ih k s u hs (hl k List.mem_cons_self) (by simpa using hm) h1;exact a.cons (jaB ih l u t (a.len.trans hs) (fun k hk=>by rw [a.len]; exact hl k (List.mem_cons_of_mem _ hk)) h2)
theorem ZM {g:List (List Nat)} (hg:Ok g) : ∀ (f n:Nat) (s t:WS),s.1.length=g.length->n<s.1.length -> ¬ Met s.1 n->walk g f n s=some t->Left g [n] s t
 | 0,n,s,t,_,_,_,h=>by cases h
 | f+1,n,s,t,hs,hn,hm,h=>by
  rw [walk_succ] at h;obtain ⟨u,h1,rfl⟩:=av.1 h;refine Left.walk hn hm (jaB (ZM hg f) _ _ u (by simpa using hs) (fun k hk => ?_) h1);have hng:n<g.length:=by omega
  have e:g.getD n []=g[n]:=by simp [hng]
  rw [e] at hk;have:=hg.elt _ (ah hng) k hk;simp only [List.length_set];omega
theorem JW {g:List (List Nat)} (hg:Ok g) {m:List Bool} (hm:m.length=g.length) (h0 : ¬ Met m 0) (b:Nat):Met (zZ g m) b↔Met m b\/From g m 0 b:=by
 obtain ⟨t,h1,h2,h3,h4⟩:=metFrom_ends hg hm (by simpa using h0);have hl:=ZM hg _ 0 (m,[]) t hm (by have:=hg.pos; show 0<m.length; omega) h0 h1;rw [h2];constructor
 ·intro h
  by_cases hb:Met m b
  ·exact .inl hb
  ·obtain ⟨r,hr,hw⟩:=hl.way b h hb;simp at hr; subst hr;exact .inr hw
 ·rintro (h | h)
  ·exact hl.mono b h
  ·induction h with
   | start _=>exact hl.root 0 (by simp)
   | step ha hk _ ih=>exact hl.kids _ ih ha.not _ hk
abbrev R (g:List (List Nat)) (b:Nat):Prop:=From g (List.replicate g.length false) 0 b
theorem qd (n k:Nat) : ¬ Met (List.replicate n false) k:=by unfold Met; rw [rep_getD]; simp
structure qu (g:List (List Nat)) (l:List Nat):Prop where
 nd:l.Nodup
 mem : ∀ b,b∈l↔R g b
 head : ∃ r,l=0::r
 lt : ∀ b∈l,b<g.length
 par : ∀ b∈l,b≠0 -> ∃ p d1 d2 d3,l=d1++p::d2++b::d3/\b∈g.getD p []
theorem R.lt {g:List (List Nat)} (hg:Ok g) {b:Nat} (h:R g b):b<g.length:=by
 cases h with
 | start _=>exact hg.pos
 | step ha hk _ =>
  rename_i a _
  by_cases hal:a<g.length
  ·have e:g.getD a []=g[a]:=by simp [hal]
   rw [e] at hk;exact hg.elt _ (ah hal) _ hk
  ·have e:g.getD a []=[]:=by simp [aJ (by omega:g.length<=a)]
   rw [e] at hk; simp at hk
theorem order_ok {g:List (List Nat)} (hg:Ok g):qu g (order g):=by
 obtain ⟨t,h1,h2,h3⟩:=order_ends hg;have hl:=ZM hg _ 0 (List.replicate g.length false,[]) t (by simp) (by have:=hg.pos; simp only [List.length_replicate]; omega) (qd _ _) h1;have ho:order g=t.2.reverse:=by simp [order,h1]
 obtain ⟨d,e1,n1,m1⟩:=hl.done;simp only [List.nil_append] at e1;have hmem : ∀ b,b∈order g↔R g b:=by
  intro b;have:=JW hg (m:=List.replicate g.length false) (by simp) (qd _ _) b;have hme:zZ g (List.replicate g.length false)=t.1:=by simp [zZ,h1]
  rw [hme] at this;rw [ho,List.mem_reverse,e1,m1,this];constructor
  ·rintro ⟨h | h,_⟩
   ·exact absurd h (qd _ _)
   ·exact h
  ·exact fun h=>⟨.inr h,qd _ _⟩
 refine ⟨by rw [ho,e1]; exact List.pairwise_reverse.2 (n1.imp fun h=>Ne.symm h),hmem, ?_,fun b hb=>((hmem b).1 hb).lt hg,fun b hb hb0 => ?_⟩
 ·have hp:=hg.pos;obtain ⟨f,hf⟩ : ∃ f,g.length=f+1:=⟨g.length-1,by omega⟩
  rw [hf,walk_succ] at h1;obtain ⟨u,_,rfl⟩:=av.1 h1;exact ⟨u.2.reverse,by rw [ho]; simp⟩
 ·have hbt:Met t.1 b:=by
   have:=(hmem b).1 hb;have hme:zZ g (List.replicate g.length false)=t.1:=by simp [zZ,h1]
   rw [<-hme];exact (JW hg (by simp) (qd _ _) b).2 (.inr this)
  obtain ⟨p,d1,d2,d3,e,hp⟩:=hl.behind b hbt (qd _ _) (by simpa using hb0);simp only [List.nil_append] at e;exact ⟨p,d3.reverse,d2.reverse,d1.reverse,by rw [ho,e]; simp,hp⟩
end Go.Vw.G
/-
 Dominators: what the nearest ones are, and that both ways find them.
-/
namespace Go.Vw.G
open Go.Vw
/-! ### Where nodes stand in the order -/
theorem jbD {n:Nat} {l:List Nat} (hn:l.Nodup) (hl : ∀ x∈l,x<n) : ∀ (k i:Nat),k<=l.length->(hi:i<l.length)->i<k->(rankTo n l k).getD l[i] 0=i
 | 0,i,_,_,h=>by omega
 | k+1,i,hk,hi,h=>by
  have hkl:k<l.length:=by omega
  have e:l.getD k 0=l[k]:=by simp [hkl]
  simp only [rankTo,e]
  by_cases hik:k=i
  ·subst hik;rw [getD_set_self' (by rw [rankTo_len]; exact hl _ (ah hi))]
  ·have hne:l[k]≠l[i]:=fun h=>hik ((List.getElem_inj hn).1 h)
   rw [getD_set_other hne];exact jbD hn hl k i (by omega) hi (by omega)
section
variable {g:List (List Nat)} {l:List Nat}
def rk (g:List (List Nat)) (l:List Nat) (x:Nat):Nat:=(rankTo g.length l l.length).getD x 0
theorem rk_at (h:qu g l) {i:Nat} (hi:i<l.length):rk g l l[i]=i:=jbD h.nd h.lt _ i (bf _) hi hi
theorem rk_inj (h:qu g l) {a b:Nat} (ha:a∈l) (hb:b∈l) (e:rk g l a=rk g l b):a=b:=by
 obtain ⟨i,hi,rfl⟩:=a9 ha;obtain ⟨j,hj,rfl⟩:=a9 hb;rw [rk_at h hi,rk_at h hj] at e;subst e; rfl
theorem Yo (h:qu g l):rk g l 0=0:=by
 obtain ⟨r,rfl⟩:=h.head;have:=rk_at h (i:=0) (by simp);simpa using this
theorem zero_mem (h:qu g l):0∈l:=by obtain ⟨r,rfl⟩:=h.head; simp
theorem rk_pos (h:qu g l) {a:Nat} (ha:a∈l) (h0:a≠0):0<rk g l a:=by
 rcases Nat.eq_zero_or_pos (rk g l a) with e | e
 ·exact absurd (rk_inj h ha (zero_mem h) (e.trans (Yo h).symm)) h0
 ·exact e
theorem rk_lt (h:qu g l) {a:Nat} (ha:a∈l):rk g l a<l.length:=by
 obtain ⟨i,hi,rfl⟩:=a9 ha;rw [rk_at h hi]; exact hi
theorem par_rk (h:qu g l) {b:Nat} (hb:b∈l) (h0:b≠0) : ∃ p,p∈l/\rk g l p<rk g l b/\b∈g.getD p []:=by
 obtain ⟨p,d1,d2,d3,e,hp⟩:=h.par b hb h0;have hp1:d1.length<l.length:=by rw [e]; simp
 have hb1:d1.length+1+d2.length<l.length:=by rw [e]; simp; omega
 have ep:l[d1.length]=p:=by simp [e]
 have eb:l[d1.length+1+d2.length]=b:=by
  simp only [e];rw [List.getElem_append_right (by simp; omega)];simp [show d1.length+1+d2.length-(d1.length+(d2.length+1))=0 by omega]
 refine ⟨p,by rw [e]; simp, ?_,hp⟩;have a1:=rk_at h hp1;have a2:=rk_at h hb1;rw [ep] at a1; rw [eb] at a2;omega
/-! ### Ways that avoid a node, with so many steps back at most -/
inductive Way (g:List (List Nat)) (l:List Nat) (y:Nat):Nat->Nat->Prop
 | start (k:Nat) (h:0≠y):Way g l y k 0
 | on {k a n:Nat} (h:Way g l y k a) (hn:n∈g.getD a []) (hr:rk g l a<rk g l n) (hy:n≠y):Way g l y k n
 | back {k a n:Nat} (h:Way g l y k a) (hn:n∈g.getD a []) (hy:n≠y):Way g l y (k+1) n
theorem Way.ne {y k n:Nat} (h:Way g l y k n):n≠y:=by cases h<;>assumption
theorem Way.more {y k n:Nat} (h:Way g l y k n):Way g l y (k+1) n:=by
 induction h with
 | start k h=>exact .start _ h
 | on _ hn hr hy ih=>exact .on ih hn hr hy
 | back _ hn hy ih=>exact .back ih hn hy
theorem Way.le {y k k' n:Nat} (h:Way g l y k n) (hk:k<=k'):Way g l y k' n:=by
 induction hk with
 | refl=>exact h
 | step _ ih=>exact ih.more
theorem Way.other {y z k n:Nat} (h:Way g l y k n):Way g l z k n\/(∃ k',k'<=k/\Way g l y k' z):=by
 induction h with
 | start k h =>
  by_cases e:0=z
  ·subst e; exact .inr ⟨k,bf _, .start _ h⟩
  ·exact .inl (.start _ e)
 | @on k a n ha hn hr hy ih =>
  by_cases e:n=z
  ·subst e; exact .inr ⟨k,bf _, .on ha hn hr hy⟩
  ·rcases ih with h | h
   ·exact .inl (.on h hn hr e)
   ·exact .inr h
 | @back k a n ha hn hy ih =>
  by_cases e:n=z
  ·subst e; exact .inr ⟨k+1,bf _, .back ha hn hy⟩
  ·rcases ih with h | ⟨k',h1,h2⟩
   ·exact .inl (.back h hn e)
   ·exact .inr ⟨k',by omega,h2⟩
def DomK (g:List (List Nat)) (l:List Nat) (k y n:Nat):Prop := ¬ Way g l y k n
def Dom (g:List (List Nat)) (l:List Nat) (y n:Nat):Prop := ∀ k, ¬ Way g l y k n
theorem DomK.less {k k' y n:Nat} (h:DomK g l k y n) (hk:k'<=k):DomK g l k' y n:=fun hw=>h (hw.le hk)
theorem DomK.trans {k y z n:Nat} (h:DomK g l k y z) (h':DomK g l k z n):DomK g l k y n:=by
 intro hw;rcases hw.other (z:=z) with h1 | ⟨k',h1,h2⟩
 ·exact h' h1
 ·exact h (h2.le h1)
theorem DomK.self (k n:Nat):DomK g l k n n:=fun hw=>hw.ne rfl
theorem Dom.trans {y z n:Nat} (h:Dom g l y z) (h':Dom g l z n):Dom g l y n:=fun k=>DomK.trans (h k) (h' k)
theorem Dom.self (n:Nat):Dom g l n n:=fun k=>DomK.self k n
theorem Way.reached {y k n:Nat} (h:Way g l y k n):R g n:=by
 induction h with
 | start k h=>exact .start (qd _ _)
 | on _ hn _ _ ih=>exact .step ih hn (qd _ _)
 | back _ hn _ ih=>exact .step ih hn (qd _ _)
theorem From.way {y n:Nat} {m:List Bool} (hm:Met m y) (h:From g m 0 n) : ∃ k,Way g l y k n:=by
 induction h with
 | start h=>exact ⟨0, .start 0 fun e=>h (e▸hm)⟩
 | step _ hk hn ih =>
  obtain ⟨k,ih⟩:=ih;exact ⟨k+1, .back ih hk fun e=>hn (e▸hm)⟩
theorem Way.fromM {y k n:Nat} {m:List Bool} (hm : ∀ b,Met m b->b=y) (h:Way g l y k n):From g m 0 n:=by
 induction h with
 | start k h=>exact .start fun h'=>h (hm _ h')
 | on _ hn _ hy ih=>exact .step ih hn fun h'=>hy (hm _ h')
 | back _ hn hy ih=>exact .step ih hn fun h'=>hy (hm _ h')
theorem straight (h:qu g l) {y:Nat} : ∀ (r n:Nat),rk g l n=r->n∈l->(∀ x∈l,rk g l x<=r->x≠y)->Way g l y 0 n:=by
 intro r
 induction r using Nat.strongRecOn with
 | _ r ih =>
  intro n hr hn hy
  by_cases h0:n=0
  ·subst h0; exact .start _ (hy 0 hn (by omega))
  ·obtain ⟨p,hp,hlt,hk⟩:=par_rk h hn h0;exact .on (ih _ (by omega) p rfl hp fun x hx hle=>hy x hx (by omega)) hk (by omega) (hy n hn (by omega))
theorem Dom.rk (h:qu g l) {y n:Nat} (hd:Dom g l y n) (hy:y∈l) (hn:n∈l) (hne:y≠n):rk g l y<rk g l n:=by
 rcases Nat.lt_or_ge (G.rk g l y) (G.rk g l n) with h1 | h1
 ·exact h1
 ·exfalso
  refine hd 0 (straight h _ n rfl hn fun x hx hle e => ?_);subst e;have:G.rk g l x=G.rk g l n:=by omega
  exact hne (rk_inj h hx hn this)
theorem Dom.anti (h:qu g l) {y n:Nat} (hd:Dom g l y n) (hd':Dom g l n y) (hy:y∈l) (hn:n∈l):y=n:=by
 by_cases e:y=n
 ·exact e
 ·have:=hd.rk h hy hn e;have:=hd'.rk h hn hy (Ne.symm e);omega
theorem Dom.zero (h:qu g l) {n:Nat}:Dom g l 0 n:=by
 intro k hw
 induction hw with
 | start k h=>exact h rfl
 | on _ _ _ _ ih=>exact ih
 | back _ _ _ ih=>exact ih
theorem Dom.pred {d n p:Nat} (hd:Dom g l d n) (hne:d≠n) (hp:n∈g.getD p []):Dom g l d p:=fun k hw=>hd (k+1) (.back hw hp (Ne.symm hne))
theorem Dom.mem (h:qu g l) {y n:Nat} (hd:Dom g l y n) (hn:n∈l):y∈l:=by
 by_cases hy:y∈l
 ·exact hy
 ·exact absurd (straight h _ n rfl hn fun x hx _ e=>hy (by rw [<-e]; exact hx)) (hd 0)
end
end Go.Vw.G
