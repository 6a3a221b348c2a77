import Derived.Test.YtkfllaokjaldnaaGreatC9
/- Part of the proof. -/
set_option linter.unusedVariables false
set_option linter.unusedSimpArgs false
set_option maxRecDepth 10000
set_option maxHeartbeats 4000000
namespace Ss
def rowOf (b:Block):List Int:=b.term.to.map Edge.to
def succs (bs:List Block):List (List Int):=bs.map rowOf
end Ss
namespace Go.Vw
open Go.Proofs Go.RowKit
attribute [-simp] List.map_set
theorem abb : ∀ {bs:List Ss.Block} {b:Ss.Block},b∈bs->b.code.length<=Ss.count bs
 | x::bs,b,h=>by
  simp only [Ss.count,List.map_cons,List.sum_cons];rcases aL.1 h with rfl | h
  .omega
  .have:=abb h;simp only [Ss.count] at this;omega
theorem qn {f:Ss.Fn} (h:f.small=true):f.types.length<=4096/\f.blocks.length<=4096/\(∀ b∈f.blocks,b.params.length<=4096/\b.term.to.length<=4096/\b.term.args.length<=4096/\b.code.length<=4096)/\Ss.count f.blocks<=4096:=by
 obtain ⟨h1,h2,h3⟩:=(Ss.aao f).1 h;simp only [Ss.Fn.heads,af,aj] at h1;refine ⟨h1.1.1.1,h1.1.1.2,fun b hb => ?_,h3⟩;have:=h2 b hb;simp only [Ss.Block.small,af,aj] at this;refine ⟨this.1.1.1.1,this.1.1.1.2,this.1.1.2, ?_⟩;exact bd (abb hb) h3
theorem aom (f:Ss.Fn) (hf:f.Fits):b8 26 [jM f] (vl (vl cj) (if f.small then Ss.succs f.blocks else [])):=by
 intro S;have cs:=jcx f hf;have hsb := @qn f;generalize f.small=sm at *
 obtain ⟨⟨fi,fo⟩,ts,bs⟩:=f;have cs':b8 64 [.agg [vl cj fi,vl cj fo,vl cj ts,vl je bs]] (.bool sm):=cs
 by_cases hs:sm=true
 case neg =>
  rw [if_neg hs];have hs':sm=false:=by simpa using hs
  refine b7 Tryz.func26 Tryz.ntmps26 fun hwf=>?_
  refine bz ?_
  refine QP ?_;refine QL (cs') ?_;refine bJ hs' ?_;refine bW ?_
  exact jf (l:=[_]) hwf (Ghost.toB (Ghost.nl _) _) rfl
 rw [if_pos hs];obtain ⟨_,hbl,hbf,_⟩:=hsb hs;simp only at hbl hbf ⊢;refine b7 Tryz.func26 Tryz.ntmps26 fun hwf=>?_
 refine bz ?_
 refine QP ?_;refine QL (cs') ?_;refine bJ hs ?_;refine QN ?_;refine QT ?_;refine jD rfl rfl rfl ?_;refine QT ?_;refine jz rfl ?_;refine QY ?_;refine qZ 3 1 rfl (by conv=>lhs; simp [Fr.set]) ?_
 refine bz ?_
 refine QO [3,13,14,15] ?_;refine QK [1] ?_;refine bX [3,13,14,15] (fun c σ S' => ∃ (k:Nat) (out:List (List Int)),k<=bs.length/\c=bs.length-k/\out.length=k/\out=(bs.take k).map Ss.rowOf/\σ=[(3, .slice (lid S.nx 0) 0 k),(13,vl je bs),(14,cu bs.length),(15,cu k)]/\S'=St S [] [some (1,out.map (vl cj))]) bs.length ?_ ?_
 .exact ⟨0,[],by omega,rfl,rfl,by simp,by simp [Fr.oy],by simp⟩
 .rintro c σ T ⟨k,out,hk,rfl,hol,ho,rfl,rfl⟩
  by_cases hkt:k<bs.length
  .have hw:=jg hkt (by omega);obtain ⟨_,htl,_,_⟩:=hbf _ (ah hkt);obtain ⟨⟨ps,code,⟨tk,ta,to,az⟩⟩,hx⟩ : ∃ b,bs[k]=b:=⟨_,rfl⟩
   rw [hx] at htl;simp only at htl;have htk:bs.take (k+1)=bs.take k++[⟨ps,code,⟨tk,ta,to,az⟩⟩]:=by rw [List.take_add_one,ac hkt,hx]; rfl
   refine bR hkt ?_;refine QT ?_;refine jC rfl rfl rfl ?_;refine QT ?_;refine jz rfl ?_;refine QT ?_;refine jL 1 rfl rfl ?_;refine QY ?_ (r:=by conv=>lhs;simp[QV,hkt,hx]);refine QY ?_;refine qZ 6 1 rfl (by conv=>lhs; simp [Fr.set]) ?_
   refine bz ?_
   refine QO [3,6,13,14,15,21,22,23] ?_;refine QK [0,2] ?_;refine bX [3,6,13,14,15,21,22,23] (fun c σ S' => ∃ (j:Nat) (r:List Int),j<=to.length/\c=to.length-j/\r.length=j/\r=(to.take j).map Ss.Edge.to/\σ=[(3, .slice (lid S.nx 0) 0 k),(6, .slice (lid S.nx 1) 0 j),(13,vl je bs),(14,cu bs.length),(15,cu k),(21,vl ji to),(22,cu to.length),(23,cu j)]/\S'=St S [] [some (1,out.map (vl cj)),some (1,r.map cj)]) to.length ?_ ?_
   .exact ⟨0,[],by omega,rfl,rfl,by simp,by simp [Fr.oy],by simp⟩
   .rintro c σ T ⟨j,r,hj,rfl,hrl,hr,rfl,rfl⟩
    by_cases hjt:j<to.length
    .have hwj:=jg hjt (by omega);have hb:(j+1)*8<=140737488355328:=by omega
     have hb':j+1<=140737488355328:=by omega
     obtain ⟨⟨xt,xa⟩,hx2⟩ : ∃ b,to[j]=b:=⟨_,rfl⟩
     have htj:to.take (j+1)=to.take j++[⟨xt,xa⟩]:=by rw [List.take_add_one,ac hjt,hx2]; rfl
     refine bO hjt hx2 hb hb' hrl ?_
     refine QA [0,4] (h:=⟨?_,j+1,r++[xt],hjt,rfl,by simp [hrl],by rw [htj,List.map_append,hr]; rfl,by simp [hwj],by simp⟩);omega
    .have hje:j=to.length:=by omega
     subst hje;rw [List.take_length] at hr;have hb:(k+1)*24<=140737488355328:=by omega
     have hb':k+1<=140737488355328:=by omega
     refine bR hjt ?_;refine QT ?_;refine jD rfl rfl rfl ?_;refine QT ?_;refine jP 2 rfl rfl ?_;refine jy 6 rfl ((frz1 (k:=1) (len:=to.length) (by simp) (by rfl) (jo cj (fun _=>rfl) _) (by simpa using hrl))) (by conv=>lhs; simp [Fr.set]) ?_;simp only [aq,au]
     refine bG hb hb' hol ?_
     refine QA [3] (h:=⟨?_,k+1,out++[r],hkt,rfl,by simp [hol],by rw [htk,List.map_append, <-ho,hr]; rfl,by simp [hw],by simp [vl]⟩);omega
  .have hke:k=bs.length:=by omega
   subst hke;rw [List.take_length] at ho
   refine bD hkt ?_
   rw [Ss.succs, <-ho];exact jf hwf ((frz1 (by simp) (by rfl) (jo (vl cj) (fun _=>rfl) _) (by simpa using hol)).toB _) rfl
theorem afj (l:List Int) (a b:Int) (hl:l.length<2^63):b8 121 [vl cj l,cj a,cj b] (.bool (G.cy l a b)):=by
 intro S;refine qK rfl ?_;refine qD (c:=jc Tryz.f121) Tryz.func121 rfl rfl (by simp [Tryz.ntmps121]) ?_;rw [Tryz.ntmps121];refine QY ?_
 by_cases ha:G.okIx l a
 .by_cases hb:G.okIx l b
  .obtain ⟨ha1,ha2⟩:=ha;obtain ⟨hb1,hb2⟩:=hb;have e1 : ¬ a<0:=by omega
   have e2 : ¬ (l.length:Int)<=a:=by omega
   have e3 : ¬ b<0:=by omega
   have e4 : ¬ (l.length:Int)<=b:=by omega
   refine QY ?_ (r:=by conv=>lhs;simp[QV,jE,e1,e2,e3,e4]);refine QT ?_;refine jD rfl rfl rfl ?_;refine QT ?_;refine jz rfl ?_;refine QY ?_;refine QT ?_;refine jL 0 rfl rfl ?_;refine bX [0,1,2,7] (fun n σ S' => ∃ (k:Nat) (c:Int),k<=257/\n=257-k/\G.okIx l c/\G.dom1 l a (257-k) c=G.dom1 l a 257 b/\σ=[(0,vl cj l),(1,cj a),(2,cj c),(7,cu k)]/\S'=S) 257 ?_ ?_
   .exact ⟨0,b,by omega,rfl,⟨hb1,hb2⟩,rfl,by simp [Fr.oy,Fr.lk,cu,cj],rfl⟩
   .rintro n σ S' ⟨k,c,hk,rfl,hc,hd,rfl,rfl⟩;have hfin:G.cy l a b=G.dom1 l a 257 b:=by simp [G.cy,G.okIx,ha1,ha2]
    obtain ⟨hc1,hc2⟩:=hc;have hcn:c.toNat<l.length:=by omega
    refine QY ?_;refine QT ?_;refine Ys rfl rfl rfl (k<=256) (by first | (simp; done) | (simp; omega)) ?_ ?_
    .intro hk6;have hst:G.dom1 l a (257-k) c=if a=c then true else G.dom1 l a (256-k) (l[c.toNat]):=by
      rw [show 257-k=(256-k)+1 from by omega,G.dom1,if_pos ⟨hc1,hc2⟩];simp [hcn]
     refine QT ?_;refine jz rfl ?_;refine QT ?_;refine jL 1 rfl rfl ?_;refine QY ?_;refine QT ?_;refine Ys rfl rfl rfl (a=c) (by first | (simp; done) | (simp; omega)) ?_ ?_
     .intro hac;refine QY ?_;refine QT ?_;refine jH rfl ?_;rw [hfin, <-hd,hst,if_pos hac];exact Gives.same (Agree.refl S')
     .intro hac;rw [if_neg hac] at hst;refine QT ?_;refine jz rfl ?_;refine QY ?_ (r:=by conv=>lhs;simp[QV,jaH,hc1,hcn]);have fls : ¬ G.okIx l l[c.toNat]->G.dom1 l a (256-k) l[c.toNat]=false:=by
       intro h
       cases 256-k<;>simp [G.dom1,h]
      by_cases hx:l[c.toNat]<0
      .refine QY ?_ (r:=by conv=>lhs;simp[QV,jE,hx]);refine QT ?_;refine jC rfl rfl rfl ?_;refine QY ?_;refine QT ?_;refine jH rfl ?_;rw [hfin, <-hd,hst,fls (by simp [G.okIx]; omega)];exact Gives.same (Agree.refl S')
      .by_cases hy:(l.length:Int)<=l[c.toNat]
       .refine QY ?_ (r:=by conv=>lhs;simp[QV,jE,hx,hy]);refine QT ?_;refine jC rfl rfl rfl ?_;refine QY ?_;refine QT ?_;refine jH rfl ?_;rw [hfin, <-hd,hst,fls (by simp [G.okIx]; omega)];exact Gives.same (Agree.refl S')
       .refine QY ?_ (r:=by conv=>lhs;simp[QV,jE,hx,hy]);refine QT ?_;refine jD rfl rfl rfl ?_;refine QT ?_;refine jz rfl ?_;have hw:IntKind.i64.wrap ((k:Int)+1)=(k:Int)+1:=wrap_i64 (by omega) (by omega);refine bR hw ?_;exact again ⟨ao (by omega) (aW k),k+1,l[c.toNat],by omega,rfl,⟨by omega,by omega⟩,by rw [<-hd,hst]; congr 1; omega,by simp [Fr.oy,Fr.lk,cu,cj],rfl⟩
    .intro hk6;refine QT ?_;refine jP 0 rfl rfl ?_;refine QY ?_;refine QT ?_;refine jH rfl ?_;rw [hfin, <-hd,show 257-k=0 from by omega];exact Gives.same (Agree.refl S')
  .have hfin:G.cy l a b=false:=by simp [G.cy,G.dom1,hb]
   obtain ⟨ha1,ha2⟩:=ha;have e1 : ¬ a<0:=by omega
   have e2 : ¬ (l.length:Int)<=a:=by omega
   rw [hfin]
   by_cases e3:b<0
   .refine QY ?_ (r:=by conv=>lhs;simp[QV,jE,e1,e2,e3]);refine QT ?_;refine jC rfl rfl rfl ?_;refine QY ?_;refine QT ?_;refine jH rfl ?_;exact Gives.same (Agree.refl S)
   .have e4:(l.length:Int)<=b:=by simp [G.okIx] at hb; omega
    refine QY ?_ (r:=by conv=>lhs;simp[QV,jE,e1,e2,e3,e4]);refine QT ?_;refine jC rfl rfl rfl ?_;refine QY ?_;refine QT ?_;refine jH rfl ?_;exact Gives.same (Agree.refl S)
 .have hfin:G.cy l a b=false:=by simp [G.cy,ha]
  rw [hfin]
  by_cases e1:a<0
  .refine QY ?_ (r:=by conv=>lhs;simp[QV,jE,e1]);refine QT ?_;refine jC rfl rfl rfl ?_;refine QY ?_;refine QT ?_;refine jH rfl ?_;exact Gives.same (Agree.refl S)
  .have e2:(l.length:Int)<=a:=by simp [G.okIx] at ha; omega
   refine QY ?_ (r:=by conv=>lhs;simp[QV,jE,e1,e2]);refine QT ?_;refine jC rfl rfl rfl ?_;refine QY ?_;refine QT ?_;refine jH rfl ?_;exact Gives.same (Agree.refl S)
theorem aju (l:List Int) (n:Int):b8 114 [cj n, .ref (vl cj l)] (.bool (decide (G.okIx l n))):=by
 intro S;refine qK rfl ?_;refine qD (c:=jc Tryz.f114) Tryz.func114 rfl rfl (by simp [Tryz.ntmps114]) ?_;rw [Tryz.ntmps114];refine QY ?_
 by_cases h0:0<=n
 .refine QY ?_ (r:=by conv=>lhs;simp[QV,jE,h0]);refine QT ?_;refine jH rfl ?_;have:decide (G.okIx l n)=decide (n<(l.length:Int)):=by simp [G.okIx,h0]
  rw [this];exact Gives.same (Agree.refl S)
 .refine QY ?_ (r:=by conv=>lhs;simp[QV,jE,h0]);refine QT ?_;refine jH rfl ?_;have:decide (G.okIx l n)=false:=by simp [G.okIx,h0]
  rw [this];exact Gives.same (Agree.refl S)
theorem jbq (l:List Int) (a b:Int) (hl:l.length<2^63):b8 79 [vl cj l,cj a,cj b] (.bool (G.cy l a b)):=by
 intro S;refine qK rfl ?_;refine qD (c:=jc Tryz.f79) Tryz.func79 rfl rfl (by simp [Tryz.ntmps79]) ?_;rw [Tryz.ntmps79];refine QY ?_;refine jy 3 rfl (Ghost.box (aji _ _) (jcg _ _)) (by conv=>lhs; simp [Fr.set]) ?_;have hag:Agree S ((S.add (1,[vl cj l])).del S.nx):=((Agree.refl S).add _).del (a9 _);generalize (S.add (1,[vl cj l])).del S.nx=S1 at hag ⊢;refine QY ?_;refine QP ?_;refine qU rfl rfl rfl (aju l a) ?_;refine QW ?_
 by_cases ha:G.okIx l a
 .have hfin:G.cy l a b=G.dom1 l a 257 b:=by simp [G.cy,ha]
  rw [hfin];refine jD rfl rfl (by simp [ev,Fr.lk,ha]) ?_;refine QT ?_;refine jz rfl ?_;refine QY ?_;refine QT ?_;refine jL 0 rfl rfl ?_;refine bX [0,1,2,3,7,8] (fun n σ S' => ∃ (k:Nat) (c:Int),k<=257/\n=257-k/\G.dom1 l a (257-k) c=G.dom1 l a 257 b/\σ=[(0,vl cj l),(1,cj a),(2,cj c),(3, .ref (vl cj l)),(7, .func 114 [.ref (vl cj l)]),(8,cu k)]/\S'=S1) 257 ?_ ?_
  .exact ⟨0,b,by omega,rfl,rfl,by simp [Fr.oy,Fr.lk,cu,cj],rfl⟩
  .rintro n σ S' ⟨k,c,hk,rfl,hd,rfl,rfl⟩
   by_cases hk6:k<=256
   .have hst:G.dom1 l a (257-k) c=if G.okIx l c then (if a=c then true else G.dom1 l a (256-k) (l.getD c.toNat 0)) else false:=by
     rw [show 257-k=(256-k)+1 from by omega,G.dom1]
    have h7:(k:Int)<=256:=by omega
    refine bN h7 ?_;refine qU rfl rfl rfl (aju l c) ?_;refine QW ?_
    by_cases hc:G.okIx l c
    .refine jC rfl rfl (by simp [ev,Fr.lk,hc]) ?_;rw [if_pos hc] at hst;obtain ⟨hc1,hc2⟩:=hc;have hcn:c.toNat<l.length:=by omega
     refine QT ?_;refine jz rfl ?_;refine QT ?_;refine jL 1 rfl rfl ?_;refine QY ?_;refine QT ?_;refine Ys rfl rfl rfl (a=c) (by first | (simp; done) | (simp; omega)) ?_ ?_
     .intro hac;refine QY ?_;refine QT ?_;refine jH rfl ?_;rw [<-hd,hst,if_pos hac];exact Gives.same hag
     .intro hac;rw [if_neg hac] at hst;have hw:IntKind.i64.wrap ((k:Int)+1)=(k:Int)+1:=wrap_i64 (by omega) (by omega);refine QT ?_;refine jz rfl ?_;refine QY ?_ (r:=by conv=>lhs;simp[QV,jaH,hc1,hcn]);refine bR hw ?_;exact again ⟨ao (by omega) (aW k),k+1,l[c.toNat],by omega,rfl,by rw [<-hd,hst,show 257-(k+1)=256-k from by omega]; simp [hcn],by simp [Fr.oy,Fr.lk,cu,cj],rfl⟩
    .refine jD rfl rfl (by simp [ev,Fr.lk,hc]) ?_;refine QT ?_;refine jP 0 rfl rfl ?_;refine QY ?_;refine QT ?_;refine jH rfl ?_;rw [<-hd,hst,if_neg hc];exact Gives.same hag
   .have h7 : ¬ (k:Int)<=256:=by omega
    refine bR h7 ?_;refine QT ?_;refine jD rfl rfl rfl ?_;refine QT ?_;refine jP 0 rfl rfl ?_;refine QY ?_;refine QT ?_;refine jH rfl ?_;rw [<-hd,show 257-k=0 from by omega];exact Gives.same hag
 .have hfin:G.cy l a b=false:=by simp [G.cy,ha]
  rw [hfin];refine jC rfl rfl (by simp [ev,Fr.lk,ha]) ?_;refine QY ?_;refine QT ?_;refine jH rfl ?_;exact Gives.same hag
end Go.Vw
/-
 Graphs that may be: lists of lists of numbers of nodes.
-/
namespace Go.Vw.G
open Go.Vw
structure Ok (g:List (List Nat)):Prop where
 pos:1<=g.length
 max:g.length<=256
 row : ∀ l∈g,l.length<=128
 elt : ∀ l∈g, ∀ n∈l,n<g.length
def nats (g:List (List Int)):List (List Nat):=g.map (·.map Int.toNat)
theorem aa1 (g:List (List Int)):(nats g).length=g.length:=by simp [nats]
theorem ab9 {n:Nat} {l:List Int}:rowOk n l=true↔l.length<=128 /\ ∀ x∈l,0<=x/\x<n:=by
 simp only [rowOk,af,aj,Bool.not_eq_true',List.any_eq_false,wild,bk,not_or,aj];constructor
 .rintro ⟨h1,h2⟩; exact ⟨h1,fun x hx=>by have:=h2 x hx; omega⟩
 .rintro ⟨h1,h2⟩; exact ⟨h1,fun x hx=>by have:=h2 x hx; omega⟩
theorem aag {g:List (List Int)} (h:right g=true):Ok (nats g):=by
 simp only [right,af,aj,aD,ab9] at h;obtain ⟨⟨h1,h2⟩,h3⟩:=h;refine ⟨by rw [aa1]; exact h1,by rw [aa1]; exact h2, ?_, ?_⟩
 .intro l hl;obtain ⟨r,hr,rfl⟩:=bi.1 hl;rw [aI]; exact (h3 r hr).1
 .intro l hl n hn;obtain ⟨r,hr,rfl⟩:=bi.1 hl;obtain ⟨x,hx,rfl⟩:=bi.1 hn;have:=(h3 r hr).2 x hx;rw [aa1]; omega
theorem aan {g:List (List Int)} (h:right g=true):vl (vl cj) g=vl (vl cu) (nats g):=by
 simp only [right,af,aj,aD,ab9] at h;obtain ⟨_,h3⟩:=h;unfold vl nats;simp only [V.list.injEq,List.map_map];refine aZ fun r hr => ?_
 simp only [Function.comp,List.map_map,V.list.injEq];refine aZ fun x hx => ?_
 have:=(h3 r hr).2 x hx;simp only [Function.comp,cj,cu,V.int.injEq,true_and];omega
abbrev WS:=List Bool × List Nat
def walk (g:List (List Nat)):Nat->Nat->WS->Option WS
 | 0,_,_=>none
 | f+1,n,s=>((g.getD n []).foldlM (fun (s:WS) k=>if s.1.getD k false then some s else walk g f k s) ((s.1.set n true,s.2):WS)).map fun (s:WS)=>((s.1,s.2++[n]):WS)
def kids (g:List (List Nat)) (f:Nat) (l:List Nat) (s:WS):Option WS:=l.foldlM (fun (s:WS) k=>if s.1.getD k false then some s else walk g f k s) s
theorem aau (g:List (List Nat)) (f n:Nat) (s:WS):walk g (f+1) n s=(kids g f (g.getD n []) (s.1.set n true,s.2)).map fun s=>(s.1,s.2++[n]):=rfl
theorem agu (g:List (List Nat)) (f:Nat) (s:WS):kids g f [] s=some s:=rfl
theorem aay (g:List (List Nat)) (f k:Nat) (l:List Nat) (s:WS):kids g f (k::l) s=if s.1.getD k false then kids g f l s else (walk g f k s).bind (kids g f l):=by
 simp only [kids,List.foldlM_cons]
 cases s.1.getD k false
 .simp; rfl
 .simp
theorem abh {g:List (List Nat)} {f:Nat} (ih : ∀ n s s',walk g f n s=some s'->s.2.length<=s'.2.length/\s'.1.length=s.1.length) : ∀ (l:List Nat) (s s':WS),kids g f l s=some s'->s.2.length<=s'.2.length/\s'.1.length=s.1.length
 | [],s,s',h=>by cases h; exact ⟨a9 _,rfl⟩
 | k::l,s,s',h=>by
  rw [aay] at h;split at h
  .exact abh ih l s s' h
  .obtain ⟨t,h1,h2⟩:=aN.1 h;have a:=ih _ _ _ h1;have b:=abh ih l t s' h2;omega
theorem acg (g:List (List Nat)) : ∀ (f n:Nat) (s s':WS),walk g f n s=some s'->s.2.length<=s'.2.length/\s'.1.length=s.1.length
 | 0,n,s,s',h=>by cases h
 | f+1,n,s,s',h=>by
  rw [aau] at h;obtain ⟨t,h1,rfl⟩:=av.1 h;have:=abh (acg g f) _ _ _ h1;simp at this ⊢;omega
end Go.Vw.G
/-
 The walk in depth ends, with a stack or without.
-/
namespace Go.Vw.G
open Go.Vw
theorem WU {g:List (List Nat)} {f:Nat} (ih : ∀ n s t,walk g f n s=some t->walk g (f+1) n s=some t) : ∀ (l:List Nat) (s t:WS),kids g f l s=some t->kids g (f+1) l s=some t
 | [],s,t,h=>h
 | k::l,s,t,h=>by
  rw [aay] at h ⊢;split
  .rename_i hm; rw [if_pos hm] at h; exact WU ih l s t h
  .rename_i hm;rw [if_neg hm] at h;obtain ⟨u,h1,h2⟩:=aN.1 h;rw [ih _ _ _ h1];exact WU ih l u t h2
theorem adw {g:List (List Nat)} : ∀ (f n:Nat) (s t:WS),walk g f n s=some t->walk g (f+1) n s=some t
 | 0,n,s,t,h=>by cases h
 | f+1,n,s,t,h=>by
  rw [aau] at h ⊢;obtain ⟨u,h1,rfl⟩:=av.1 h;rw [WU (adw f) _ _ _ h1]
  rfl
theorem akv {g:List (List Nat)} {f:Nat} {l:List Nat} {s t:WS} (h:kids g f l s=some t):kids g (f+1) l s=some t:=WU (adw f) l s t h
def unmet (m:List Bool):Nat:=m.count false
theorem abm {m:List Bool} {n:Nat} (h:n<m.length) (hf:m[n]=false):unmet (m.set n true)+1=unmet m:=by
 unfold unmet
 induction m generalizing n with
 | nil=>simp at h
 | cons b m ih =>
  cases n with
  | zero=>simp at hf; subst hf; simp
  | succ n =>
   simp at h hf;have:=ih h hf;simp only [aq,List.count_cons];omega
theorem jaR {g:List (List Nat)} {f:Nat} (ih : ∀ n (s:WS),n<g.length->s.1.length=g.length->s.1.getD n false=false->unmet s.1<=f -> ∃ t,walk g f n s=some t/\t.2.length+unmet t.1=s.2.length+unmet s.1/\t.1.length=g.length/\unmet t.1<=unmet s.1) :
  ∀ (l:List Nat) (s:WS),(∀ k∈l,k<g.length)->s.1.length=g.length->unmet s.1<=f -> ∃ t,kids g f l s=some t/\t.2.length+unmet t.1=s.2.length+unmet s.1/\t.1.length=g.length/\unmet t.1<=unmet s.1
 | [],s,_,hs,_=>⟨s,rfl,rfl,hs,a9 _⟩
 | k::l,s,hl,hs,hu=>by
  rw [aay]
  cases hm:s.1.getD k false with
  | true=>simpa using jaR ih l s (fun k hk=>hl k (List.mem_cons_of_mem _ hk)) hs hu
  | false =>
   obtain ⟨t,h1,h2,h3,h4⟩:=ih k s (hl k List.mem_cons_self) hs hm hu;obtain ⟨u,k1,k2,k3,k4⟩:=jaR ih l t (fun k hk=>hl k (List.mem_cons_of_mem _ hk)) h3 (by omega);exact ⟨u,by simp [h1,k1],by omega,k3,by omega⟩
theorem jah {g:List (List Nat)} (hg:Ok g) : ∀ (f n:Nat) (s:WS),n<g.length->s.1.length=g.length->s.1.getD n false=false->unmet s.1<=f -> ∃ t,walk g f n s=some t/\t.2.length+unmet t.1=s.2.length+unmet s.1/\t.1.length=g.length/\unmet t.1<=unmet s.1
 | 0,n,s,hn,hs,hm,hu=>by
  exfalso
  have hn':n<s.1.length:=by omega
  have:s.1[n]=false:=by simpa [hn'] using hm
  have:=abm hn' this;omega
 | f+1,n,s,hn,hs,hm,hu=>by
  have hn':n<s.1.length:=by omega
  have hf:s.1[n]=false:=by simpa [hn'] using hm
  have hc:=abm hn' hf;rw [aau];obtain ⟨t,h1,h2,h3,h4⟩:=jaR (jah hg f) (g.getD n []) (s.1.set n true,s.2) (by
   have:g.getD n []=g[n]:=by simp [hn]
   rw [this]; exact hg.elt _ (ah hn)) (by simpa using hs) (by simp only; omega)
  simp only at h2 h4;exact ⟨(t.1,t.2++[n]),by rw [h1]; rfl,by simp; omega,h3,by simp; omega⟩
theorem ad1 (n:Nat):unmet (List.replicate n false)=n:=by simp [unmet,List.count_replicate]
theorem aa6 {g:List (List Nat)} (hg:Ok g) : ∃ t,walk g g.length 0 (List.replicate g.length false,[])=some t/\t.2.length<=g.length/\t.1.length=g.length:=by
 obtain ⟨t,h1,h2,h3,_⟩:=jah hg g.length 0 (List.replicate g.length false,[]) hg.pos (by simp) (by
  have:=hg.pos;simp [List.getElem?_replicate,aS Nat.zero_lt_one this]) (by simp [ad1])
 simp only [ad1,aM] at h2;exact ⟨t,h1,by omega,h3⟩
def Ki (g:List (List Nat)) (f:Nat) (next:List Nat):List Nat->WS->Option WS
 | [],s=>some s
 | n::r,s=>(kids g f ((g.getD n []).drop (next.getD n 0)) s).bind fun t=>Ki g f next r (t.1,t.2++[n])
theorem Yz {g:List (List Nat)} {f:Nat} {next:List Nat} {n k:Nat} : ∀ (r:List Nat) (s:WS),n∉r->Ki g f (next.set n k) r s=Ki g f next r s
 | [],s,_=>rfl
 | m::r,s,h=>by
  simp only [aL,not_or] at h;simp only [Ki];have e:(next.set n k).getD m 0=next.getD m 0:=by
   simp [ag,aQ h.1]
  rw [e]
  congr 1
  funext t
  exact Yz r _ h.2
structure At (g:List (List Nat)) (f:Nat) (fin:WS) (met:List Bool) (next stack out:List Nat):Prop where
 lm:met.length=g.length
 ln:next.length=g.length
 nd:stack.Nodup
 lt : ∀ n∈stack,n<g.length
 on : ∀ n∈stack,met.getD n false=true
 le : ∀ n,next.getD n 0<=(g.getD n []).length
 zero : ∀ n,met.getD n false=false->next.getD n 0=0
 go:Ki g f next stack.reverse (met,out)=some fin
theorem At.start {g:List (List Nat)} (hg:Ok g) {f:Nat} {fin:WS} (h:walk g (f+1) 0 (List.replicate g.length false,[])=some fin) :
  At g f fin ((List.replicate g.length false).set 0 true) (List.replicate g.length 0) [0] []:=by
 have hp:=hg.pos;refine ⟨by simp,by simp,by simp,by simp; omega,by
  intro n hn;simp at hn; subst hn;have:0<(List.replicate g.length false).length:=by rw [List.length_replicate]; omega
  simp only [ag,aX this,aR],fun n => ?_,fun n _ => ?_, ?_⟩
 .simp [List.getElem?_replicate]; split<;>simp
 .simp [List.getElem?_replicate]; split<;>simp
 .rw [aau] at h;obtain ⟨t,h1,h2⟩:=av.1 h;have e:(List.replicate g.length 0).getD 0 0=0:=by simp [List.getElem?_replicate]; split<;>simp
  simp only [List.reverse_cons,List.reverse_nil,bm,Ki,e,List.drop_zero];rw [h1];simp [<-h2]
section
variable {g:List (List Nat)} {f:Nat} {fin:WS} {met:List Bool} {next stack out:List Nat} {n:Nat}
theorem aac {α:Type} {l:List α} {i:Nat} {a d:α} (h:i<l.length):(l.set i a).getD i d=a:=by simp [h]
theorem aab {α:Type} {l:List α} {i j:Nat} {a d:α} (h:i≠j):(l.set i a).getD j d=l.getD j d:=by
 simp [aQ h]
theorem At.seen (h:At g f fin met next (stack++[n]) out) (hk:next.getD n 0<(g.getD n []).length) (hm:met.getD ((g.getD n [])[next.getD n 0]) false=true):At g f fin met (next.set n (next.getD n 0+1)) (stack++[n]) out:=by
 have hn:n<g.length:=h.lt n (by simp);have hnn:n<next.length:=by rw [h.ln]; exact hn
 have hnot:n∉stack.reverse:=by
  have:=h.nd;rw [List.nodup_append] at this;intro hc;exact this.2.2 n (by simpa using hc) n (by simp) rfl
 refine ⟨h.lm,by simpa using h.ln,h.nd,h.lt,h.on,fun m => ?_,fun m hmm => ?_, ?_⟩
 .by_cases e:n=m
  .subst e; rw [aac hnn]; omega
  .rw [aab e]; exact h.le m
 .by_cases e:n=m
  .subst e; have:=h.on n (by simp); rw [hmm] at this; cases this
  .rw [aab e]; exact h.zero m hmm
 .have hgo:=h.go;rw [List.reverse_append] at hgo ⊢;simp only [List.reverse_cons,List.reverse_nil,bm,List.singleton_append,Ki] at hgo ⊢;rw [aac hnn];rw [am hk,aay,if_pos (by exact hm)] at hgo;rw [<-hgo]
  congr 1
  funext t
  exact Yz _ _ hnot
theorem At.push (h:At g f fin met next (stack++[n]) out) (hg:Ok g) (hk:next.getD n 0<(g.getD n []).length) {c:Nat} (hc:(g.getD n [])[next.getD n 0]=c) (hm:met.getD c false=false):At g f fin (met.set c true) (next.set n (next.getD n 0+1)) (stack++[n]++[c]) out:=by
 have hn:n<g.length:=h.lt n (by simp);have hnn:n<next.length:=by rw [h.ln]; exact hn
 have hcl:c<g.length:=by
  have e:g.getD n []=g[n]:=by simp [hn]
  rw [<-hc];have:=hg.elt (g.getD n []) (by rw [e]; exact ah hn) _ (ah hk);exact this
 have hcm:c<met.length:=by rw [h.lm]; exact hcl
 have hcn:c∉stack++[n]:=fun hin=>by have:=h.on c hin; rw [hm] at this; cases this
 have hne:n≠c:=fun e=>hcn (by rw [<-e]; simp)
 have hnot:n∉stack.reverse:=by
  have:=h.nd;rw [List.nodup_append] at this;intro hc;exact this.2.2 n (by simpa using hc) n (by simp) rfl
 refine ⟨by simpa using h.lm,by simpa using h.ln, ?_, ?_, ?_,fun m => ?_,fun m hmm => ?_, ?_⟩
 .rw [List.nodup_append];exact ⟨h.nd,by simp,fun a ha b hb=>by simp at hb; subst hb; intro e; subst e; exact hcn ha⟩
 .intro m hmm;rcases aG.1 hmm with hm1 | hm1
  .exact h.lt m hm1
  .simp at hm1; subst hm1; exact hcl
 .intro m hmm
  by_cases e:c=m
  .subst e; exact aac hcm
  .rw [aab e];rcases aG.1 hmm with hm1 | hm1
   .exact h.on m hm1
   .simp at hm1; exact absurd hm1.symm e
 .by_cases e:n=m
  .subst e; rw [aac hnn]; omega
  .rw [aab e]; exact h.le m
 .have hmc:m≠c:=by
   intro e; subst e;rw [aac hcm] at hmm; cases hmm
  rw [aab (Ne.symm hmc)] at hmm
  by_cases e:n=m
  .subst e; have:=h.on n (by simp); rw [hmm] at this; cases this
  .rw [aab e]; exact h.zero m hmm
 .have hgo:=h.go;rw [List.reverse_append] at hgo ⊢;rw [List.reverse_append];simp only [List.reverse_cons,List.reverse_nil,bm,List.singleton_append,Ki,bl] at hgo ⊢;rw [aac hnn,aab hne,h.zero c hm,List.drop_zero];rw [am hk,aay,hc,if_neg (by simpa using hm)] at hgo;obtain ⟨t,h1,h2⟩:=aN.1 hgo;obtain ⟨u,h3,h4⟩:=aN.1 h1
  cases f with
  | zero=>cases h3
  | succ f =>
   rw [aau] at h3;obtain ⟨v,h5,h6⟩:=av.1 h3;simp only at h5;rw [akv h5];subst h6;simp only [Option.bind_some];rw [h4];simp only [Option.bind_some];rw [Yz _ _ hnot];exact h2
theorem At.pop (h:At g f fin met next (stack++[n]) out) (hk : ¬ next.getD n 0<(g.getD n []).length):At g f fin met next stack (out++[n]):=by
 refine ⟨h.lm,h.ln,(List.nodup_append.1 h.nd).1,fun m hm=>h.lt m (by simp [hm]),fun m hm=>h.on m (by simp [hm]),h.le,h.zero, ?_⟩;have hgo:=h.go;rw [List.reverse_append] at hgo;simp only [List.reverse_cons,List.reverse_nil,bm,List.singleton_append,Ki] at hgo;rw [List.drop_eq_nil_of_le (by omega),agu] at hgo;exact hgo
theorem At.done (h:At g f fin met next [] out):fin=(met,out):=by
 have:=h.go;simp only [List.reverse_nil,Ki,ay] at this;exact this.symm
theorem At.seen' (h:At g f fin met next (stack++[n]) out) {row:List Nat} {k c:Nat} (hrow:g[n]? = some row) (hk:next[n]? = some k) (hc:row[k]? = some c) (hm:met[c]? = some true):At g f fin met (next.set n (k+1)) (stack++[n]) out:=by
 have ek:next.getD n 0=k:=by simp [ag,hk]
 have er:g.getD n []=row:=by simp [ag,hrow]
 have hlt:=(ae.1 hc)
 have:=h.seen;subst ek; subst er;exact this hlt.1 (by rw [hlt.2]; simp [hm])
theorem At.push' (h:At g f fin met next (stack++[n]) out) (hg:Ok g) {row:List Nat} {k c:Nat} (hrow:g[n]? = some row) (hk:next[n]? = some k) (hc:row[k]? = some c) (hm:met[c]? = some false):At g f fin (met.set c true) (next.set n (k+1)) (stack++[n]++[c]) out:=by
 have ek:next.getD n 0=k:=by simp [ag,hk]
 have er:g.getD n []=row:=by simp [ag,hrow]
 have hlt:=(ae.1 hc)
 subst ek; subst er;exact h.push hg hlt.1 hlt.2 (by simp [hm])
theorem At.pop' (h:At g f fin met next (stack++[n]) out) {row:List Nat} {k:Nat} (hrow:g[n]? = some row) (hk:next[n]? = some k) (hge : ¬ k<row.length):At g f fin met next stack (out++[n]):=by
 have ek:next.getD n 0=k:=by simp [ag,hk]
 have er:g.getD n []=row:=by simp [ag,hrow]
 exact h.pop (by rw [ek,er]; exact hge)
theorem jbQ : ∀ (r:List Nat) (s t:WS),Ki g f next r s=some t->s.2.length+r.length<=t.2.length
 | [],s,t,h=>by cases h; simp
 | m::r,s,t,h=>by
  simp only [Ki] at h;obtain ⟨u,h1,h2⟩:=aN.1 h;have a:=(abh (acg g f) _ _ _ h1).1;have b:=jbQ r _ _ h2;simp at b ⊢;omega
theorem At.out_le (h:At g f fin met next stack out):out.length+stack.length<=fin.2.length:=by
 have:=jbQ _ _ _ h.go;simpa using this
end
def Ja (g:List (List Nat)) (m:List Bool):List Bool:=((walk g g.length 0 (m,[])).getD (m,[])).1
def without (g:List (List Nat)):Option Nat->List Bool
 | none=>Ja g (List.replicate g.length false)
 | some a=>if a=0 then List.replicate g.length false else (Ja g ((List.replicate g.length false).set a true)).set a false
theorem aa5 {g:List (List Nat)} (hg:Ok g) {m:List Bool} (hm:m.length=g.length) (h0:m.getD 0 false=false) : ∃ t,walk g g.length 0 (m,[])=some t/\Ja g m=t.1/\t.2.length<=g.length/\t.1.length=g.length:=by
 have hu:unmet m<=g.length:=by rw [<-hm]; exact List.count_le_length
 obtain ⟨t,h1,h2,h3,_⟩:=jah hg g.length 0 (m,[]) hg.pos hm h0 hu;exact ⟨t,h1,by simp [Ja,h1],by simp at h2; omega,h3⟩
theorem JD {g:List (List Nat)} (hg:Ok g) {m:List Bool} (hm:m.length=g.length) (h0:m.getD 0 false=false):(Ja g m).length=g.length:=by
 obtain ⟨t,h1,h2,h3,h4⟩:=aa5 hg hm h0;rw [h2]; exact h4
theorem aaw (n k:Nat):(List.replicate n false).getD k false=false:=by
 simp [List.getElem?_replicate]; split<;>rfl
theorem aaz {g:List (List Nat)} (hg:Ok g) (a:Option Nat):(without g a).length=g.length:=by
 cases a with
 | none=>exact JD hg (by simp) (aaw _ _)
 | some a =>
  simp only [without];split
  .simp
  .rename_i h;rw [List.length_set];exact JD hg (by simp) (by rw [aab h]; exact aaw _ _)
def order (g:List (List Nat)):List Nat:=((walk g g.length 0 (List.replicate g.length false,[])).getD ([],[])).2.reverse
def tableRow (g:List (List Nat)) (a:Nat):List Bool :=
 if (without g none).getD a false then (List.range g.length).map fun b=>(without g none).getD b false && !((without g (some a)).getD b false) else List.replicate g.length false
def table (g:List (List Nat)):List (List Bool):=(List.range g.length).map (tableRow g)
def tabAt (t:List (List Bool)) (a b:Nat):Bool:=(t.getD a []).getD b false
def cntTo (t:List (List Bool)) (a:Nat):Nat->Nat
 | 0=>0
 | c+1=>if tabAt t c a then cntTo t a c+1 else cntTo t a c
def bestTo (t:List (List Bool)) (n b:Nat):Nat->Int × Nat
 | 0=>(-1,0)
 | a+1=>if a≠b/\tabAt t a b=true/\(bestTo t n b a).2<cntTo t a n then ((a:Int),cntTo t a n) else bestTo t n b a
def rNear (g:List (List Nat)):List Int:=(List.range g.length).map fun b=>(bestTo (table g) g.length b g.length).1
theorem agn (t:List (List Bool)) (a:Nat) : ∀ c,cntTo t a c<=c
 | 0=>a9 _
 | c+1=>by have:=agn t a c; simp only [cntTo]; split<;>omega
theorem abl (g:List (List Nat)) (a:Nat):(tableRow g a).length=g.length:=by simp only [tableRow]; split<;>simp
end Go.Vw.G
namespace Go.Vw
open Go.Proofs Go.RowKit
attribute [-simp] List.map_set
theorem aru:IntKind.u64.bits=64:=nr rfl
theorem amd {n:Nat} (h:n<4294967296):n % 18446744073709551616 &&& 4294967295=n:=by
 have e:n % 18446744073709551616=n:=by omega
 rw [e];have:=Nat.and_two_pow_sub_one_eq_mod n 32;rw [show (4294967295:Nat)=2^32-1 from rfl,this];exact Nat.mod_eq_of_lt h
theorem ahd {n:Nat} (h:n<4294967296):IntKind.u64.wrap (n:Int)=n:=by
 have e:IntKind.u64.wrap (n:Int)=(n:Int) % 18446744073709551616:=rfl;rw [e]; omega
theorem an5 {n:Nat} (h:n<4294967296):Int.fdiv (n:Int) 4294967296=0:=by
 rw [Int.fdiv_eq_ediv_of_nonneg _ (by omega)]; omega
theorem auz (n:Nat) (h:n<4294967296):b8 148 [.int .u64 1, .int .u64 (n:Int)] (.tuple [.int .u64 0, .int .u64 (n:Int)]):=by
 intro S;refine b7 Tryz.func148 Tryz.ntmps148 fun hwf=>?_
 have h1:=amd h;have h2:=ahd h;have h3:=an5 h;have h4:IntKind.u64.wrap 0=0:=by decide
 have h5:IntKind.u64.wrap 1=1:=by decide
 have h6:Int.fdiv 1 4294967296=0:=by decide
 have h7:Int.fdiv 0 4294967296=0:=by decide
 repeat first|refine QG ?_|refine QY ?_ (r:=by conv=>lhs;simp[QV,aru,h1,h2,h3,h4,h5,h6,h7])
 exact ja (l:=[]) hwf (by simp [resV,Fr.lk]) rfl
theorem azd (n:Nat) (h:n<4294967296):b8 138 [.int .u64 1, .int .u64 (n:Int)] (.tuple [.int .u64 0, .int .u64 (n:Int)]):=by
 intro S;refine b7 Tryz.func138 Tryz.ntmps138 fun hwf=>?_
 refine bz ?_
 refine QP ?_;refine QL (auz n h) ?_;refine bV ?_
 exact ja (l:=[]) hwf (by simp [resV,Fr.lk]) rfl
def zF (v:Int) (n m:Nat):List V:=List.replicate m (.int .i64 v)++List.replicate (n-m) (.int .i64 0)
theorem aml {v:Int} {n m:Nat} (h:m<=n):(zF v n m).length=n:=by simp [zF]; omega
theorem ah1 {v:Int} {n m:Nat} (h:m<=n):qg (zF v n m) m ((((zF v n m).drop 0).take (m*1)).take (min m (n-m)*1))=zF v n (m+min m (n-m)):=by
 have e1:(((zF v n m).drop 0).take (m*1)).take (min m (n-m)*1)=List.replicate (min m (n-m)) (V.int .i64 v):=by
  rw [List.drop_zero,Nat.mul_one,Nat.mul_one,zF,List.take_left' (by simp)];rw [List.take_replicate]; congr 1; omega
 rw [e1,qg,List.length_replicate,zF,List.take_left' (by simp)];rw [List.drop_append,List.drop_eq_nil_of_le (by simp),List.length_replicate];simp only [bm,List.drop_replicate,zF];rw [List.replicate_append_replicate]
 congr 2; omega
theorem aub (S:Store) (o:Nat) (v:Int) (n:Nat) (hn:1<=n) (hn2:n<=65536) (ho:S.get o=some (1,[.int .i64 v])) :
  b9 111 [.slice o 0 1,cu n] S (fun r S'=>r = .slice S.nx 0 n/\S'=S.add (1,List.replicate n (.int .i64 v))):=by
 refine b7 Tryz.func111 Tryz.ntmps111 fun hwf=>?_
 have hon:o<S.nx:=by
  rcases bt o S.nx with h | h
  .exact h
  .rw [hwf.gone o h] at ho; cases ho
 have hold:=fun u l => @jk S u l o hon
 have h2:=ahd (n:=n) (by omega);have h5:IntKind.u64.wrap 1=1:=by decide
 have h6 : ¬ (9223372036854775807:Int)<(n:Int):=by omega
 have hw:IntKind.i64.wrap (n:Int)=n:=wrap_i64 (by omega) (by omega);have hb8:n*8<=140737488355328:=by omega
 have hb0:n<=140737488355328:=by omega
 have hmin:min 1 n=1:=by omega
 repeat first|refine QG ?_|refine QY ?_ (r:=by conv=>lhs;simp[QV,hold,ho,h2,h5])
 refine QP ?_ (r:=by conv=>lhs;simp[QV,hold,ho,h2,h5]);refine QL (azd n (by omega)) ?_;refine QW ?_
 repeat first|refine QG ?_|refine QY ?_ (r:=by conv=>lhs;simp[QV,h6,hw,hb8,hb0,hold,ho,hmin,jaJ,jS])
 refine bX [7,8] (fun c σ S' => ∃ m:Nat,1<=m/\m<=n/\c=n-m/\σ=[(7, .slice (lid S.nx 0) 0 n),(8,cu m)]/\S'=St S [] [some (1,zF v n m)]) (n-1) ?_ ?_
 .refine ⟨1,by omega,hn,rfl,by simp [Fr.oy,Fr.lk,cu], ?_⟩;have e:n=(n-1)+1:=by omega
  rw [zF];simp [List.drop_replicate]
 .rintro c σ T ⟨m,hm1,hm2,rfl,rfl,rfl⟩;have hlen:=aml (v:=v) hm2
  by_cases hlt:m<n
  .have hml:m<=n:=by omega
   have hcp:jaJ 1 (St S [] [some (1,zF v n m)]) (.slice (lid S.nx 0) m (n-m)) (.slice (lid S.nx 0) 0 m)=some (.int .i64 (min m (n-m):Nat),St S [] [some (1,zF v n (m+min m (n-m)))]):=by
    have e1:jS 1 (St S [] [some (1,zF v n m)]) (.slice (lid S.nx 0) 0 m)=some (((zF v n m).drop 0).take (m*1),m):=by
     simp only [jS,jB,aK,Option.join_some];rw [if_pos (by omega)]
    simp only [jaJ,e1,jB,aK,Option.join_some];rw [if_pos (by omega),ah1 hm2,JM (by simp)]
    rfl
   have hw2:IntKind.i64.wrap ((m:Int)+(min m (n-m):Nat))=((m+min m (n-m):Nat):Int):=by
    rw [wrap_i64 (by omega) (by omega)]; omega
   refine bD hlt ?_
   refine bZ (St S [] [none]) (St S [] [some (1,zF v n m)]) [] ?_ (r:=by conv=>lhs; simp [QV,hml]);refine QI ?_ (r:=by conv=>lhs;simp[QV,hcp]);refine QW ?_;show jx _ _ _ _ _ _ _;exact again ⟨(by omega:n-(m+min m (n-m))<n-m),m+min m (n-m),by omega,by omega,rfl,by rw [hw2]; simp [Fr.oy,Fr.lk,cu],rfl⟩
  .have hmn:m=n:=by omega
   subst hmn
   refine bD hlt ?_
   refine ⟨.slice S.nx 0 m,_, ?_,rfl,rfl⟩;have e:St S [] [some (1,zF v m m)]=S.add (1,List.replicate m (.int .i64 v)):=by
    have := @jbn S [] [] (1,List.replicate m (.int .i64 v));rw [qv hwf] at this;rw [this]; simp [zF]
   rw [<-e];have:lid S.nx 0=S.nx:=rfl;rw [<-this];exact GhostB.refl _ _ _
end Go.Vw
/-
 What goes to each node.
-/
namespace Go.Vw.G
open Go.Vw
def push (rows:List (List Nat)) (k i:Nat):List (List Nat):=rows.set k (rows.getD k []++[i])
def edges:List (List Nat)->Nat->List (Nat × Nat)
 | [],_=>[]
 | l::r,i=>l.map (·,i)++edges r (i+1)
def pushAll (rows:List (List Nat)) (es:List (Nat × Nat)):List (List Nat):=es.foldl (fun rows e=>push rows e.1 e.2) rows
def froms (g:List (List Nat)):List (List Nat):=pushAll (List.replicate g.length []) (edges g 0)
theorem aba (rows:List (List Nat)) (k i:Nat):(push rows k i).length=rows.length:=by simp [push]
theorem Wd : ∀ (es:List (Nat × Nat)) (rows:List (List Nat)),(pushAll rows es).length=rows.length
 | [],_=>rfl
 | e::es,rows=>by
  have:=Wd es (push rows e.1 e.2);simpa [pushAll,aba] using this
theorem ahf (rows:List (List Nat)) (k i:Nat) (es:List (Nat × Nat)):pushAll rows ((k,i)::es)=pushAll (push rows k i) es:=rfl
theorem aa4 (g:List (List Nat)):(froms g).length=g.length:=by simp [froms,Wd]
theorem akm (g:List (List Nat)) {i:Nat} (h:i<g.length):edges (g.drop i) i=g[i].map (·,i)++edges (g.drop (i+1)) (i+1):=by
 rw [am h,edges]
theorem atj {l:List Nat} {k i:Nat} (h:k<l.length):(l.drop k).map (fun c=>(c,i))=(l[k],i)::(l.drop (k+1)).map (fun c=>(c,i)):=by
 rw [am h]; rfl
def total (rows:List (List Nat)):Nat:=(rows.map List.length).sum
theorem adb : ∀ (rows:List (List Nat)) (k:Nat) (r:List Nat),k<rows.length->total (rows.set k r)+(rows.getD k []).length=total rows+r.length
 | [],_,_,h=>by simp at h
 | x::xs,0,r,_=>by simp [total]; omega
 | x::xs,k+1,r,h=>by
  have:=adb xs k r (by simpa using h);simp [total] at this ⊢; omega
theorem acq {rows:List (List Nat)} {k i:Nat} (h:k<rows.length):total (push rows k i)=total rows+1:=by
 have:=adb rows k (rows.getD k []++[i]) h;simp only [push,List.length_append,aC,aM] at this ⊢;omega
theorem abg : ∀ (rows:List (List Nat)) (k:Nat),(rows.getD k []).length<=total rows
 | [],_=>by simp
 | x::xs,0=>by simp [total]
 | x::xs,k+1=>by
  have:=abg xs k;simp [total] at this ⊢; omega
theorem aca (n:Nat):total (List.replicate n [])=0:=by
 induction n with
 | zero=>rfl
 | succ n ih=>simp [total,List.replicate_succ]
theorem ab2 {g:List (List Nat)} (h : ∀ l∈g,l.length<=128) : ∀ i,(edges g i).length<=128*g.length:=by
 induction g with
 | nil=>simp [edges]
 | cons l g ih =>
  intro i;have h1:=h l List.mem_cons_self;have h2:=ih (fun l hl=>h l (List.mem_cons_of_mem _ hl)) (i+1);simp [edges] at h2 ⊢; omega
end Go.Vw.G
/-
 The nearest dominators, turn by turn.
-/
namespace Go.Vw.G
open Go.Vw
def rankTo (n:Nat) (l:List Nat):Nat->List Nat
 | 0=>List.replicate n 0
 | k+1=>(rankTo n l k).set (l.getD k 0) k
theorem abw (n:Nat) (l:List Nat) : ∀ k,(rankTo n l k).length=n
 | 0=>by simp [rankTo]
 | k+1=>by simp [rankTo,abw n l k]
def meetF (rank:List Nat) (near:List Int):Nat->Int->Int->Option Int
 | 0,_,_=>none
 | f+1,a,b=>if a=b then some a else if 0<=a/\a<near.length/\0<=b/\b<near.length then
   (if rank.getD b.toNat 0<rank.getD a.toNat 0 then meetF rank near f (near.getD a.toNat 0) b else meetF rank near f a (near.getD b.toNat 0))
  else none
def pickF (rank:List Nat) (near:List Int) (F:Nat):List Nat->Int->Option Int
 | [],best=>some best
 | p::ps,best=>if near.getD p 0<0 then pickF rank near F ps best else if best<0 then pickF rank near F ps p else (meetF rank near F best p).bind (pickF rank near F ps)
def sweepF (rank:List Nat) (fr:List (List Nat)) (F:Nat):List Nat->List Int->Bool->Option (List Int × Bool)
 | [],near,t=>some (near,t)
 | n::ns,near,t=>(pickF rank near F (fr.getD n []) (-1)).bind fun b=>sweepF rank fr F ns (near.set n b) (t||decide (near.getD n 0≠b))
def chk (rank:List Nat) (fr:List (List Nat)) (F:Nat) (l:List Nat):Nat->List Int->Option (List Int)
 | 0,_=>none
 | f+1,near=>(sweepF rank fr F l near false).bind fun s=>if s.2 then chk rank fr F l f s.1 else some s.1
end Go.Vw.G
namespace Go.Vw
open Go.Proofs Go.RowKit
attribute [-simp] List.map_set
def Turned (xs ys:List Nat) (i:Nat):Prop := ∀ p,p<xs.length->ys[p]? = if p<i\/xs.length<p+i+1 then xs[xs.length-1-p]? else xs[p]?
theorem Turned.swap {xs ys:List Nat} {i j a b:Nat} (hl:ys.length=xs.length) (hij:i+j+1=xs.length) (hlt:i<j) (h:Turned xs ys i) (ha:ys[i]? = some a) (hb:ys[j]? = some b):Turned xs ((ys.set i b).set j a) (i+1):=by
 intro p hp;have hi:=h i (by omega);have hj:=h j (by omega);rw [if_neg (by omega)] at hi hj;have e1:xs.length-1-i=j:=by omega
 have e2:xs.length-1-j=i:=by omega
 rw [List.getElem?_set]
 by_cases h1:j=p
 .subst h1;rw [if_pos rfl,if_pos (by simp; omega),if_pos (by omega),e2, <-hi,ha]
 .rw [if_neg h1,List.getElem?_set]
  by_cases h2:i=p
  .subst h2;rw [if_pos rfl,if_pos (by omega),if_pos (by omega),e1, <-hj,hb]
  .rw [if_neg h2,h p hp]
   by_cases h3:p<i\/xs.length<p+i+1
   .rw [if_pos h3,if_pos (by omega)]
   .rw [if_neg h3,if_neg (by omega)]
theorem Turned.done {xs ys:List Nat} {i:Nat} (hl:ys.length=xs.length) (h:Turned xs ys i) (hi:xs.length<=2*i+1):ys=xs.reverse:=by
 refine List.ext_getElem? fun p => ?_
 by_cases hp:p<xs.length
 .rw [List.getElem?_reverse hp,h p hp];split
  .rfl
  .have:xs.length-1-p=p:=by omega
   rw [this]
 .rw [aJ (by omega),aJ (by simp; omega)]
theorem aog (S:Store) (o:Nat) (xs:List Nat) (hx:xs.length<2^40) (ho:S.get o=some (1,xs.map cu)) :
  b9 137 [.slice o 0 xs.length] S (fun r S'=>r = .tuple []/\S'=S.upd o (1,xs.reverse.map cu)):=by
 refine b7 Tryz.func137 Tryz.ntmps137 fun hwf=>?_
 have hon:o<S.nx:=by
  rcases bt o S.nx with h | h
  .exact h
  .rw [hwf.gone o h] at ho; cases ho
 have hold:=fun u => @jk S u [] o hon
 have hupd:=fun u c => @qS S u [] c o hon
 rw [Kd ho];have hw:IntKind.i64.wrap ((xs.length:Int)-1)=(xs.length:Int)-1:=wrap_i64 (by omega) (by omega)
 repeat first|refine QG ?_|refine QY ?_ (r:=by conv=>lhs;simp[QV,hold,hw])
 refine bX [0,2,3] (fun c σ S' => ∃ (i:Nat) (ys:List Nat),ys.length=xs.length/\i<=xs.length/\c=xs.length-i/\Turned xs ys i/\σ=[(0, .slice o 0 xs.length),(2,cu i),(3,cj (xs.length-1-i))]/\S'=St S [(o,some (1,ys.map cu))] []) xs.length ?_ ?_
 .refine ⟨0,xs,rfl,by omega,rfl, ?_,by simp [Fr.oy,Fr.lk,cu,cj],rfl⟩;intro p hp;rw [if_neg (by omega)]
 .rintro c σ S' ⟨i,ys,hl,hi,rfl,hT,rfl,rfl⟩
  by_cases hlt:(i:Int)<(xs.length:Int)-1-i
  .obtain ⟨j,hj⟩ : ∃ j:Nat,(xs.length:Int)-1-i=j:=⟨xs.length-1-i,by omega⟩
   rw [hj] at hlt ⊢;have hij:i<j:=by omega
   have hil:i<xs.length:=by omega
   have hjl:j<xs.length:=by omega
   have hiy:i<ys.length:=by omega
   have hjy:j<ys.length:=by omega
   have hw1:IntKind.i64.wrap ((i:Int)+1)=(i:Int)+1:=wrap_i64 (by omega) (by omega);have hw2:IntKind.i64.wrap ((j:Int)-1)=(j:Int)-1:=wrap_i64 (by omega) (by omega)
   repeat first|refine QG ?_|refine QY ?_ (r:=by conv=>lhs;simp[QV,hold,hij])
   refine bZ ((St S [(o,none)] [])) ((St S [(o,some (1,ys.map cu))] [])) [21,25] ?_ (r:=by conv=>lhs; simp [QV,hold,hil,hjl,hiy,hjy]);refine QI ?_ (r:=by conv=>lhs;simp[QV,hold,hil,hjl,hiy,hjy,hupd]);refine QM (by conv=>lhs;simp[QV,hold,hil,hjl,hiy,hjy]) ?_;refine QI ?_ (r:=by conv=>lhs;simp[QV,hold,hil,hjl,hiy,hjy,hupd]);refine QN ?_
   refine bF hw1 hw2 ?_
   exact again ⟨ao hil (aW i),i+1,(ys.set i ys[j]).set j ys[i],by simp [hl],by omega,rfl,hT.swap hl (by omega) hij (by simp [hiy]) (by simp [hjy]),by simp [Fr.oy,Fr.lk,cu,cj]; omega,by simp [cu]⟩
  .have hlt' : ¬ ((i:Int)<(xs.length:Int)-1-i):=hlt
   refine bD hlt' ?_
   have:=hT.done hl (by omega);refine Ka hwf rfl rfl (by simp [Km,jbz,jaU]) ?_ ⟨rfl,rfl⟩;simp only [gcU,gcE,bj,jay,this];exact jdq hwf hon
theorem aum (g:List (List Nat)) (hg:G.Ok g) (f:Nat) (fin:G.WS) (hw:G.walk g (f+1) 0 (List.replicate g.length false,[])=some fin) (hs:fin.2.length<=2^30) :
  b8 110 [vl (vl cu) g] (vl cu fin.2.reverse):=by
 intro S;refine b7 Tryz.func110 Tryz.ntmps110 fun hwf=>?_
 have hp:0<g.length:=hg.pos;have hm256:=hg.max;have hb1:g.length*1<=140737488355328:=by omega
 have hb8:g.length*8<=140737488355328:=by omega
 have hb0:g.length<=140737488355328:=by omega
 refine bH hp hb1 hb8 hb0 ?_
 refine qZ 6 1 rfl (by conv=>lhs; simp [Fr.set]) ?_
 refine bz ?_
 refine bX [0,3,4,5,6] (fun c σ S' => ∃ met next stack out,G.At g f fin met next stack out/\c=2*G.unmet met+stack.length/\σ=[(0,vl (vl cu) g),(3, .slice (lid S.nx 0) 0 g.length),(4, .slice (lid S.nx 1) 0 g.length),(5, .slice (lid S.nx 2) 0 stack.length),(6, .slice (lid S.nx 3) 0 out.length)]/\S'=St S [] [some (1,met.map V.bool),some (1,next.map cu),some (1,stack.map cu),some (1,out.map cu)]) (2*G.unmet ((List.replicate g.length false).set 0 true)+1) ?_ ?_
 .exact ⟨_,_,_,_,G.At.start hg hw,rfl,by simp [Fr.oy,Fr.lk],by simp [List.map_set,cu]⟩
 .rintro c σ S' ⟨met,next,stack,out,hA,rfl,rfl,rfl⟩;rcases List.eq_nil_or_concat stack with rfl | ⟨stack,n,rfl⟩
  .refine bz ?_
   refine QP ?_;refine jK rfl (aog _ (lid S.nx 3) out ?_ ?_) ?_
   .have:=hA.out_le; omega
   .simp [jB]
   rintro X S2 ⟨rfl,rfl⟩;rw [JM (by simp)];refine bV ?_
   have:=hA.done; subst this;exact jf (l:=[_,_,_,none]) hwf ((frz1 (by simp) (by simp) (by simp [cu,V.cG]) (by simp)).toB _) rfl
  .rw [List.concat_eq_append] at hA ⊢;have hlen:(stack++[n]).length=stack.length+1:=by simp
   have hn:n<g.length:=hA.lt n (by simp);have hw1:IntKind.i64.wrap ((stack.length:Int)+1-1)=(stack.length:Int):=by
    rw [wrap_i64 (by have:=hA.out_le; simp at this; omega) (by have:=hA.out_le; simp at this; omega)]; omega
   have hsl:=hA.out_le;have hw2:IntKind.i64.wrap (stack.length:Int)=(stack.length:Int):=wrap_i64 (by omega) (by simp at hsl; omega);have h0:(0:Int)<(stack.length:Int)+1:=by omega
   have h1:(stack.length:Int)<(stack.length:Int)+1:=by omega
   refine bH hw1 hw2 h0 h1 ?_
   refine bX [0,3,4,5,6,7] (fun c σ S' => ∃ next',G.At g f fin met next' (stack++[n]) out/\c=(g.getD n []).length-next'.getD n 0/\σ=[(0,vl (vl cu) g),(3, .slice (lid S.nx 0) 0 g.length),(4, .slice (lid S.nx 1) 0 g.length),(5, .slice (lid S.nx 2) 0 (stack.length+1)),(6, .slice (lid S.nx 3) 0 out.length),(7,cu n)]/\S'=St S [] [some (1,met.map V.bool),some (1,next'.map cu),some (1,(stack++[n]).map cu),some (1,out.map cu)]) ((g.getD n []).length-next.getD n 0) ?_ ?_
   .exact ⟨next,hA,rfl,by simp [Fr.oy,Fr.lk,cu],by simp [cu]⟩
   .rintro c σ S' ⟨nx,hB,rfl,rfl,rfl⟩;have hrow:g[n]? = some g[n]:=by simp [hn]
    have hkn:n<nx.length:=by rw [hB.ln]; exact hn
    obtain ⟨k,hke⟩ : ∃ k,nx[n]=k:=⟨_,rfl⟩
    have hk:nx[n]? = some k:=by simp [hkn,hke]
    have ek:nx.getD n 0=k:=by simp [ag,hk]
    have er:g.getD n []=g[n]:=by simp [hn]
    have hrm:g[n]∈g:=ah hn;have hr128:=hg.row _ hrm
    by_cases hlt:k<g[n].length
    .have hc:g[n][k]? = some g[n][k]:=by simp [hlt]
     have hcl:g[n][k]<g.length:=hg.elt _ hrm _ (ah hlt);have hcm:g[n][k]<met.length:=by rw [hB.lm]; exact hcl
     obtain ⟨b,hbe⟩ : ∃ b,met[g[n][k]]=b:=⟨_,rfl⟩
     have hb:met[g[n][k]]? = some b:=by simp [hcm,hbe]
     have hwk:IntKind.i64.wrap ((k:Int)+1)=(k:Int)+1:=wrap_i64 (by omega) (by omega);have hset:(nx.set n (k+1)).getD n 0=k+1:=G.aac hkn
     cases b with
     | true =>
      repeat first|refine QG ?_|refine QY ?_ (r:=by conv=>lhs;simp[QV,hn,hke,hlt,hcl,hbe,hwk,hkn,hcm])
      have:=hB.seen' hrow hk hc hb;show jx _ _ _ _ _ _ _;exact again ⟨by rw [hset,ek,er]; omega,_,this,rfl,by simp [Fr.oy,Fr.lk,cu],by simp [cu]⟩
     | false =>
      have hP:=hB.push' hg hrow hk hc hb;have hPl:=hP.out_le;simp only [List.length_append,aC,aM] at hPl;have hc8:(stack.length+1+1)*8<=140737488355328:=by omega
      have hc1:stack.length+1+1<=140737488355328:=by omega
      have hu:=G.abm hcm hbe
      repeat first|refine QG ?_|refine QY ?_ (r:=by conv=>lhs;simp[QV,hn,hke,hlt,hcl,hbe,hwk,hkn,hcm,hc8,hc1])
      refine QA [0,1,5,3] (h:=⟨?_,_,_,_,_,hP,rfl,by simp [cu],by simp [cu]⟩);simp; omega
    .refine bY (r:=by conv=>lhs;simp[QV,hn,hkn,hke,hlt]) (k:=?_);refine QN ?_;refine QT ?_;refine jD rfl rfl rfl ?_;refine QT ?_;refine jP 2 rfl rfl ?_;have hle:(stack.length:Int)<=(stack.length:Int)+1:=by omega
     refine QY ?_ (r:=by conv=>lhs;simp[QV,hw1,hw2,h0,h1,hle]);refine acz 5 stack.length rfl (by simp) rfl (by conv=>lhs; simp [au,aq]) ?_;have hP:=hB.pop' hrow hk hlt;have hPl:=hP.out_le;simp only [List.length_append,aC,aM] at hPl;have hc8:(out.length+1)*8<=140737488355328:=by omega
     have hc1:out.length+1<=140737488355328:=by omega
     refine bF hc8 hc1 ?_
     refine QA [0,1,2,5] (h:=⟨?_,_,_,_,_,hP,rfl,by simp [cu],by simp [cu]⟩);simp
theorem axk (g:List (List Int)) (n:Int):b8 139 [cj n, .ref (vl (vl cj) g)] (.bool (G.wild g.length n)):=by
 intro S;refine qK rfl ?_;refine qD (c:=jc Tryz.f139) Tryz.func139 rfl rfl (by simp [Tryz.ntmps139]) ?_;rw [Tryz.ntmps139];refine QY ?_
 by_cases h0:n<0
 .refine QY ?_ (r:=by conv=>lhs;simp[QV,jE,h0]);refine QT ?_;refine jH rfl ?_;have:G.wild g.length n=true:=by simp [G.wild,h0]
  rw [this];exact Gives.same (Agree.refl S)
 .refine QY ?_ (r:=by conv=>lhs;simp[QV,jE,h0]);refine QT ?_;refine jH rfl ?_;have:G.wild g.length n=decide ((g.length:Int)<=n):=by simp [G.wild,h0]
  rw [this];exact Gives.same (Agree.refl S)
theorem ail (g:List (List Int)) (l:List Int) (hl:l.length<2^63):b8 84 [vl cj l, .func 139 [.ref (vl (vl cj) g)]] (cj (G.find (G.wild g.length) l 0)):=by
 intro S;refine qK rfl ?_;refine qD (c:=jc Tryz.f84) Tryz.func84 rfl rfl (by simp [Tryz.ntmps84]) ?_;rw [Tryz.ntmps84];refine QY ?_;refine QY ?_ (r:=by conv=>lhs;simp[QV,jE]);refine QT ?_;refine jL 0 rfl rfl ?_;refine bX [0,1,7,8] (fun n σ S' => ∃ (k:Nat),k<=l.length/\n=l.length-k/\G.find (G.wild g.length) (l.drop k) k=G.find (G.wild g.length) l 0/\σ=[(0,vl cj l),(1, .func 139 [.ref (vl (vl cj) g)]),(7,cu l.length),(8,cu k)]/\S'=S) l.length ?_ ?_
 .exact ⟨0,by omega,rfl,rfl,by simp [Fr.oy,Fr.lk,cu,cj],rfl⟩
 .rintro n σ S' ⟨k,hk,rfl,hd,rfl,rfl⟩
  by_cases hk6:k<l.length
  .have h7:(k:Int)<(l.length:Int):=by omega
   have hst:G.find (G.wild g.length) (l.drop k) k=if G.wild g.length l[k] then (k:Int) else G.find (G.wild g.length) (l.drop (k+1)) (k+1):=by
    rw [am hk6,G.find]
   have hw:IntKind.i64.wrap ((k:Int)+1)=(k:Int)+1:=wrap_i64 (by omega) (by omega);refine bR h7 ?_;refine QT ?_;refine jC rfl rfl rfl ?_;refine QT ?_;refine jz rfl ?_;refine QT ?_;refine jL 1 rfl rfl ?_;refine QY ?_;refine QP ?_ (r:=by conv=>lhs;simp[QV,jW,hk6]);refine qU rfl rfl rfl (axk g l[k]) ?_;refine QW ?_
   by_cases hc:G.wild g.length l[k]=true
   .refine jC rfl rfl (by simp [ev,Fr.lk,hc]) ?_;refine QY ?_;refine QT ?_;refine jH rfl ?_;rw [<-hd,hst,if_pos hc];exact Gives.same (Agree.refl S')
   .rw [if_neg hc] at hst;refine jD rfl rfl (by simp [ev,Fr.lk,hc]) ?_;refine QT ?_;refine jz rfl ?_;refine bR hw ?_;exact again ⟨ao (by omega) (aW k),k+1,by omega,rfl,by rw [<-hd,hst],by simp [Fr.oy,Fr.lk,cu,cj],rfl⟩
  .have h7 : ¬ (k:Int)<(l.length:Int):=by omega
   refine bR h7 ?_;refine QT ?_;refine jD rfl rfl rfl ?_;refine QT ?_;refine jP 0 rfl rfl ?_;refine QY ?_;refine QT ?_;refine jH rfl ?_;have:l.drop k=[]:=by rw [aH]; omega
   rw [<-hd,this];exact Gives.same (Agree.refl S')
theorem aop (g:List (List Int)) (l:List Int) (hl:l.length<2^63):b8 32 [vl cj l, .func 139 [.ref (vl (vl cj) g)]] (.bool (l.any (G.wild g.length))):=by
 intro S;refine qK rfl ?_;refine qD (c:=jc Tryz.f32) Tryz.func32 rfl rfl (by simp [Tryz.ntmps32]) ?_;rw [Tryz.ntmps32];rw [<-G.agp (G.wild g.length) l 0];refine QY ?_;refine QP ?_;refine QL (ail g l hl) ?_;refine QW ?_;refine QT ?_;refine jH rfl ?_;exact Gives.same (Agree.refl S)
theorem ac6 (g:List (List Int)) (hg:g.length<2^63) (hl : ∀ l∈g,l.length<2^63):b8 113 [vl (vl cj) g] (.bool (G.right g)):=by
 intro S;refine qK rfl ?_;refine qD (c:=jc Tryz.f113) Tryz.func113 rfl rfl (by simp [Tryz.ntmps113]) ?_;rw [Tryz.ntmps113];refine QY ?_;refine jy 1 rfl (Ghost.box (aji _ _) (jcg _ _)) (by conv=>lhs; simp [Fr.set]) ?_;have hag:Agree S ((S.add (1,[vl (vl cj) g])).del S.nx):=((Agree.refl S).add _).del (a9 _);generalize (S.add (1,[vl (vl cj) g])).del S.nx=S1 at hag ⊢
 by_cases h0:(g.length:Int)=0
 .have hq:((g.length:Int)==0)=true:=by simp [h0]
  refine QY ?_ (r:=by conv=>lhs;simp[QV,jE,hq]);refine QT ?_;refine jC rfl rfl rfl ?_;refine QY ?_;refine QT ?_;refine jH rfl ?_;have:G.right g=false:=by simp [G.right]; omega
  rw [this];exact Gives.same hag
 .have hq:((g.length:Int)==0)=false:=by simpa using h0
  by_cases h1:(256:Int)<g.length
  .refine QY ?_ (r:=by conv=>lhs;simp[QV,jE,hq,h1]);refine QT ?_;refine jC rfl rfl rfl ?_;refine QY ?_;refine QT ?_;refine jH rfl ?_;have:G.right g=false:=by simp [G.right]; omega
   rw [this];exact Gives.same hag
  .have hfin:G.right g=g.all (G.rowOk g.length):=by
    have a1:decide (1<=g.length)=true:=by simp; omega
    have a2:decide (g.length<=256)=true:=by simp; omega
    simp [G.right,a1,a2]
   rw [hfin];refine QY ?_ (r:=by conv=>lhs;simp[QV,jE,hq,h1]);refine QT ?_;refine jD rfl rfl rfl ?_;refine QT ?_;refine jz rfl ?_;refine QY ?_ (r:=by conv=>lhs;simp[QV,jE]);refine QT ?_;refine jL 0 rfl rfl ?_;refine bX [0,1,13,14,15] (fun n σ S' => ∃ (k:Nat),k<=g.length/\n=g.length-k/\(g.drop k).all (G.rowOk g.length)=g.all (G.rowOk g.length)/\σ=[(0,vl (vl cj) g),(1, .ref (vl (vl cj) g)),(13,vl (vl cj) g),(14,cu g.length),(15,cu k)]/\S'=S1) g.length ?_ ?_
   .exact ⟨0,by omega,rfl,rfl,by simp [Fr.oy,Fr.lk,cu,cj],rfl⟩
   .rintro n σ S' ⟨k,hk,rfl,hd,rfl,rfl⟩
    by_cases hk6:k<g.length
    .have h7:(k:Int)<(g.length:Int):=by omega
     have hst:(g.drop k).all (G.rowOk g.length)=(G.rowOk g.length g[k]&&(g.drop (k+1)).all (G.rowOk g.length)):=by
      rw [am hk6,List.all_cons]
     have hw:IntKind.i64.wrap ((k:Int)+1)=(k:Int)+1:=wrap_i64 (by omega) (by omega);have hlk:g[k].length<2^63:=hl _ (ah hk6);refine bR h7 ?_;refine QT ?_;refine jC rfl rfl rfl ?_;refine QT ?_;refine jz rfl ?_;refine QT ?_;refine jL 1 rfl rfl ?_;refine QY ?_ (r:=by conv=>lhs;simp[QV,jW,hk6])
     by_cases h2:(128:Int)<g[k].length
     .refine QY ?_ (r:=by conv=>lhs;simp[QV,jE,h2]);refine QT ?_;refine jC rfl rfl rfl ?_;refine QY ?_;refine QT ?_;refine jH rfl ?_;have:G.rowOk g.length g[k]=false:=by simp [G.rowOk]; omega
      rw [<-hd,hst,this];exact Gives.same hag
     .have h3:G.rowOk g.length g[k] = !(g[k].any (G.wild g.length)):=by
       have:decide (g[k].length<=128)=true:=by simp; omega
       simp [G.rowOk,this]
      rw [h3] at hst;refine QP ?_ (r:=by conv=>lhs;simp[QV,jE,h2]);refine QL (aop g g[k] hlk) ?_;refine QW ?_
      cases hc:g[k].any (G.wild g.length)
      .rw [hc] at hst;refine jD rfl rfl (by simp [ev,Fr.lk,hc]) ?_;refine QT ?_;refine jz rfl ?_;refine bR hw ?_;exact again ⟨ao (by omega) (aW k),k+1,by omega,rfl,by rw [<-hd,hst]; rfl,by simp [Fr.oy,Fr.lk,cu,cj],rfl⟩
      .rw [hc] at hst;refine jC rfl rfl (by simp [ev,Fr.lk,hc]) ?_;refine QY ?_;refine QT ?_;refine jH rfl ?_;rw [<-hd,hst];exact Gives.same hag
    .have h7 : ¬ (k:Int)<(g.length:Int):=by omega
     refine bR h7 ?_;refine QT ?_;refine jD rfl rfl rfl ?_;refine QT ?_;refine jP 0 rfl rfl ?_;refine QY ?_;refine QT ?_;refine jH rfl ?_;have:g.drop k=[]:=by rw [aH]; omega
     rw [<-hd,this];exact Gives.same hag
theorem agl (g:List (List Int)) (hg:g.length<2^63) (hl : ∀ l∈g,l.length<2^63):b8 45 [vl (vl cj) g] (.bool (G.right g)):=by
 intro S;refine qK rfl ?_;refine qD (c:=jc Tryz.f45) Tryz.func45 rfl rfl (by simp [Tryz.ntmps45]) ?_;rw [Tryz.ntmps45];refine QY ?_
 by_cases h0:(g.length:Int)<1
 .refine QY ?_ (r:=by conv=>lhs;simp[QV,jE,h0]);refine QT ?_;refine jC rfl rfl rfl ?_;refine QY ?_;refine QT ?_;refine jH rfl ?_;have:G.right g=false:=by simp [G.right]; omega
  rw [this];exact Gives.same (Agree.refl S)
 .by_cases h1:(256:Int)<g.length
  .refine QY ?_ (r:=by conv=>lhs;simp[QV,jE,h0,h1]);refine QT ?_;refine jC rfl rfl rfl ?_;refine QY ?_;refine QT ?_;refine jH rfl ?_;have:G.right g=false:=by simp [G.right]; omega
   rw [this];exact Gives.same (Agree.refl S)
  .have hfin:G.right g=g.all (G.rowOk g.length):=by
    have a1:decide (1<=g.length)=true:=by simp; omega
    have a2:decide (g.length<=256)=true:=by simp; omega
    simp [G.right,a1,a2]
   rw [hfin];refine QY ?_ (r:=by conv=>lhs;simp[QV,jE,h0,h1]);refine QT ?_;refine jD rfl rfl rfl ?_;refine QT ?_;refine jz rfl ?_;refine QY ?_;refine QT ?_;refine jL 0 rfl rfl ?_;refine bX [0,3] (fun n σ S' => ∃ (k:Nat),k<=g.length/\n=g.length-k/\(g.drop k).all (G.rowOk g.length)=g.all (G.rowOk g.length)/\σ=[(0,vl (vl cj) g),(3,cu k)]/\S'=S) g.length ?_ ?_
   .exact ⟨0,by omega,rfl,rfl,by simp [Fr.oy,Fr.lk,cu,cj],rfl⟩
   .rintro n σ S' ⟨k,hk,rfl,hd,rfl,rfl⟩
    by_cases hk6:k<g.length
    .have h7:(k:Int)<(g.length:Int):=by omega
     have hst:(g.drop k).all (G.rowOk g.length)=(G.rowOk g.length g[k]&&(g.drop (k+1)).all (G.rowOk g.length)):=by
      rw [am hk6,List.all_cons]
     have hw:IntKind.i64.wrap ((k:Int)+1)=(k:Int)+1:=wrap_i64 (by omega) (by omega);have hlk:g[k].length<2^63:=hl _ (ah hk6);refine QY ?_ (r:=by conv=>lhs;simp[QV,jE,h7]);refine QT ?_;refine jC rfl rfl rfl ?_;refine QT ?_;refine jz rfl ?_;refine QT ?_;refine jL 1 rfl rfl ?_
     by_cases h2:(128:Int)<g[k].length
     .refine QY ?_ (r:=by conv=>lhs;simp[QV,jW,hk6,jE,h2]);refine QT ?_;refine jC rfl rfl rfl ?_;refine QY ?_;refine QT ?_;refine jH rfl ?_;have:G.rowOk g.length g[k]=false:=by simp [G.rowOk]; omega
      rw [<-hd,hst,this];exact Gives.same (Agree.refl S')
     .have h3:G.rowOk g.length g[k] = !(g[k].any (G.wild g.length)):=by
       have:decide (g[k].length<=128)=true:=by simp; omega
       simp [G.rowOk,this]
      rw [h3] at hst;refine QY ?_ (r:=by conv=>lhs;simp[QV,jW,hk6,jE,h2]);refine QT ?_;refine jD rfl rfl rfl ?_;refine QT ?_;refine jz rfl ?_;refine QY ?_;refine QT ?_;refine jL 2 rfl rfl ?_;refine bX [0,3,4] (fun n σ S'' => ∃ (j:Nat),j<=g[k].length/\n=g[k].length-j/\(g[k].drop j).any (G.wild g.length)=g[k].any (G.wild g.length)/\σ=[(0,vl (vl cj) g),(3,cu k),(4,cu j)]/\S''=S') g[k].length ?_ ?_
      .exact ⟨0,by omega,rfl,rfl,by simp [Fr.oy,Fr.lk,cu,cj],rfl⟩
      .rintro n σ S'' ⟨j,hj,rfl,he,rfl,rfl⟩
       by_cases hj6:j<g[k].length
       .have i7:(j:Int)<(g[k].length:Int):=by omega
        have ist:(g[k].drop j).any (G.wild g.length)=(G.wild g.length g[k][j]||(g[k].drop (j+1)).any (G.wild g.length)):=by
         rw [am hj6,List.any_cons]
        have iw:IntKind.i64.wrap ((j:Int)+1)=(j:Int)+1:=wrap_i64 (by omega) (by omega);refine QY ?_ (r:=by conv=>lhs;simp[QV,jW,hk6,jE,i7]);refine QT ?_;refine jC rfl rfl rfl ?_;refine QT ?_;refine jz rfl ?_;refine QT ?_;refine jL 3 rfl rfl ?_
        by_cases n0:g[k][j]<0
        .refine QY ?_ (r:=by conv=>lhs;simp[QV,jW,hk6,jW,hj6,n0]);refine QT ?_;refine jC rfl rfl rfl ?_;refine QY ?_;refine QT ?_;refine jH rfl ?_;have:G.wild g.length g[k][j]=true:=by simp [G.wild,n0]
         rw [<-hd,hst, <-he,ist,this];exact Gives.same (Agree.refl S'')
        .by_cases n1:(g.length:Int)<=g[k][j]
         .refine QY ?_ (r:=by conv=>lhs;simp[QV,jW,hk6,jW,hj6,n0,jE,n1]);refine QT ?_;refine jC rfl rfl rfl ?_;refine QY ?_;refine QT ?_;refine jH rfl ?_;have:G.wild g.length g[k][j]=true:=by simp [G.wild,n1]
          rw [<-hd,hst, <-he,ist,this];exact Gives.same (Agree.refl S'')
         .refine QY ?_ (r:=by conv=>lhs;simp[QV,jW,hk6,jW,hj6,n0,jE,n1]);refine QT ?_;refine jD rfl rfl rfl ?_;refine QT ?_;refine jz rfl ?_;refine bR iw ?_;have:G.wild g.length g[k][j]=false:=by simp [G.wild,n0,n1]
          rw [this] at ist;exact again ⟨ao (by omega) (aW j),j+1,by omega,rfl,by rw [<-he,ist]; rfl,by simp [Fr.oy,Fr.lk,cu,cj],rfl⟩
       .have i7 : ¬ (j:Int)<(g[k].length:Int):=by omega
        refine QY ?_ (r:=by conv=>lhs;simp[QV,jW,hk6,jE,i7]);refine QT ?_;refine jD rfl rfl rfl ?_;refine QT ?_;refine jP 2 rfl rfl ?_;have hz:g[k].drop j=[]:=by rw [aH]; omega
        rw [hz] at he;rw [<-he] at hst;refine bR hw ?_;exact again ⟨ao (by omega) (aW k),k+1,by omega,rfl,by rw [<-hd,hst]; rfl,by simp [Fr.oy,Fr.lk,cu,cj],rfl⟩
    .have h7 : ¬ (k:Int)<(g.length:Int):=by omega
     refine QY ?_ (r:=by conv=>lhs;simp[QV,jE,h7]);refine QT ?_;refine jD rfl rfl rfl ?_;refine QT ?_;refine jP 0 rfl rfl ?_;refine QY ?_;refine QT ?_;refine jH rfl ?_;have:g.drop k=[]:=by rw [aH]; omega
     rw [<-hd,this];exact Gives.same (Agree.refl S')
def zn (rows:List (List Nat)):List (List V):=rows.map (·.map cu)
theorem ait (rows:List (List Nat)):(zn rows).length=rows.length:=by simp [zn]
theorem Zr {rows:List (List Nat)} {k i:Nat} (h:k<rows.length):zn (G.push rows k i)=(zn rows).set k ((rows.getD k []).map cu++[.int .i64 (i:Int)]):=by
 simp [zn,G.push,List.map_set,cu]
theorem Wr {rows:List (List Nat)} {k:Nat} (h:k<rows.length):(zn rows)[k]? = some ((rows.getD k []).map cu):=by
 simp [zn,h]
theorem jbx (rows:List (List Nat)) : ∀ row∈zn rows,row.all V.cG=true:=by
 intro row h;simp only [zn,bi] at h;obtain ⟨r,_,rfl⟩:=h;simp [cu,V.cG]
theorem akp (rows:List (List Nat)):V.list ((zn rows).map V.list)=vl (vl cu) rows:=by
 simp [zn,vl]
theorem ad6 (g:List (List Int)) (hg:g.length<2^63) (hl : ∀ l∈g,l.length<2^63) (hr:G.right g=false):b8 78 [vl (vl cj) g] (.tuple [vl cu [],cj 1]):=by
 intro S;refine b7 Tryz.func78 Tryz.ntmps78 fun hwf=>?_
 refine bz ?_
 refine QP ?_;refine QL (ac6 g hg hl) ?_;refine bJ hr ?_;refine bW ?_
 exact jf (l:=[]) hwf ((Ghost.tp [] [cj 1] (Ghost.nl _)).toB _) rfl
structure FromAt (S T:Store) (oo:Nat) (cells:List V) (rows:List (List Nat)) (n:Nat):Prop where
 agree:Agree S T
 arr:RowsAt T S.nx oo [] cells (zn rows)
 len:rows.length=n
theorem FromAt.nil {S T:Store} {oo n k i:Nat} {cells:List V} {rows:List (List Nat)} (h:FromAt S T oo cells rows n) (hk:k<n) (hr:rows.getD k []=[]) (hc:cells[k]? = some .nils):FromAt S (jbN T oo cells k (.int .i64 (i:Int))) oo (cells.set k (.slice (T.nx+1) 0 1)) (G.push rows k i) n:=by
 have hlt:k<rows.length:=by rw [h.len]; exact hk
 refine ⟨((h.agree.add _).add _).upd h.arr.base _, ?_,by simp [G.aba,h.len]⟩;rw [Zr hlt,hr];refine h.arr.nil ?_ (by simp) hc;rw [Wr hlt,hr]; rfl
theorem FromAt.app {S T:Store} {oo n k i id:Nat} {cells:List V} {rows:List (List Nat)} (h:FromAt S T oo cells rows n) (hk:k<n) (hid:S.nx<=id) (hc:cells[k]? = some (.slice id 0 (rows.getD k []).length)):FromAt S (jau T oo cells k id ((rows.getD k []).map cu) (.int .i64 (i:Int))) oo (cells.set k (.slice (T.nx+1) 0 ((rows.getD k []).length+1))) (G.push rows k i) n:=by
 have hlt:k<rows.length:=by rw [h.len]; exact hk
 refine ⟨(((h.agree.add _).del hid).add _).upd h.arr.base _, ?_,by simp [G.aba,h.len]⟩;rw [Zr hlt];have:=h.arr.app (x := .int .i64 (i:Int)) (id:=id) (Wr hlt) (by simp) (by simpa using hc);simpa using this
theorem ans (g:List (List Nat)) (hg:G.Ok g) (hr:b8 113 [vl (vl cu) g] (.bool true)):b8 78 [vl (vl cu) g] (.tuple [vl (vl cu) (G.froms g),cj 0]):=by
 intro S;refine b7 Tryz.func78 Tryz.ntmps78 fun hwf=>?_
 have hm256:=hg.max;have hb24:g.length*24<=140737488355328:=by omega
 have hb0:g.length<=140737488355328:=by omega
 refine bz ?_
 refine QP ?_;refine QL hr ?_;refine QW ?_
 refine bF hb24 hb0 ?_
 have h0:FromAt S (St S [] [some (1,List.replicate g.length V.nils)]) (lid S.nx 0) (List.replicate g.length .nils) (List.replicate g.length []) g.length:=by
  refine ⟨zE, ?_,by simp⟩;have:zn (List.replicate g.length [])=List.replicate g.length []:=by simp [zn]
  rw [this];exact RowsAt.start (by simp [jB]) (by simp [lid]) (by rw [jR]; simp [lid]) (by simp)
 have htot:=G.ab2 hg.row 0;refine axn (fun T=>FromAt S T (lid S.nx 0) (List.replicate g.length .nils) (List.replicate g.length []) g.length) h0 ?_;intro T h0;generalize lid S.nx 0=oo at h0 ⊢
 refine bz ?_
 refine bX [4,15,16,17] (fun c σ S' => ∃ (i:Nat) (cells:List V) (rows:List (List Nat)),i<=g.length/\c=g.length-i/\FromAt S S' oo cells rows g.length/\G.pushAll rows (G.edges (g.drop i) i)=G.froms g/\G.total rows+(G.edges (g.drop i) i).length<=128*g.length/\σ=[(4, .slice oo 0 g.length),(15,vl (vl cu) g),(16,cu g.length),(17,cu i)]) g.length ?_ ?_
 .exact ⟨0,_,_,by omega,rfl,h0,rfl,by simpa [G.aca] using htot,by simp [Fr.oy,Fr.lk,cu]⟩
 .rintro c σ T ⟨i,cells,rows,hi,rfl,hF,hp,ht,rfl⟩
  by_cases hlt:i<g.length
  .have hw1:IntKind.i64.wrap ((i:Int)+1)=(i:Int)+1:=wrap_i64 (by omega) (by omega);have hr128:=hg.row _ (ah hlt)
   refine bD hlt ?_
   rw [G.akm g hlt] at hp ht;refine bX [4,5,15,16,17,22,23,24] (fun c σ S' => ∃ (k:Nat) (cells:List V) (rows:List (List Nat)),k<=g[i].length/\c=g[i].length-k/\FromAt S S' oo cells rows g.length/\G.pushAll rows ((g[i].drop k).map (·,i)++G.edges (g.drop (i+1)) (i+1))=G.froms g/\G.total rows+((g[i].drop k).map (·,i)++G.edges (g.drop (i+1)) (i+1)).length<=128*g.length/\σ=[(4, .slice oo 0 g.length),(5,cu i),(15,vl (vl cu) g),(16,cu g.length),(17,cu i),(22,vl cu g[i]),(23,cu g[i].length),(24,cu k)]) g[i].length ?_ ?_
   .exact ⟨0,_,_,by omega,rfl,hF,hp,by simpa using ht,by simp [Fr.oy,Fr.lk,cu]⟩
   .rintro c σ T ⟨k,cells,rows,hk,rfl,hF,hp,ht,rfl⟩
    by_cases hkl:k<g[i].length
    .have hw2:IntKind.i64.wrap ((k:Int)+1)=(k:Int)+1:=wrap_i64 (by omega) (by omega);rw [G.atj hkl] at hp ht;simp only [bl,aC,G.ahf] at hp ht;have hgk:g[i][k]<g.length:=hg.elt _ (ah hlt) _ (ah hkl);have hkr:g[i][k]<rows.length:=by rw [hF.len]; exact hgk
     have hrow:=G.abg rows g[i][k];have htp:=G.acq (i:=i) hkr;have hget:=hF.arr.get;have hool:=hF.arr.lt;have hcl:cells.length=g.length:=by rw [hF.arr.len,ait,hF.len]
     have hgkc:g[i][k]<cells.length:=by omega
     have h1:oo<T.nx+1:=by omega
     have h2:oo<T.nx+1+1:=by omega
     rcases hF.arr.row _ _ (Wr hkr) with ⟨hc,hr0⟩ | ⟨id,hc,hid,hne,hb,hidl,_⟩
     .have hr0':rows.getD g[i][k] []=[]:=by simpa using hr0
      obtain ⟨_,hce⟩:=ae.1 hc
      refine bG hlt hkl hw2 ?_
      repeat first|refine QG ?_|refine QY ?_ (r:=by conv=>lhs;simp[QV,hlt,hkl,hget,hgk,ajx,ajc,aj3,hool,h1,h2,hgkc,hce,hw2])
      show jx _ _ _ _ _ _ _;exact again ⟨ao hkl (aW k),k+1,_,_,hkl,rfl,hF.nil (i:=i) hgk hr0' hc,hp,by omega,by simp [Fr.oy,Fr.lk,cu]⟩
     .have hlr:((rows.getD g[i][k] []).map cu).length=(rows.getD g[i][k] []).length:=by simp
      rw [hlr] at hc;obtain ⟨_,hce⟩:=ae.1 hc;have hb8:((rows.getD g[i][k] []).length+1)*8<=140737488355328:=by omega
      have hb1:(rows.getD g[i][k] []).length+1<=140737488355328:=by omega
      have hcf:=hF.app (i:=i) hgk hb hc;simp only [jau,aI] at hcf;generalize hrw:rows.getD g[i][k] []=row at hce hb8 hb1 hid hcf;have hne':oo≠id:=Ne.symm hne
      refine bG hlt hkl hw2 ?_
      repeat first|refine QG ?_|refine QY ?_ (r:=by conv=>lhs;simp[QV,hlt,hkl,hget,hgk,ajx,ajc,aj3,aj7,axc,hool,h1,h2,hgkc,hce,hw2,hid,hidl,hne',hb8,hb1])
      show jx _ _ _ _ _ _ _;exact again ⟨ao hkl (aW k),k+1,_,_,hkl,rfl,hcf,hp,by omega,by simp [Fr.oy,Fr.lk,cu]⟩
    .refine bG hlt hkl hw1 ?_
     have:k=g[i].length:=by omega
     subst this;simp at hp ht;show jx _ _ _ _ _ _ _;exact again ⟨ao hlt (aW i),i+1,_,_,hlt,rfl,hF,hp,by simpa using ht,by simp [Fr.oy,Fr.lk,cu]⟩
  .have hig:i=g.length:=by omega
   subst hig;refine QY ?_;refine QT ?_;refine jD rfl rfl rfl ?_;refine QT ?_;refine jP 0 rfl rfl ?_;simp [G.edges,G.pushAll] at hp;obtain ⟨T2,k1,k2,k3,k4,k5⟩:=hF.arr.freeze (N:=41) (b0:=S.nx) (jbx rows);refine jv k1 ?_
   refine bz ?_
   have hfr:=Ghost.freeze1 (len:=g.length) k2 (by simp [V.cG]) (by simp [zn,hF.len]);rw [akp,hp] at hfr;have hag:Agree S (T2.del oo):=by
    have h0:=hF.agree;refine ⟨by show S.nx<=T2.nx; rw [k3]; exact h0.1,fun o ho => ?_⟩;have hb:=hF.arr.base;rw [aj7 (by omega),k4 o (.inl ho) (by omega)];exact h0.2 o ho
   exact qI hwf ((Ghost.tp [] [cj 0] hfr).toB _) hag rfl
theorem ayo (S:Store) (rank:List Nat) (near:List Int) (hrl:rank.length=near.length) (o7 o10 or on:Nat) (h7:S.get o7=some (1,[.slice or 0 rank.length])) (hr:S.get or=some (1,rank.map cu)) (h10:S.get o10=some (1,[.slice on 0 near.length])) (hn:S.get on=some (1,near.map cj))
  (f:Nat) (a b c:Int) (hm:G.meetF rank near f a b=some c):b9 112 [cj a,cj b, .ptr o7 0, .ptr o10 0] S (fun r S'=>r=cj c/\S'=S):=by
 refine b7 Tryz.func112 Tryz.ntmps112 fun hwf=>?_
 have lt : ∀ o c,S.get o=some c->o<S.nx:=by
  intro o c ho;rcases bt o S.nx with h | h
  .exact h
  .rw [hwf.gone o h] at ho; cases ho
 have k7 := @jk S [] [] o7 (lt _ _ h7);have kr := @jk S [] [] or (lt _ _ hr);have k10 := @jk S [] [] o10 (lt _ _ h10);have kn := @jk S [] [] on (lt _ _ hn)
 refine bz ?_
 refine bX [0,1,2,3] (fun n σ S' => ∃ a b:Int,G.meetF rank near n a b=some c/\σ=[(0,cj a),(1,cj b),(2, .ptr o7 0),(3, .ptr o10 0)]/\S'=St S [] []) f ?_ ?_
 .exact ⟨a,b,hm,by simp [Fr.oy,Fr.lk,cj],rfl⟩
 .rintro n σ T ⟨a,b,hm,rfl,rfl⟩
  cases n with
  | zero=>cases hm
  | succ n =>
   simp only [G.meetF] at hm
   by_cases hab:a=b
   .rw [if_pos hab] at hm
    cases hm
    subst hab
    refine bz ?_
    exact bS
   .rw [if_neg hab] at hm;split at hm
    .rename_i hok;obtain ⟨a0,a1,b0,b1⟩:=hok;have ha:a.toNat<near.length:=by omega
     have hb:b.toNat<near.length:=by omega
     have har:a.toNat<rank.length:=by omega
     have hbr:b.toNat<rank.length:=by omega
     have a1':a<(rank.length:Int):=by omega
     have b1':b<(rank.length:Int):=by omega
     have e1:rank.getD a.toNat 0=rank[a.toNat]:=by simp [har]
     have e2:rank.getD b.toNat 0=rank[b.toNat]:=by simp [hbr]
     have e3:near.getD a.toNat 0=near[a.toNat]:=by simp [ha]
     have e4:near.getD b.toNat 0=near[b.toNat]:=by simp [hb]
     rw [e1,e2,e3,e4] at hm;split at hm
     .rename_i hlt
      repeat first|refine QG ?_|refine QY ?_ (r:=by conv=>lhs;simp[QV,k7,kr,k10,kn,h7,hr,h10,hn,hab,a0,a1,b0,b1,ha,hb,har,hbr,a1',b1',hlt])
      show jx _ _ _ _ _ _ _;exact again ⟨aW n,_,_,hm,by simp [Fr.oy,Fr.lk,cj],rfl⟩
     .rename_i hlt
      repeat first|refine QG ?_|refine QY ?_ (r:=by conv=>lhs;simp[QV,k7,kr,k10,kn,h7,hr,h10,hn,hab,a0,a1,b0,b1,ha,hb,har,hbr,a1',b1',hlt])
      show jx _ _ _ _ _ _ _;exact again ⟨aW n,_,_,hm,by simp [Fr.oy,Fr.lk,cj],rfl⟩
    .cases hm
end Go.Vw
