import Derived.Test.YtenhhokhkkfgbaaGreatC18
/- Part of the proof. -/
set_option linter.unusedVariables false
set_option linter.unusedSimpArgs false
set_option maxRecDepth 10000
set_option maxHeartbeats 4000000
namespace Go.Vw
open Go.Proofs Go.RowKit
attribute [-simp] List.map_set
def Turned (xs ys:List Nat) (i:Nat):Prop := ∀ p,p<xs.length->ys[p]? = if p<i\/xs.length<p+i+1 then xs[xs.length-1-p]? else xs[p]?
theorem Turned.swap {xs ys:List Nat} {i j a b:Nat} (hl:ys.length=xs.length) (hij:i+j+1=xs.length) (hlt:i<j) (h:Turned xs ys i) (ha:ys[i]? = some a) (hb:ys[j]? = some b):Turned xs ((ys.set i b).set j a) (i+1):=by
 intro p hp;have hi:=h i (by omega);have hj:=h j (by omega);rw [if_neg (by omega)] at hi hj;have e1:xs.length-1-i=j:=by omega
 have e2:xs.length-1-j=i:=by omega
 rw [List.getElem?_set]
 by_cases h1:j=p
 ·subst h1;rw [if_pos rfl,if_pos (by simp; omega),if_pos (by omega),e2, <-hi,ha]
 ·rw [if_neg h1,List.getElem?_set]
  by_cases h2:i=p
  ·subst h2;rw [if_pos rfl,if_pos (by omega),if_pos (by omega),e1, <-hj,hb]
  ·rw [if_neg h2,h p hp]
   by_cases h3:p<i\/xs.length<p+i+1
   ·rw [if_pos h3,if_pos (by omega)]
   ·rw [if_neg h3,if_neg (by omega)]
theorem Turned.done {xs ys:List Nat} {i:Nat} (hl:ys.length=xs.length) (h:Turned xs ys i) (hi:xs.length<=2*i+1):ys=xs.reverse:=by
 refine List.ext_getElem? fun p => ?_
 by_cases hp:p<xs.length
 ·rw [List.getElem?_reverse hp,h p hp];split
  ·rfl
  ·have:xs.length-1-p=p:=by omega
   rw [this]
 ·rw [aJ (by omega),aJ (by simp; omega)]
theorem Reverse_v (S:Store) (o:Nat) (xs:List Nat) (hx:xs.length<2^40) (ho:S.get o=some (1,xs.map vnat)) :
  bU 137 [.slice o 0 xs.length] S (fun r S'=>r = .tuple []/\S'=S.upd o (1,xs.reverse.map vnat)):=by
 refine QB (c:=jc Tryz.f137) Tryz.func137 Tryz.ntmps137 fun hwf=>?_
 have hon:o<S.nx:=by
  rcases Nat.lt_or_ge o S.nx with h | h
  ·exact h
  ·rw [hwf.gone o h] at ho; cases ho
 have hold:=fun u => @jh S u [] o hon
 have hupd:=fun u c => @jP S u [] c o hon
 rw [Kb ho];have hw:IntKind.i64.wrap ((xs.length:Int)-1)=(xs.length:Int)-1:=wrap_i64 (by omega) (by omega)
 refine bt hold hw ?_
 refine QT ?_;refine jd [0,2,3] rfl (fun c σ S' => ∃ (i:Nat) (ys:List Nat),ys.length=xs.length/\i<=xs.length/\c=xs.length-i/\Turned xs ys i/\σ=[(0, .slice o 0 xs.length),(2,vnat i),(3,vint (xs.length-1-i))]/\S'=St S [(o,some (1,ys.map vnat))] []) xs.length ?_ ?_
 ·refine ⟨0,xs,rfl,by omega,rfl, ?_,by simp [Fr.only,Fr.look,vnat,vint],rfl⟩;intro p hp;rw [if_neg (by omega)]
 ·rintro c σ S' ⟨i,ys,hl,hi,rfl,hT,rfl,rfl⟩
  by_cases hlt:(i:Int)<(xs.length:Int)-1-i
  ·obtain ⟨j,hj⟩ : ∃ j:Nat,(xs.length:Int)-1-i=j:=⟨xs.length-1-i,by omega⟩
   rw [hj] at hlt ⊢;have hij:i<j:=by omega
   have hil:i<xs.length:=by omega
   have hjl:j<xs.length:=by omega
   have hiy:i<ys.length:=by omega
   have hjy:j<ys.length:=by omega
   have hw1:IntKind.i64.wrap ((i:Int)+1)=(i:Int)+1:=wrap_i64 (by omega) (by omega);have hw2:IntKind.i64.wrap ((j:Int)-1)=(j:Int)-1:=wrap_i64 (by omega) (by omega)
   refine bt hold hij ?_
   refine QT ?_;refine QJ ((St S [(o,none)] [])) ((St S [(o,some (1,ys.map vnat))] [])) [21,25] ?_ (r:=by conv=>lhs; simp [QV,hold,hil,hjl,hiy,hjy]);refine QI ?_ (r:=by conv=>lhs;simp[QV,hold,hil,hjl,hiy,hjy,hupd]);refine QM (by conv=>lhs;simp[QV,hold,hil,hjl,hiy,hjy]) ?_;refine QI ?_ (r:=by conv=>lhs;simp[QV,hold,hil,hjl,hiy,hjy,hupd]);refine QN ?_
   refine bt hw1 hw2 ?_
   exact again ⟨ao hil (aY i),i+1,(ys.set i ys[j]).set j ys[i],by simp [hl],by omega,rfl,hT.swap hl (by omega) hij (by simp [hiy]) (by simp [hjy]),by simp [Fr.only,Fr.look,vnat,vint]; omega,by simp [vnat]⟩
  ·have hlt' : ¬ ((i:Int)<(xs.length:Int)-1-i):=hlt
   refine bx hlt' ?_
   have:=hT.done hl (by omega);refine Jp hwf rfl rfl (by simp [JX,jaJ,jaH]) ?_ ⟨rfl,rfl⟩;simp only [gcU,gcE,bl,jai,this];exact KF hwf hon
theorem gOrder_v (g:List (List Nat)) (hg:G.Ok g) (f:Nat) (fin:G.WS) (hw:G.walk g (f+1) 0 (List.replicate g.length false,[])=some fin) (hs:fin.2.length<=2^30) :
  bS 119 [vl (vl vnat) g] (vl vnat fin.2.reverse):=by
 intro S;refine QB (c:=jc Tryz.f119) Tryz.func119 Tryz.ntmps119 fun hwf=>?_
 have hp:0<g.length:=hg.pos;have hm256:=hg.max;have hb1:g.length*1<=140737488355328:=by omega
 have hb8:g.length*8<=140737488355328:=by omega
 have hb0:g.length<=140737488355328:=by omega
 refine bD hp hb1 hb8 hb0 ?_
 refine zx 6 1 rfl (by conv=>lhs; simp [Fr.set]) ?_
 refine bw ?_
 refine QT ?_;refine jd [0,3,4,5,6] rfl (fun c σ S' => ∃ met next stack out,G.At g f fin met next stack out/\c=2*G.unmet met+stack.length/\σ=[(0,vl (vl vnat) g),(3, .slice (lid S.nx 0) 0 g.length),(4, .slice (lid S.nx 1) 0 g.length),(5, .slice (lid S.nx 2) 0 stack.length),(6, .slice (lid S.nx 3) 0 out.length)]/\S'=St S [] [some (1,met.map V.bool),some (1,next.map vnat),some (1,stack.map vnat),some (1,out.map vnat)]) (2*G.unmet ((List.replicate g.length false).set 0 true)+1) ?_ ?_
 ·exact ⟨_,_,_,_,G.At.start hg hw,rfl,by simp [Fr.only,Fr.look],by simp [List.map_set,vnat]⟩
 ·rintro c σ S' ⟨met,next,stack,out,hA,rfl,rfl,rfl⟩;rcases List.eq_nil_or_concat stack with rfl | ⟨stack,n,rfl⟩
  ·refine bw ?_
   refine QP ?_;refine jK rfl (Reverse_v _ (lid S.nx 3) out ?_ ?_) ?_
   ·have:=hA.out_le; omega
   ·simp [jv]
   rintro X S2 ⟨rfl,rfl⟩;rw [JO (by simp)];refine bQ ?_
   have:=hA.done; subst this;exact jf (l:=[_,_,_,none]) hwf ((frz1 (by simp) (by simp) (by simp [vnat,V.closed1]) (by simp)).toB _) rfl
  ·rw [List.concat_eq_append] at hA ⊢;have hlen:(stack++[n]).length=stack.length+1:=by simp
   have hn:n<g.length:=hA.lt n (by simp);have hw1:IntKind.i64.wrap ((stack.length:Int)+1-1)=(stack.length:Int):=by
    rw [wrap_i64 (by have:=hA.out_le; simp at this; omega) (by have:=hA.out_le; simp at this; omega)]; omega
   have hsl:=hA.out_le;have hw2:IntKind.i64.wrap (stack.length:Int)=(stack.length:Int):=wrap_i64 (by omega) (by simp at hsl; omega);have h0:(0:Int)<(stack.length:Int)+1:=by omega
   have h1:(stack.length:Int)<(stack.length:Int)+1:=by omega
   refine bD hw1 hw2 h0 h1 ?_
   refine QT ?_;refine jd [0,3,4,5,6,7] rfl (fun c σ S' => ∃ next',G.At g f fin met next' (stack++[n]) out/\c=(g.getD n []).length-next'.getD n 0/\σ=[(0,vl (vl vnat) g),(3, .slice (lid S.nx 0) 0 g.length),(4, .slice (lid S.nx 1) 0 g.length),(5, .slice (lid S.nx 2) 0 (stack.length+1)),(6, .slice (lid S.nx 3) 0 out.length),(7,vnat n)]/\S'=St S [] [some (1,met.map V.bool),some (1,next'.map vnat),some (1,(stack++[n]).map vnat),some (1,out.map vnat)]) ((g.getD n []).length-next.getD n 0) ?_ ?_
   ·exact ⟨next,hA,rfl,by simp [Fr.only,Fr.look,vnat],by simp [vnat]⟩
   ·rintro c σ S' ⟨nx,hB,rfl,rfl,rfl⟩;have hrow:g[n]? = some g[n]:=by simp [hn]
    have hkn:n<nx.length:=by rw [hB.ln]; exact hn
    obtain ⟨k,hke⟩ : ∃ k,nx[n]=k:=⟨_,rfl⟩
    have hk:nx[n]? = some k:=by simp [hkn,hke]
    have ek:nx.getD n 0=k:=by simp [ag,hk]
    have er:g.getD n []=g[n]:=by simp [hn]
    have hrm:g[n]∈g:=ah hn;have hr128:=hg.row _ hrm
    by_cases hlt:k<g[n].length
    ·have hc:g[n][k]? = some g[n][k]:=by simp [hlt]
     have hcl:g[n][k]<g.length:=hg.elt _ hrm _ (ah hlt);have hcm:g[n][k]<met.length:=by rw [hB.lm]; exact hcl
     obtain ⟨b,hbe⟩ : ∃ b,met[g[n][k]]=b:=⟨_,rfl⟩
     have hb:met[g[n][k]]? = some b:=by simp [hcm,hbe]
     have hwk:IntKind.i64.wrap ((k:Int)+1)=(k:Int)+1:=wrap_i64 (by omega) (by omega);have hset:(nx.set n (k+1)).getD n 0=k+1:=G.getD_set_self' hkn
     cases b with
     | true =>
      repeat first|refine QG ?_|refine QY ?_ (r:=by conv=>lhs;simp[QV,hn,hke,hlt,hcl,hbe,hwk,hkn,hcm])
      have:=hB.seen' hrow hk hc hb;show js _ _ _ _ _ _ _;exact again ⟨by rw [hset,ek,er]; omega,_,this,rfl,by simp [Fr.only,Fr.look,vnat],by simp [vnat]⟩
     | false =>
      have hP:=hB.push' hg hrow hk hc hb;have hPl:=hP.out_le;simp only [List.length_append,aC,aM] at hPl;have hc8:(stack.length+1+1)*8<=140737488355328:=by omega
      have hc1:stack.length+1+1<=140737488355328:=by omega
      have hu:=G.unmet_set hcm hbe
      repeat first|refine QG ?_|refine QY ?_ (r:=by conv=>lhs;simp[QV,hn,hke,hlt,hcl,hbe,hwk,hkn,hcm,hc8,hc1])
      refine QA [0,1,5,3] (h:=⟨?_,_,_,_,_,hP,rfl,by simp [vnat],by simp [vnat]⟩);simp; omega
    ·refine QT ?_;refine QD (r:=by conv=>lhs;simp[QV,hn,hkn,hke,hlt]) (k:=?_);refine QN ?_;refine QT ?_;refine jG rfl rfl rfl ?_;refine QT ?_;refine qb 2 rfl rfl ?_;have hle:(stack.length:Int)<=(stack.length:Int)+1:=by omega
     refine QY ?_ (r:=by conv=>lhs;simp[QV,hw1,hw2,h0,h1,hle]);refine vw_trim 5 stack.length rfl (by simp) rfl (by conv=>lhs; simp [au,aq]) ?_;have hP:=hB.pop' hrow hk hlt;have hPl:=hP.out_le;simp only [List.length_append,aC,aM] at hPl;have hc8:(out.length+1)*8<=140737488355328:=by omega
     have hc1:out.length+1<=140737488355328:=by omega
     refine bt hc8 hc1 ?_
     refine QA [0,1,2,5] (h:=⟨?_,_,_,_,_,hP,rfl,by simp [vnat],by simp [vnat]⟩);simp
theorem wild_v (g:List (List Int)) (n:Int):bS 136 [vint n, .ref (vl (vl vint) g)] (.bool (G.wild g.length n)):=by
 intro S;refine qK rfl ?_;refine qD (c:=jc Tryz.f136) Tryz.func136 rfl rfl (by simp [Tryz.ntmps136]) ?_;rw [Tryz.ntmps136];refine QY ?_
 by_cases h0:n<0
 ·refine QY ?_ (r:=by conv=>lhs;simp[QV,jy,h0]);refine QT ?_;refine jC rfl ?_;have:G.wild g.length n=true:=by simp [G.wild,h0]
  rw [this];exact Gives.same (Agree.refl S)
 ·refine QY ?_ (r:=by conv=>lhs;simp[QV,jy,h0]);refine QT ?_;refine jC rfl ?_;have:G.wild g.length n=decide ((g.length:Int)<=n):=by simp [G.wild,h0]
  rw [this];exact Gives.same (Agree.refl S)
theorem IndexWild_v (g:List (List Int)) (l:List Int) (hl:l.length<2^63):bS 74 [vl vint l, .func 136 [.ref (vl (vl vint) g)]] (vint (G.find (G.wild g.length) l 0)):=by
 intro S;refine qK rfl ?_;refine qD (c:=jc Tryz.f74) Tryz.func74 rfl rfl (by simp [Tryz.ntmps74]) ?_;rw [Tryz.ntmps74];refine QY ?_;refine QY ?_ (r:=by conv=>lhs;simp[QV,jy]);refine QT ?_;refine jV 0 rfl rfl ?_;refine QT ?_;refine jd [0,1,7,8] rfl (fun n σ S' => ∃ (k:Nat),k<=l.length/\n=l.length-k/\G.find (G.wild g.length) (l.drop k) k=G.find (G.wild g.length) l 0/\σ=[(0,vl vint l),(1, .func 136 [.ref (vl (vl vint) g)]),(7,vnat l.length),(8,vnat k)]/\S'=S) l.length ?_ ?_
 ·exact ⟨0,by omega,rfl,rfl,by simp [Fr.only,Fr.look,vnat,vint],rfl⟩
 ·rintro n σ S' ⟨k,hk,rfl,hd,rfl,rfl⟩
  by_cases hk6:k<l.length
  ·have h7:(k:Int)<(l.length:Int):=by omega
   have hst:G.find (G.wild g.length) (l.drop k) k=if G.wild g.length l[k] then (k:Int) else G.find (G.wild g.length) (l.drop (k+1)) (k+1):=by
    rw [am hk6,G.find]
   have hw:IntKind.i64.wrap ((k:Int)+1)=(k:Int)+1:=wrap_i64 (by omega) (by omega);refine bM h7 ?_;refine QT ?_;refine jJ rfl rfl rfl ?_;refine QT ?_;refine jF rfl ?_;refine QT ?_;refine jV 1 rfl rfl ?_;refine QY ?_;refine QP ?_ (r:=by conv=>lhs;simp[QV,jW,hk6]);refine qx rfl rfl rfl (wild_v g l[k]) ?_;refine QW ?_
   by_cases hc:G.wild g.length l[k]=true
   ·refine jJ rfl rfl (by simp [ev,Fr.look,hc]) ?_;refine QY ?_;refine QT ?_;refine jC rfl ?_;rw [<-hd,hst,if_pos hc];exact Gives.same (Agree.refl S')
   ·rw [if_neg hc] at hst;refine jG rfl rfl (by simp [ev,Fr.look,hc]) ?_;refine QT ?_;refine jF rfl ?_;refine bM hw ?_;exact again ⟨ao (by omega) (aY k),k+1,by omega,rfl,by rw [<-hd,hst],by simp [Fr.only,Fr.look,vnat,vint],rfl⟩
  ·have h7 : ¬ (k:Int)<(l.length:Int):=by omega
   refine bM h7 ?_;refine QT ?_;refine jG rfl rfl rfl ?_;refine QT ?_;refine qb 0 rfl rfl ?_;refine QY ?_;refine QT ?_;refine jC rfl ?_;have:l.drop k=[]:=by rw [aH]; omega
   rw [<-hd,this];exact Gives.same (Agree.refl S')
theorem AnyWild_v (g:List (List Int)) (l:List Int) (hl:l.length<2^63):bS 94 [vl vint l, .func 136 [.ref (vl (vl vint) g)]] (.bool (l.any (G.wild g.length))):=by
 intro S;refine qK rfl ?_;refine qD (c:=jc Tryz.f94) Tryz.func94 rfl rfl (by simp [Tryz.ntmps94]) ?_;rw [Tryz.ntmps94];rw [<-G.find_any (G.wild g.length) l 0];refine QY ?_;refine QP ?_;refine QL (IndexWild_v g l hl) ?_;refine QW ?_;refine QT ?_;refine jC rfl ?_;exact Gives.same (Agree.refl S)
theorem Right_v (g:List (List Int)) (hg:g.length<2^63) (hl : ∀ l∈g,l.length<2^63):bS 118 [vl (vl vint) g] (.bool (G.right g)):=by
 intro S;refine qK rfl ?_;refine qD (c:=jc Tryz.f118) Tryz.func118 rfl rfl (by simp [Tryz.ntmps118]) ?_;rw [Tryz.ntmps118];refine QY ?_;refine jt 1 rfl (Ghost.box (get_add _ _) (jbT _ _)) (by conv=>lhs; simp [Fr.set]) ?_;have hag:Agree S ((S.add (1,[vl (vl vint) g])).del S.nx):=((Agree.refl S).add _).del (bf _);generalize (S.add (1,[vl (vl vint) g])).del S.nx=S1 at hag ⊢
 by_cases h0:(g.length:Int)=0
 ·have hq:((g.length:Int)==0)=true:=by simp [h0]
  refine QY ?_ (r:=by conv=>lhs;simp[QV,jy,hq]);refine QT ?_;refine jJ rfl rfl rfl ?_;refine QY ?_;refine QT ?_;refine jC rfl ?_;have:G.right g=false:=by simp [G.right]; omega
  rw [this];exact Gives.same hag
 ·have hq:((g.length:Int)==0)=false:=by simpa using h0
  by_cases h1:(256:Int)<g.length
  ·refine QY ?_ (r:=by conv=>lhs;simp[QV,jy,hq,h1]);refine QT ?_;refine jJ rfl rfl rfl ?_;refine QY ?_;refine QT ?_;refine jC rfl ?_;have:G.right g=false:=by simp [G.right]; omega
   rw [this];exact Gives.same hag
  ·have hfin:G.right g=g.all (G.rowOk g.length):=by
    have a1:decide (1<=g.length)=true:=by simp; omega
    have a2:decide (g.length<=256)=true:=by simp; omega
    simp [G.right,a1,a2]
   rw [hfin];refine QY ?_ (r:=by conv=>lhs;simp[QV,jy,hq,h1]);refine QT ?_;refine jG rfl rfl rfl ?_;refine QT ?_;refine jF rfl ?_;refine QY ?_ (r:=by conv=>lhs;simp[QV,jy]);refine QT ?_;refine jV 0 rfl rfl ?_;refine QT ?_;refine jd [0,1,13,14,15] rfl (fun n σ S' => ∃ (k:Nat),k<=g.length/\n=g.length-k/\(g.drop k).all (G.rowOk g.length)=g.all (G.rowOk g.length)/\σ=[(0,vl (vl vint) g),(1, .ref (vl (vl vint) g)),(13,vl (vl vint) g),(14,vnat g.length),(15,vnat k)]/\S'=S1) g.length ?_ ?_
   ·exact ⟨0,by omega,rfl,rfl,by simp [Fr.only,Fr.look,vnat,vint],rfl⟩
   ·rintro n σ S' ⟨k,hk,rfl,hd,rfl,rfl⟩
    by_cases hk6:k<g.length
    ·have h7:(k:Int)<(g.length:Int):=by omega
     have hst:(g.drop k).all (G.rowOk g.length)=(G.rowOk g.length g[k]&&(g.drop (k+1)).all (G.rowOk g.length)):=by
      rw [am hk6,List.all_cons]
     have hw:IntKind.i64.wrap ((k:Int)+1)=(k:Int)+1:=wrap_i64 (by omega) (by omega);have hlk:g[k].length<2^63:=hl _ (ah hk6);refine bM h7 ?_;refine QT ?_;refine jJ rfl rfl rfl ?_;refine QT ?_;refine jF rfl ?_;refine QT ?_;refine jV 1 rfl rfl ?_;refine QY ?_ (r:=by conv=>lhs;simp[QV,jW,hk6])
     by_cases h2:(128:Int)<g[k].length
     ·refine QY ?_ (r:=by conv=>lhs;simp[QV,jy,h2]);refine QT ?_;refine jJ rfl rfl rfl ?_;refine QY ?_;refine QT ?_;refine jC rfl ?_;have:G.rowOk g.length g[k]=false:=by simp [G.rowOk]; omega
      rw [<-hd,hst,this];exact Gives.same hag
     ·have h3:G.rowOk g.length g[k] = !(g[k].any (G.wild g.length)):=by
       have:decide (g[k].length<=128)=true:=by simp; omega
       simp [G.rowOk,this]
      rw [h3] at hst;refine QP ?_ (r:=by conv=>lhs;simp[QV,jy,h2]);refine QL (AnyWild_v g g[k] hlk) ?_;refine QW ?_
      cases hc:g[k].any (G.wild g.length)
      ·rw [hc] at hst;refine jG rfl rfl (by simp [ev,Fr.look,hc]) ?_;refine QT ?_;refine jF rfl ?_;refine bM hw ?_;exact again ⟨ao (by omega) (aY k),k+1,by omega,rfl,by rw [<-hd,hst]; rfl,by simp [Fr.only,Fr.look,vnat,vint],rfl⟩
      ·rw [hc] at hst;refine jJ rfl rfl (by simp [ev,Fr.look,hc]) ?_;refine QY ?_;refine QT ?_;refine jC rfl ?_;rw [<-hd,hst];exact Gives.same hag
    ·have h7 : ¬ (k:Int)<(g.length:Int):=by omega
     refine bM h7 ?_;refine QT ?_;refine jG rfl rfl rfl ?_;refine QT ?_;refine qb 0 rfl rfl ?_;refine QY ?_;refine QT ?_;refine jC rfl ?_;have:g.drop k=[]:=by rw [aH]; omega
     rw [<-hd,this];exact Gives.same hag
theorem RRight_v (g:List (List Int)) (hg:g.length<2^63) (hl : ∀ l∈g,l.length<2^63):bS 43 [vl (vl vint) g] (.bool (G.right g)):=by
 intro S;refine qK rfl ?_;refine qD (c:=jc Tryz.f43) Tryz.func43 rfl rfl (by simp [Tryz.ntmps43]) ?_;rw [Tryz.ntmps43];refine QY ?_
 by_cases h0:(g.length:Int)<1
 ·refine QY ?_ (r:=by conv=>lhs;simp[QV,jy,h0]);refine QT ?_;refine jJ rfl rfl rfl ?_;refine QY ?_;refine QT ?_;refine jC rfl ?_;have:G.right g=false:=by simp [G.right]; omega
  rw [this];exact Gives.same (Agree.refl S)
 ·by_cases h1:(256:Int)<g.length
  ·refine QY ?_ (r:=by conv=>lhs;simp[QV,jy,h0,h1]);refine QT ?_;refine jJ rfl rfl rfl ?_;refine QY ?_;refine QT ?_;refine jC rfl ?_;have:G.right g=false:=by simp [G.right]; omega
   rw [this];exact Gives.same (Agree.refl S)
  ·have hfin:G.right g=g.all (G.rowOk g.length):=by
    have a1:decide (1<=g.length)=true:=by simp; omega
    have a2:decide (g.length<=256)=true:=by simp; omega
    simp [G.right,a1,a2]
   rw [hfin];refine QY ?_ (r:=by conv=>lhs;simp[QV,jy,h0,h1]);refine QT ?_;refine jG rfl rfl rfl ?_;refine QT ?_;refine jF rfl ?_;refine QY ?_;refine QT ?_;refine jV 0 rfl rfl ?_;refine QT ?_;refine jd [0,3] rfl (fun n σ S' => ∃ (k:Nat),k<=g.length/\n=g.length-k/\(g.drop k).all (G.rowOk g.length)=g.all (G.rowOk g.length)/\σ=[(0,vl (vl vint) g),(3,vnat k)]/\S'=S) g.length ?_ ?_
   ·exact ⟨0,by omega,rfl,rfl,by simp [Fr.only,Fr.look,vnat,vint],rfl⟩
   ·rintro n σ S' ⟨k,hk,rfl,hd,rfl,rfl⟩
    by_cases hk6:k<g.length
    ·have h7:(k:Int)<(g.length:Int):=by omega
     have hst:(g.drop k).all (G.rowOk g.length)=(G.rowOk g.length g[k]&&(g.drop (k+1)).all (G.rowOk g.length)):=by
      rw [am hk6,List.all_cons]
     have hw:IntKind.i64.wrap ((k:Int)+1)=(k:Int)+1:=wrap_i64 (by omega) (by omega);have hlk:g[k].length<2^63:=hl _ (ah hk6);refine QY ?_ (r:=by conv=>lhs;simp[QV,jy,h7]);refine QT ?_;refine jJ rfl rfl rfl ?_;refine QT ?_;refine jF rfl ?_;refine QT ?_;refine jV 1 rfl rfl ?_
     by_cases h2:(128:Int)<g[k].length
     ·refine QY ?_ (r:=by conv=>lhs;simp[QV,jW,hk6,jy,h2]);refine QT ?_;refine jJ rfl rfl rfl ?_;refine QY ?_;refine QT ?_;refine jC rfl ?_;have:G.rowOk g.length g[k]=false:=by simp [G.rowOk]; omega
      rw [<-hd,hst,this];exact Gives.same (Agree.refl S')
     ·have h3:G.rowOk g.length g[k] = !(g[k].any (G.wild g.length)):=by
       have:decide (g[k].length<=128)=true:=by simp; omega
       simp [G.rowOk,this]
      rw [h3] at hst;refine QY ?_ (r:=by conv=>lhs;simp[QV,jW,hk6,jy,h2]);refine QT ?_;refine jG rfl rfl rfl ?_;refine QT ?_;refine jF rfl ?_;refine QY ?_;refine QT ?_;refine jV 2 rfl rfl ?_;refine QT ?_;refine jd [0,3,4] rfl (fun n σ S'' => ∃ (j:Nat),j<=g[k].length/\n=g[k].length-j/\(g[k].drop j).any (G.wild g.length)=g[k].any (G.wild g.length)/\σ=[(0,vl (vl vint) g),(3,vnat k),(4,vnat j)]/\S''=S') g[k].length ?_ ?_
      ·exact ⟨0,by omega,rfl,rfl,by simp [Fr.only,Fr.look,vnat,vint],rfl⟩
      ·rintro n σ S'' ⟨j,hj,rfl,he,rfl,rfl⟩
       by_cases hj6:j<g[k].length
       ·have i7:(j:Int)<(g[k].length:Int):=by omega
        have ist:(g[k].drop j).any (G.wild g.length)=(G.wild g.length g[k][j]||(g[k].drop (j+1)).any (G.wild g.length)):=by
         rw [am hj6,List.any_cons]
        have iw:IntKind.i64.wrap ((j:Int)+1)=(j:Int)+1:=wrap_i64 (by omega) (by omega);refine QY ?_ (r:=by conv=>lhs;simp[QV,jW,hk6,jy,i7]);refine QT ?_;refine jJ rfl rfl rfl ?_;refine QT ?_;refine jF rfl ?_;refine QT ?_;refine jV 3 rfl rfl ?_
        by_cases n0:g[k][j]<0
        ·refine QY ?_ (r:=by conv=>lhs;simp[QV,jW,hk6,jW,hj6,n0]);refine QT ?_;refine jJ rfl rfl rfl ?_;refine QY ?_;refine QT ?_;refine jC rfl ?_;have:G.wild g.length g[k][j]=true:=by simp [G.wild,n0]
         rw [<-hd,hst, <-he,ist,this];exact Gives.same (Agree.refl S'')
        ·by_cases n1:(g.length:Int)<=g[k][j]
         ·refine QY ?_ (r:=by conv=>lhs;simp[QV,jW,hk6,jW,hj6,n0,jy,n1]);refine QT ?_;refine jJ rfl rfl rfl ?_;refine QY ?_;refine QT ?_;refine jC rfl ?_;have:G.wild g.length g[k][j]=true:=by simp [G.wild,n1]
          rw [<-hd,hst, <-he,ist,this];exact Gives.same (Agree.refl S'')
         ·refine QY ?_ (r:=by conv=>lhs;simp[QV,jW,hk6,jW,hj6,n0,jy,n1]);refine QT ?_;refine jG rfl rfl rfl ?_;refine QT ?_;refine jF rfl ?_;refine bM iw ?_;have:G.wild g.length g[k][j]=false:=by simp [G.wild,n0,n1]
          rw [this] at ist;exact again ⟨ao (by omega) (aY j),j+1,by omega,rfl,by rw [<-he,ist]; rfl,by simp [Fr.only,Fr.look,vnat,vint],rfl⟩
       ·have i7 : ¬ (j:Int)<(g[k].length:Int):=by omega
        refine QY ?_ (r:=by conv=>lhs;simp[QV,jW,hk6,jy,i7]);refine QT ?_;refine jG rfl rfl rfl ?_;refine QT ?_;refine qb 2 rfl rfl ?_;have hz:g[k].drop j=[]:=by rw [aH]; omega
        rw [hz] at he;rw [<-he] at hst;refine bM hw ?_;exact again ⟨ao (by omega) (aY k),k+1,by omega,rfl,by rw [<-hd,hst]; rfl,by simp [Fr.only,Fr.look,vnat,vint],rfl⟩
    ·have h7 : ¬ (k:Int)<(g.length:Int):=by omega
     refine QY ?_ (r:=by conv=>lhs;simp[QV,jy,h7]);refine QT ?_;refine jG rfl rfl rfl ?_;refine QT ?_;refine qb 0 rfl rfl ?_;refine QY ?_;refine QT ?_;refine jC rfl ?_;have:g.drop k=[]:=by rw [aH]; omega
     rw [<-hd,this];exact Gives.same (Agree.refl S')
def zn (rows:List (List Nat)):List (List V):=rows.map (·.map vnat)
theorem natRows_len (rows:List (List Nat)):(zn rows).length=rows.length:=by simp [zn]
theorem Za {rows:List (List Nat)} {k i:Nat} (h:k<rows.length):zn (G.push rows k i)=(zn rows).set k ((rows.getD k []).map vnat++[.int .i64 (i:Int)]):=by
 simp [zn,G.push,List.map_set,vnat]
theorem Wn {rows:List (List Nat)} {k:Nat} (h:k<rows.length):(zn rows)[k]? = some ((rows.getD k []).map vnat):=by
 simp [zn,h]
theorem jbj (rows:List (List Nat)) : ∀ row∈zn rows,row.all V.closed1=true:=by
 intro row h;simp only [zn,bk] at h;obtain ⟨r,_,rfl⟩:=h;simp [vnat,V.closed1]
theorem natRows_vl (rows:List (List Nat)):V.list ((zn rows).map V.list)=vl (vl vnat) rows:=by
 simp [zn,vl]
theorem FromErr_v (g:List (List Int)) (hg:g.length<2^63) (hl : ∀ l∈g,l.length<2^63) (hr:G.right g=false):bS 123 [vl (vl vint) g] (.tuple [vl vnat [],vint 1]):=by
 intro S;refine QB (c:=jc Tryz.f123) Tryz.func123 Tryz.ntmps123 fun hwf=>?_
 refine bw ?_
 refine QP ?_;refine QL (Right_v g hg hl) ?_;refine bB hr ?_;refine bR ?_
 exact jf (l:=[]) hwf ((Ghost.tuple [] [vint 1] (Ghost.nils_list _)).toB _) rfl
structure FromAt (S T:Store) (oo:Nat) (cells:List V) (rows:List (List Nat)) (n:Nat):Prop where
 agree:Agree S T
 arr:RowsAt T S.nx oo [] cells (zn rows)
 len:rows.length=n
theorem FromAt.nil {S T:Store} {oo n k i:Nat} {cells:List V} {rows:List (List Nat)} (h:FromAt S T oo cells rows n) (hk:k<n) (hr:rows.getD k []=[]) (hc:cells[k]? = some .nils):FromAt S (jbx T oo cells k (.int .i64 (i:Int))) oo (cells.set k (.slice (T.nx+1) 0 1)) (G.push rows k i) n:=by
 have hlt:k<rows.length:=by rw [h.len]; exact hk
 refine ⟨((h.agree.add _).add _).upd h.arr.base _, ?_,by simp [G.push_length,h.len]⟩;rw [Za hlt,hr];refine h.arr.nil ?_ (by simp) hc;rw [Wn hlt,hr]; rfl
theorem FromAt.app {S T:Store} {oo n k i id:Nat} {cells:List V} {rows:List (List Nat)} (h:FromAt S T oo cells rows n) (hk:k<n) (hid:S.nx<=id) (hc:cells[k]? = some (.slice id 0 (rows.getD k []).length)):FromAt S (jad T oo cells k id ((rows.getD k []).map vnat) (.int .i64 (i:Int))) oo (cells.set k (.slice (T.nx+1) 0 ((rows.getD k []).length+1))) (G.push rows k i) n:=by
 have hlt:k<rows.length:=by rw [h.len]; exact hk
 refine ⟨(((h.agree.add _).del hid).add _).upd h.arr.base _, ?_,by simp [G.push_length,h.len]⟩;rw [Za hlt];have:=h.arr.app (x := .int .i64 (i:Int)) (id:=id) (Wn hlt) (by simp) (by simpa using hc);simpa using this
theorem From_v (g:List (List Nat)) (hg:G.Ok g) (hr:bS 118 [vl (vl vnat) g] (.bool true)):bS 123 [vl (vl vnat) g] (.tuple [vl (vl vnat) (G.froms g),vint 0]):=by
 intro S;refine QB (c:=jc Tryz.f123) Tryz.func123 Tryz.ntmps123 fun hwf=>?_
 have hm256:=hg.max;have hb24:g.length*24<=140737488355328:=by omega
 have hb0:g.length<=140737488355328:=by omega
 refine bw ?_
 refine QP ?_;refine QL hr ?_;refine QW ?_
 refine bt hb24 hb0 ?_
 have h0:FromAt S (St S [] [some (1,List.replicate g.length V.nils)]) (lid S.nx 0) (List.replicate g.length .nils) (List.replicate g.length []) g.length:=by
  refine ⟨zI, ?_,by simp⟩;have:zn (List.replicate g.length [])=List.replicate g.length []:=by simp [zn]
  rw [this];exact RowsAt.start (by simp [jv]) (by simp [lid]) (by rw [jL]; simp [lid]) (by simp)
 have htot:=G.edges_len hg.row 0;refine vw_gen (fun T=>FromAt S T (lid S.nx 0) (List.replicate g.length .nils) (List.replicate g.length []) g.length) h0 ?_;intro T h0;generalize lid S.nx 0=oo at h0 ⊢
 refine bw ?_
 refine QT ?_;refine jd [4,15,16,17] rfl (fun c σ S' => ∃ (i:Nat) (cells:List V) (rows:List (List Nat)),i<=g.length/\c=g.length-i/\FromAt S S' oo cells rows g.length/\G.pushAll rows (G.edges (g.drop i) i)=G.froms g/\G.total rows+(G.edges (g.drop i) i).length<=128*g.length/\σ=[(4, .slice oo 0 g.length),(15,vl (vl vnat) g),(16,vnat g.length),(17,vnat i)]) g.length ?_ ?_
 ·exact ⟨0,_,_,by omega,rfl,h0,rfl,by simpa [G.total_rep] using htot,by simp [Fr.only,Fr.look,vnat]⟩
 ·rintro c σ T ⟨i,cells,rows,hi,rfl,hF,hp,ht,rfl⟩
  by_cases hlt:i<g.length
  ·have hw1:IntKind.i64.wrap ((i:Int)+1)=(i:Int)+1:=wrap_i64 (by omega) (by omega);have hr128:=hg.row _ (ah hlt)
   refine bx hlt ?_
   rw [G.edges_drop g hlt] at hp ht;refine QT ?_;refine jd [4,5,15,16,17,22,23,24] rfl (fun c σ S' => ∃ (k:Nat) (cells:List V) (rows:List (List Nat)),k<=g[i].length/\c=g[i].length-k/\FromAt S S' oo cells rows g.length/\G.pushAll rows ((g[i].drop k).map (·,i)++G.edges (g.drop (i+1)) (i+1))=G.froms g/\G.total rows+((g[i].drop k).map (·,i)++G.edges (g.drop (i+1)) (i+1)).length<=128*g.length/\σ=[(4, .slice oo 0 g.length),(5,vnat i),(15,vl (vl vnat) g),(16,vnat g.length),(17,vnat i),(22,vl vnat g[i]),(23,vnat g[i].length),(24,vnat k)]) g[i].length ?_ ?_
   ·exact ⟨0,_,_,by omega,rfl,hF,hp,by simpa using ht,by simp [Fr.only,Fr.look,vnat]⟩
   ·rintro c σ T ⟨k,cells,rows,hk,rfl,hF,hp,ht,rfl⟩
    by_cases hkl:k<g[i].length
    ·have hw2:IntKind.i64.wrap ((k:Int)+1)=(k:Int)+1:=wrap_i64 (by omega) (by omega);rw [G.map_drop hkl] at hp ht;simp only [List.cons_append,aC,G.pushAll_cons] at hp ht;have hgk:g[i][k]<g.length:=hg.elt _ (ah hlt) _ (ah hkl);have hkr:g[i][k]<rows.length:=by rw [hF.len]; exact hgk
     have hrow:=G.row_le_total rows g[i][k];have htp:=G.total_push (i:=i) hkr;have hget:=hF.arr.get;have hool:=hF.arr.lt;have hcl:cells.length=g.length:=by rw [hF.arr.len,natRows_len,hF.len]
     have hgkc:g[i][k]<cells.length:=by omega
     have h1:oo<T.nx+1:=by omega
     have h2:oo<T.nx+1+1:=by omega
     rcases hF.arr.row _ _ (Wn hkr) with ⟨hc,hr0⟩ | ⟨id,hc,hid,hne,hb,hidl,_⟩
     ·have hr0':rows.getD g[i][k] []=[]:=by simpa using hr0
      obtain ⟨_,hce⟩:=ae.1 hc
      refine bv hlt hkl hw2 ?_
      repeat first|refine QG ?_|refine QY ?_ (r:=by conv=>lhs;simp[QV,hlt,hkl,hget,hgk,add_new,add_nx',add_old,hool,h1,h2,hgkc,hce,hw2])
      show js _ _ _ _ _ _ _;exact again ⟨ao hkl (aY k),k+1,_,_,hkl,rfl,hF.nil (i:=i) hgk hr0' hc,hp,by omega,by simp [Fr.only,Fr.look,vnat]⟩
     ·have hlr:((rows.getD g[i][k] []).map vnat).length=(rows.getD g[i][k] []).length:=by simp
      rw [hlr] at hc;obtain ⟨_,hce⟩:=ae.1 hc;have hb8:((rows.getD g[i][k] []).length+1)*8<=140737488355328:=by omega
      have hb1:(rows.getD g[i][k] []).length+1<=140737488355328:=by omega
      have hcf:=hF.app (i:=i) hgk hb hc;simp only [jad,aI] at hcf;generalize hrw:rows.getD g[i][k] []=row at hce hb8 hb1 hid hcf;have hne':oo≠id:=Ne.symm hne
      refine bv hlt hkl hw2 ?_
      repeat first|refine QG ?_|refine QY ?_ (r:=by conv=>lhs;simp[QV,hlt,hkl,hget,hgk,add_new,add_nx',add_old,del_old,del_nx,hool,h1,h2,hgkc,hce,hw2,hid,hidl,hne',hb8,hb1])
      show js _ _ _ _ _ _ _;exact again ⟨ao hkl (aY k),k+1,_,_,hkl,rfl,hcf,hp,by omega,by simp [Fr.only,Fr.look,vnat]⟩
    ·refine bv hlt hkl hw1 ?_
     have:k=g[i].length:=by omega
     subst this;simp at hp ht;show js _ _ _ _ _ _ _;exact again ⟨ao hlt (aY i),i+1,_,_,hlt,rfl,hF,hp,by simpa using ht,by simp [Fr.only,Fr.look,vnat]⟩
  ·have hig:i=g.length:=by omega
   subst hig;refine QY ?_;refine QT ?_;refine jG rfl rfl rfl ?_;refine QT ?_;refine qb 0 rfl rfl ?_;simp [G.edges,G.pushAll] at hp;obtain ⟨T2,k1,k2,k3,k4,k5⟩:=hF.arr.freeze (N:=41) (b0:=S.nx) (jbj rows);refine jE k1 ?_
   refine bw ?_
   have hfr:=Ghost.freeze1 (len:=g.length) k2 (by simp [V.closed1]) (by simp [zn,hF.len]);rw [natRows_vl,hp] at hfr;have hag:Agree S (T2.del oo):=by
    have h0:=hF.agree;refine ⟨by show S.nx<=T2.nx; rw [k3]; exact h0.1,fun o ho => ?_⟩;have hb:=hF.arr.base;rw [del_old (by omega),k4 o (.inl ho) (by omega)];exact h0.2 o ho
   exact qy hwf ((Ghost.tuple [] [vint 0] hfr).toB _) hag rfl
theorem Meet_v (S:Store) (rank:List Nat) (near:List Int) (hrl:rank.length=near.length) (o7 o10 or on:Nat) (h7:S.get o7=some (1,[.slice or 0 rank.length])) (hr:S.get or=some (1,rank.map vnat)) (h10:S.get o10=some (1,[.slice on 0 near.length])) (hn:S.get on=some (1,near.map vint))
  (f:Nat) (a b c:Int) (hm:G.meetF rank near f a b=some c):bU 125 [vint a,vint b, .ptr o7 0, .ptr o10 0] S (fun r S'=>r=vint c/\S'=S):=by
 refine QB (c:=jc Tryz.f125) Tryz.func125 Tryz.ntmps125 fun hwf=>?_
 have lt : ∀ o c,S.get o=some c->o<S.nx:=by
  intro o c ho;rcases Nat.lt_or_ge o S.nx with h | h
  ·exact h
  ·rw [hwf.gone o h] at ho; cases ho
 have k7 := @jh S [] [] o7 (lt _ _ h7);have kr := @jh S [] [] or (lt _ _ hr);have k10 := @jh S [] [] o10 (lt _ _ h10);have kn := @jh S [] [] on (lt _ _ hn)
 refine bw ?_
 refine QT ?_;refine jd [0,1,2,3] rfl (fun n σ S' => ∃ a b:Int,G.meetF rank near n a b=some c/\σ=[(0,vint a),(1,vint b),(2, .ptr o7 0),(3, .ptr o10 0)]/\S'=St S [] []) f ?_ ?_
 ·exact ⟨a,b,hm,by simp [Fr.only,Fr.look,vint],rfl⟩
 ·rintro n σ T ⟨a,b,hm,rfl,rfl⟩
  cases n with
  | zero=>cases hm
  | succ n =>
   simp only [G.meetF] at hm
   by_cases hab:a=b
   ·rw [if_pos hab] at hm
    cases hm
    subst hab
    refine bw ?_
    exact bN
   ·rw [if_neg hab] at hm;split at hm
    ·rename_i hok;obtain ⟨a0,a1,b0,b1⟩:=hok;have ha:a.toNat<near.length:=by omega
     have hb:b.toNat<near.length:=by omega
     have har:a.toNat<rank.length:=by omega
     have hbr:b.toNat<rank.length:=by omega
     have a1':a<(rank.length:Int):=by omega
     have b1':b<(rank.length:Int):=by omega
     have e1:rank.getD a.toNat 0=rank[a.toNat]:=by simp [har]
     have e2:rank.getD b.toNat 0=rank[b.toNat]:=by simp [hbr]
     have e3:near.getD a.toNat 0=near[a.toNat]:=by simp [ha]
     have e4:near.getD b.toNat 0=near[b.toNat]:=by simp [hb]
     rw [e1,e2,e3,e4] at hm;split at hm
     ·rename_i hlt
      repeat first|refine QG ?_|refine QY ?_ (r:=by conv=>lhs;simp[QV,k7,kr,k10,kn,h7,hr,h10,hn,hab,a0,a1,b0,b1,ha,hb,har,hbr,a1',b1',hlt])
      show js _ _ _ _ _ _ _;exact again ⟨aY n,_,_,hm,by simp [Fr.only,Fr.look,vint],rfl⟩
     ·rename_i hlt
      repeat first|refine QG ?_|refine QY ?_ (r:=by conv=>lhs;simp[QV,k7,kr,k10,kn,h7,hr,h10,hn,hab,a0,a1,b0,b1,ha,hb,har,hbr,a1',b1',hlt])
      show js _ _ _ _ _ _ _;exact again ⟨aY n,_,_,hm,by simp [Fr.only,Fr.look,vint],rfl⟩
    ·cases hm
end Go.Vw
