import Derived.Test.YtcpncecdegmliaaGreatC22
import Derived.Test.YtcpncecdegmliaaGreatC21
/- Part of the proof. -/
set_option linter.unusedVariables false
set_option linter.unusedSimpArgs false
set_option maxRecDepth 10000
set_option maxHeartbeats 8000000
/-
 The document's nearest dominators are those that the turns find.
-/
namespace Go.Vw.G
open Go.Vw
section
variable {g:List (List Nat)}
theorem without_none (hg:Ok g) (b:Nat):Met (without g none) b↔b∈order g:=by
 rw [(order_ok hg).mem];have:=JH hg (m:=List.replicate g.length false) (by simp) (jY _ _) b;show Met (zM g (List.replicate g.length false)) b↔_;rw [this];constructor
 ·rintro (h | h)
  ·exact absurd h (jY _ _)
  ·exact h
 ·exact .inr
theorem Yr (hg:Ok g) {a b:Nat} (ha:a<g.length):Met (without g (some a)) b↔b≠a ∧ ∃ k,Way g (order g) a k b:=by
 simp only [without]
 by_cases h0:a=0
 ·rw [if_pos h0];subst h0;constructor
  ·exact fun h=>absurd h (jY _ _)
  ·rintro ⟨_,k,hw⟩;exact absurd hw (Dom.zero (order_ok hg) k)
 ·rw [if_neg h0];have hset:=met_set (m:=List.replicate g.length false) (n:=a) (by simpa using ha);have hm : ∀ b,Met ((List.replicate g.length false).set a true) b↔b=a:=by
   intro b; rw [hset];constructor
   ·rintro (h | h)
    ·exact h
    ·exact absurd h (jY _ _)
   ·exact .inl
  have hmf:=JH hg (m:=(List.replicate g.length false).set a true) (by simp) (fun h=>h0 ((hm 0).1 h).symm) b;have hlen:=Jl hg (m:=(List.replicate g.length false).set a true) (by simp) (by rw [getD_set_other h0]; exact rep_getD _ _);unfold Met
  by_cases hb:a=b
  ·subst hb;rw [getD_set_self' (by omega)];simp
  ·rw [getD_set_other hb];show Met (zM g ((List.replicate g.length false).set a true)) b↔_;rw [hmf,hm];constructor
   ·rintro (h | h)
    ·exact absurd h.symm hb
    ·exact ⟨Ne.symm hb,h.way ((hm a).2 rfl)⟩
   ·rintro ⟨_,k,hw⟩;exact .inr (hw.fromM fun x hx=>(hm x).1 hx)
theorem Kb (hg:Ok g) (a b:Nat):tabAt (table g) a b=true↔a∈order g∧b∈order g∧Dom g (order g) a b:=by
 have ho:=order_ok hg
 by_cases ha:a<g.length
 ·have e1:(table g).getD a []=tableRow g a:=by simp [table,ha]
  simp only [tabAt,e1,tableRow]
  by_cases hr:a∈order g
  ·have h1:(without g none).getD a false=true:=(without_none hg a).2 hr;rw [if_pos h1]
   by_cases hb:b<g.length
   ·have e2:((List.range g.length).map fun b=>(without g none).getD b false && !((without g (some a)).getD b false)).getD b false=((without g none).getD b false && !((without g (some a)).getD b false)):=by
     simp [hb]
    rw [e2,Bool.and_eq_true,Bool.not_eq_true'];have w1:=without_none hg b;have w2:=Yr hg (b:=b) ha;unfold Met at w1 w2;rw [w1];constructor
    ·rintro ⟨k1,k2⟩;refine ⟨hr,k1,fun k hw => ?_⟩
     by_cases e:b=a
     ·subst e; exact hw.ne rfl
     ·have:=w2.2 ⟨e,k,hw⟩;rw [k2] at this; cases this
    ·rintro ⟨_,k1,k2⟩;refine ⟨k1, ?_⟩
     cases hx:(without g (some a)).getD b false with
     | false=>rfl
     | true =>
      obtain ⟨_,k,hw⟩:=w2.1 hx;exact absurd hw (k2 k)
   ·constructor
    ·intro h;rw [List.getD_eq_getElem?_getD,List.getElem?_eq_none (by simp; omega)] at h;simp at h
    ·rintro ⟨_,h,_⟩;exact absurd (ho.lt b h) hb
  ·have h1 : ¬ (without g none).getD a false=true:=fun h=>hr ((without_none hg a).1 h)
   rw [if_neg h1,rep_getD];constructor
   ·intro h; cases h
   ·rintro ⟨h,_⟩; exact absurd h hr
 ·constructor
  ·intro h;have e:(table g).getD a []=[]:=by
    rw [List.getD_eq_getElem?_getD,List.getElem?_eq_none (by simp [table]; omega)]; rfl
   rw [tabAt,e] at h;simp at h
  ·rintro ⟨h,_⟩;exact absurd (ho.lt a h) ha
theorem jbs {t:List (List Bool)} {a p:Nat} (h : ∀ c,tabAt t c a=true→tabAt t c p=true) : ∀ n,cntTo t a n≤cntTo t p n
 | 0=>Nat.le_refl _
 | n+1=>by
  have:=jbs h n;simp only [cntTo]
  by_cases h1:tabAt t n a=true
  ·rw [if_pos h1,if_pos (h n h1)]; omega
  ·rw [if_neg h1]; split<;>omega
theorem cntTo_lt {t:List (List Bool)} {a p:Nat} (h : ∀ c,tabAt t c a=true→tabAt t c p=true) {x:Nat} (h1:tabAt t x p=true) (h2 : ¬ tabAt t x a=true) : ∀ n,x<n→cntTo t a n<cntTo t p n
 | 0,hx=>by omega
 | n+1,hx=>by
  have hm:=jbs h n;simp only [cntTo]
  by_cases e:x=n
  ·subst e; rw [if_neg h2,if_pos h1]; omega
  ·have:=cntTo_lt h h1 h2 n (by omega)
   by_cases k1:tabAt t n a=true
   ·rw [if_pos k1,if_pos (h n k1)]; omega
   ·rw [if_neg k1]; split<;>omega
theorem cntTo_pos {t:List (List Bool)} {p:Nat} {x:Nat} (h1:tabAt t x p=true) : ∀ n,x<n→0<cntTo t p n
 | 0,hx=>by omega
 | n+1,hx=>by
  simp only [cntTo]
  by_cases e:x=n
  ·subst e; rw [if_pos h1]; omega
  ·have:=cntTo_pos h1 n (by omega);split<;>omega
theorem jaw {t:List (List Bool)} {n b:Nat} (h : ∀ a,a≠b → ¬ tabAt t a b=true) : ∀ a,bestTo t n b a=(-1,0)
 | 0=>rfl
 | a+1=>by
  simp only [bestTo];rw [if_neg (fun hh=>h a hh.1 hh.2.1)];exact jaw h a
theorem best_idom {t:List (List Bool)} {n b p:Nat} (hpb:p≠b) (hp:tabAt t p b=true) (hc : ∀ a,a≠b→a≠p→tabAt t a b=true→cntTo t a n<cntTo t p n) (h0:0<cntTo t p n) :
  ∀ a,(p<a→bestTo t n b a=((p:Int),cntTo t p n))∧(¬ p<a→(bestTo t n b a).2<cntTo t p n)
 | 0=>⟨fun h=>by omega,fun _=>h0⟩
 | a+1=>by
  obtain ⟨h1,h2⟩:=best_idom hpb hp hc h0 a;simp only [bestTo]
  by_cases e:a=p
  ·subst e;rw [if_pos ⟨hpb,hp,h2 (by omega)⟩];exact ⟨fun _=>rfl,fun h=>by omega⟩
  ·refine ⟨fun h => ?_,fun h => ?_⟩
   ·have:=h1 (by omega);rw [this];rw [if_neg (fun hh=>by have:=hc a hh.1 e hh.2.1; have:=hh.2.2; simp only at this; omega)]
   ·have k:=h2 (by omega);split
    ·rename_i hh; exact hc a hh.1 e hh.2.1
    ·exact k
theorem near_eq (hg:Ok g) {nearF:List Int} (h:Idom g (order g) nearF):rNear g=nearF.set 0 (-1):=by
 have ho:=order_ok hg;refine List.ext_getElem (by simp [rNear,h.len]) fun b h1 h2 => ?_
 have hb:b<g.length:=by simpa [rNear] using h1
 have hbn:b<nearF.length:=by rw [h.len]; exact hb
 have e1:(rNear g)[b]=(bestTo (table g) g.length b g.length).1:=by simp [rNear]
 rw [e1,List.getElem_set];have hnd:nearF[b]=nd nearF b:=by simp [nd,hbn]
 by_cases hb0:0=b
 ·rw [if_pos hb0];subst hb0;rw [jaw (fun a ha ht=>((Kb hg a 0).1 ht).2.2 0 (.start 0 (Ne.symm ha)))]
 ·rw [if_neg hb0,hnd]
  by_cases hbl:b∈order g
  ·obtain ⟨p,q1,q2,q3,q4,q5⟩:=h.near b hbl (Ne.symm hb0);rw [q1];have hpt:tabAt (table g) p b=true:=(Kb hg p b).2 ⟨q2,hbl,q4⟩;have hpp:tabAt (table g) p p=true:=(Kb hg p p).2 ⟨q2,q2,Dom.self p⟩;have hpn:=ho.lt p q2;have hc : ∀ a,a≠b→a≠p→tabAt (table g) a b=true→cntTo (table g) a g.length<cntTo (table g) p g.length:=by
    intro a hab hap hat;obtain ⟨a1,_,a3⟩:=(Kb hg a b).1 hat;have hdp:=q5 a a3 hab;refine cntTo_lt (x:=p) (fun c hcc => ?_) hpp (fun hx => ?_) _ hpn
    ·obtain ⟨c1,_,c3⟩:=(Kb hg c a).1 hcc;exact (Kb hg c p).2 ⟨c1,q2,c3.trans hdp⟩
    ·exact hap (hdp.anti ho ((Kb hg p a).1 hx).2.2 a1 q2)
   rw [(best_idom q3 hpt hc (cntTo_pos hpp _ hpn) g.length).1 hpn]
  ·rw [jaw (fun a _ ht=>hbl ((Kb hg a b).1 ht).2.1)];exact (h.out b hb hbl).symm
end
end Go.Vw.G
namespace Go.Vw
open Go.Proofs Go.RowKit
attribute [-simp] List.map_set
namespace G
def ordI (g:List (List Int)):List Nat:=if right g then order (nats g) else []
def err (g:List (List Int)):Int:=if right g then 0 else 1
end G
def Fits (g:List (List Int)):Prop:=g.length<2^63 ∧ ∀ l∈g,l.length<2^63
theorem jba (g:List (List Int)) (h:Fits g) (hr:G.right g=true):VPure Tryz.prog 64 [vl (vl vnat) (G.nats g)] (.bool true):=by
 have:=Right_v g h.1 h.2;rw [hr,G.right_enc hr] at this;exact this
theorem jbz (g:List (List Int)) (h:Fits g):VPure Tryz.prog 18 [vl (vl vint) g] (.tuple [vl vnat (G.ordI g),vint (G.err g)]):=by
 intro S
 cases hr:G.right g with
 | false =>
  simp only [G.ordI,G.err,hr];refine QB (c:=jc Tryz.f18) Tryz.func18 Tryz.ntmps18 fun hwf=>?_
  repeat first|refine QG ?_|refine QY ?_
  refine QT ?_;refine QP ?_;refine jb rfl (Right_v g h.1 h.2) ?_;refine QM (by conv=>lhs;simp[QV,hr]) ?_;refine QN ?_
  repeat first|refine QG ?_|refine QY ?_
  exact jf (l:=[]) hwf ((Ghost.tuple [] [vint 1] (Ghost.nils_list _)).toB _) rfl
 | true =>
  simp only [G.ordI,G.err,hr,if_true];rw [G.right_enc hr];have hg:=G.right_ok hr;generalize hgn:G.nats g=gn at hg;have hrn:=jba g h hr;rw [hgn] at hrn;refine QB (c:=jc Tryz.f18) Tryz.func18 Tryz.ntmps18 fun hwf=>?_
  repeat first|refine QG ?_|refine QY ?_
  refine QT ?_;refine QP ?_;refine jb rfl (hrn) ?_;refine QW ?_
  repeat first|refine QG ?_|refine QY ?_
  refine QT ?_;refine QP ?_;refine jb rfl (gOrd_v gn hg) ?_;refine QW ?_
  repeat first|refine QG ?_|refine QY ?_
  exact ja hwf rfl rfl
theorem ordI_len (g:List (List Int)):(G.ordI g).length≤256:=by
 simp only [G.ordI];split
 ·rename_i h;have hg:=G.right_ok h;obtain ⟨t,h1,h2,h3⟩:=G.order_ends hg;have:=hg.max;simp [G.order,h1]; omega
 ·simp
theorem ZJ : ∀ (es:List (Nat × Nat)) (rows:List (List Nat)) (r:List Nat),r∈G.pushAll rows es→r.length≤G.total rows+es.length
 | [],rows,r,h=>by
  have h:r∈rows:=h;obtain ⟨i,hi,rfl⟩:=List.getElem_of_mem h;have:=G.row_le_total rows i;have hi':i<rows.length:=hi;have e:rows.getD i []=rows[i]:=by simp [hi']
  rw [e] at this;simpa using this
 | e::es,rows,r,h=>by
  have:=ZJ es (G.push rows e.1 e.2) r h
  by_cases hk:e.1<rows.length
  ·have k:=G.total_push (rows:=rows) (k:=e.1) (i:=e.2) hk;simp; omega
  ·have k:G.push rows e.1 e.2=rows:=by simp only [G.push]; exact List.set_eq_of_length_le (by omega)
   rw [k] at this;simp; omega
namespace G
def nearI (g:List (List Int)):List Int:=if right g then rNear (nats g) else []
theorem nearI_len (g:List (List Int)):(nearI g).length≤256:=by
 simp only [nearI];split
 ·rename_i h;have:=(right_ok h).max;simp [rNear]; exact this
 ·simp
end G
theorem YK (g:List (List Int)) (h:Fits g):VPure Tryz.prog 20 [vl (vl vint) g] (.tuple [vl vint (G.nearI g),vint (G.err g)]):=by
 cases hr:G.right g with
 | false =>
  simp only [G.nearI,G.err,hr];exact NearestErr_v g h.1 h.2 hr
 | true =>
  simp only [G.nearI,G.err,hr,if_true];rw [G.right_enc hr];have hg:=G.right_ok hr;have ho:=G.order_ok hg;obtain ⟨F,K,nearF,h1,h2⟩:=G.chk_ends hg;rw [G.near_eq hg h2];refine Nearest_v (G.nats g) hg (jba g h hr) (G.order (G.nats g)) rfl ?_ ho.lt (G.froms (G.nats g)) rfl (G.froms_length _) (fun r hr x hx => ?_) (fun r hr => ?_) ?_ F K nearF h1
  ·obtain ⟨r,e⟩:=ho.head; rw [e]; simp
  ·obtain ⟨i,hi,rfl⟩:=List.getElem_of_mem hr;have hig:i<(G.nats g).length:=by rw [G.froms_length] at hi; exact hi
   have:=(G.mem_froms hg i x hig).1 (by simpa [hi] using hx);exact this.1
  ·have k1:=ZJ _ _ r hr;have k2:=G.edges_len hg.row 0;have k3:=hg.max;rw [G.total_rep] at k1;omega
  ·obtain ⟨t,k1,k2,k3⟩:=G.order_ends hg;simp [G.order,k1]; exact k2
end Go.Vw
/-
 Circles of blocks, by a walk in depth: the walk ends.
-/
namespace Ss
def tickB (b:Block):Bool:=b.code.any fun x=>decide (x.op=258)
mutual
def ringW (tick:List Bool) (g:List (List Nat)):Nat→Nat→List Nat→Option (Bool × List Nat)
 | 0,_,_=>none
 | fuel+1,n,st=>if tick.getD n false then some (false,st) else
   match ringL tick g fuel (g.getD n []) (st.set n 1) with
   | some (true,s)=>some (true,s)
   | some (false,s)=>some (false,s.set n 2)
   | none=>none
 termination_by fuel _ _=>(fuel,0)
def ringL (tick:List Bool) (g:List (List Nat)):Nat→List Nat→List Nat→Option (Bool × List Nat)
 | _,[],st=>some (false,st)
 | fuel,k::ks,st=>if st.getD k 0=1 then some (true,st) else if st.getD k 0=0 then
   match ringW tick g fuel k st with
   | some (true,s)=>some (true,s)
   | some (false,s)=>ringL tick g fuel ks s
   | none=>none
  else ringL tick g fuel ks st
 termination_by fuel ks _=>(fuel,ks.length+1)
end
def ringM (tick:List Bool) (g:List (List Nat)) (fuel:Nat):List Nat→List Nat→Option Bool
 | [],_=>some false
 | n::ns,st=>if st.getD n 0=0 then
   match ringW tick g fuel n st with
   | some (true,_)=>some true
   | some (false,s)=>ringM tick g fuel ns s
   | none=>none
  else ringM tick g fuel ns st
def Ji (st:List Nat):Nat:=(st.filter fun x=>decide (x=0)).length
theorem Zl (v:Nat) : ∀ (st:List Nat) (n:Nat),v≠0→Ji (st.set n v)≤Ji st∧(n<st.length→st.getD n 1=0→Ji (st.set n v)+1=Ji st)
 | [],n,_=>by simp [Ji]
 | x::st,0,hv=>by
  have e:Ji ((x::st).set 0 v)=Ji st:=by simp [Ji,hv]
  rw [e];refine ⟨?_,fun _ h => ?_⟩
  ·simp only [Ji,List.filter_cons];split<;>simp
  ·simp at h; subst h; simp [Ji]
 | x::st,n+1,hv=>by
  obtain ⟨h1,h2⟩:=Zl v st n hv;simp only [Ji,List.set_cons_succ,List.filter_cons] at h1 h2 ⊢;split
  ·simp only [List.length_cons];refine ⟨by omega,fun h3 h4 => ?_⟩;have:=h2 (by simpa using h3) (by simpa using h4);omega
  ·exact ⟨h1,fun h3 h4=>h2 (by simpa using h3) (by simpa using h4)⟩
theorem zeros_le (st:List Nat):Ji st≤st.length:=List.length_filter_le _ _
section
variable {tick:List Bool} {g:List (List Nat)}
theorem WN {N fuel:Nat} (hg : ∀ n, ∀ k∈g.getD n [],k<N)
  (ih : ∀ n st,n<N→st.length=N→st.getD n 0=0→Ji st<fuel → ∃ r s,ringW tick g fuel n st=some (r,s)∧Ji s≤Ji st∧s.length=st.length) :
  ∀ (ks st:List Nat),(∀ k∈ks,k<N)→st.length=N→Ji st<fuel → ∃ r s,ringL tick g fuel ks st=some (r,s)∧Ji s≤Ji st∧s.length=st.length
 | [],st,_,_,_=>⟨false,st,by rw [ringL],Nat.le_refl _,rfl⟩
 | k::ks,st,hk,hl,hz=>by
  rw [ringL];split
  ·exact ⟨true,st,rfl,Nat.le_refl _,rfl⟩
  ·split
   ·rename_i h0;obtain ⟨r,s,h1,h2,h3⟩:=ih k st (hk k (by simp)) hl h0 hz;rw [h1]
    cases r with
    | true=>exact ⟨true,s,rfl,h2,h3⟩
    | false =>
     obtain ⟨r',s',k1,k2,k3⟩:=WN hg ih ks s (fun x hx=>hk x (by simp [hx])) (by omega) (by omega);exact ⟨r',s',k1,by omega,by omega⟩
   ·exact WN hg ih ks st (fun x hx=>hk x (by simp [hx])) hl hz
theorem jaZ {N:Nat} (hg : ∀ n, ∀ k∈g.getD n [],k<N) : ∀ (fuel n:Nat) (st:List Nat),n<N→st.length=N→st.getD n 0=0→Ji st<fuel → ∃ r s,ringW tick g fuel n st=some (r,s)∧Ji s≤Ji st∧s.length=st.length
 | 0,_,_,_,_,_,hz=>by omega
 | fuel+1,n,st,hn,hl,h0,hz=>by
  rw [ringW];split
  ·exact ⟨false,st,rfl,Nat.le_refl _,rfl⟩
  ·have hz1:=(Zl 1 st n (by decide)).2 (by omega) (by
    rw [List.getD_eq_getElem?_getD,List.getElem?_eq_getElem (by omega)] at h0 ⊢;exact h0)
   obtain ⟨r,s,h1,h2,h3⟩:=WN hg (fun n st=>jaZ hg fuel n st) (g.getD n []) (st.set n 1) (hg n) (by simp; omega) (by omega);rw [h1];have h3':s.length=st.length:=by rw [h3]; simp
   cases r with
   | true=>exact ⟨true,s,rfl,by omega,h3'⟩
   | false =>
    have:=(Zl 2 s n (by decide)).1;exact ⟨false,s.set n 2,rfl,by omega,by simp [h3']⟩
theorem ringM_ends {N fuel:Nat} (hg : ∀ n, ∀ k∈g.getD n [],k<N) (hf:N<fuel) : ∀ (ns st:List Nat),(∀ n∈ns,n<N)→st.length=N → ∃ r,ringM tick g fuel ns st=some r
 | [],_,_,_=>⟨false,rfl⟩
 | n::ns,st,hn,hl=>by
  simp only [ringM];split
  ·rename_i h0;obtain ⟨r,s,h1,h2,h3⟩:=jaZ (tick:=tick) hg fuel n st (hn n (by simp)) hl h0 (by have:=zeros_le st; omega);rw [h1]
   cases r with
   | true=>exact ⟨true,rfl⟩
   | false=>exact ringM_ends hg hf ns s (fun x hx=>hn x (by simp [hx])) (by omega)
  ·exact ringM_ends hg hf ns st (fun x hx=>hn x (by simp [hx])) hl
theorem Wd {fuel:Nat} (ih : ∀ n st r s,ringW tick g fuel n st=some (r,s)→s.length=st.length) : ∀ (ks st:List Nat) (r:Bool) (s:List Nat),ringL tick g fuel ks st=some (r,s)→s.length=st.length
 | [],st,r,s,h=>by rw [ringL] at h; cases h; rfl
 | k::ks,st,r,s,h=>by
  rw [ringL] at h;split at h
  ·cases h; rfl
  ·split at h
   ·cases hw:ringW tick g fuel k st with
    | none=>rw [hw] at h; cases h
    | some p =>
     obtain ⟨b,s1⟩:=p;rw [hw] at h;have e1:=ih k st b s1 hw
     cases b with
     | true=>cases h; exact e1
     | false=>exact (Wd ih ks s1 r s h).trans e1
   ·exact Wd ih ks st r s h
theorem ringW_len : ∀ (fuel n:Nat) (st:List Nat) (r:Bool) (s:List Nat),ringW tick g fuel n st=some (r,s)→s.length=st.length
 | 0,_,_,_,_,h=>by rw [ringW] at h; cases h
 | fuel+1,n,st,r,s,h=>by
  rw [ringW] at h;split at h
  ·cases h; rfl
  ·cases hl:ringL tick g fuel (g.getD n []) (st.set n 1) with
   | none=>rw [hl] at h; cases h
   | some p =>
    obtain ⟨b,s1⟩:=p;rw [hl] at h;have e1:=Wd (ringW_len fuel) _ _ _ _ hl
    cases b with
    | true=>cases h; simpa using e1
    | false=>cases h; simpa using e1
end
def rings (bs:List Block) (g:List (List Nat)):Bool:=(ringM (bs.map tickB) g (g.length+1) (List.range g.length) (List.replicate g.length 0)).getD false
end Ss
namespace Go.Vw
open Go.Proofs Go.RowKit
attribute [-simp] List.map_set
theorem EqFI_v (l m:List (Int)) (p:Int→Int→Bool) (fid:FuncId) (caps:List V) (hc:jQ Tryz.prog fid=true) (hl:l.length<2^63) (h:l.length=m.length → ∀ (k:Nat) (h1:k<l.length) (h2:k<m.length),VPure Tryz.prog fid ([vint l[k],vint m[k]]++caps) (.bool (p l[k] m[k]))) :
  VPure Tryz.prog 112 [vl (vint) l,vl (vint) m, .func fid caps] (.bool (eqF p l m)):=by
 intro S
 by_cases hlm:l.length=m.length
 ·have hlm':(l.length:Int)=(m.length:Int):=by omega
  have h:=h hlm;refine QB (c:=jc Tryz.f112) Tryz.func112 Tryz.ntmps112 fun hwf=>?_
  repeat first|refine QG ?_|refine QY ?_ (r:=by conv=>lhs;simp[QV,hlm,hlm'])
  refine QT ?_;refine jd [1,2,15,16,17] rfl (fun c σ S' => ∃ (k:Nat),k≤l.length∧c=l.length-k∧eqF p (l.drop k) (m.drop k)=eqF p l m∧σ=[(1,vl (vint) m),(2, .func fid caps),(15,vl (vint) l),(16,vnat m.length),(17,vnat k)]∧S'=St S [] []) l.length ?_ ?_
  ·exact ⟨0,by omega,rfl,rfl,by simp [Fr.only,hlm],rfl⟩
  ·rintro c σ T ⟨k,hk,rfl,hd,rfl,rfl⟩
   by_cases hkt:k<l.length
   ·have hkm:k<m.length:=by omega
    have hw:=jh hkt hl;have hst:eqF p (l.drop k) (m.drop k)=(p l[k] m[k]&&eqF p (l.drop (k+1)) (m.drop (k+1))):=by rw [List.drop_eq_getElem_cons hkt,List.drop_eq_getElem_cons hkm,eqF]
    have hh:=h k hkt hkm;obtain ⟨x,hx⟩ : ∃ x,l[k]=x:=⟨_,rfl⟩
    obtain ⟨y,hy⟩ : ∃ y,m[k]=y:=⟨_,rfl⟩
    rw [hx,hy] at hst hh
    repeat first|refine QG ?_|refine QY ?_ (r:=by conv=>lhs;simp[QV,hkt,hkm,hx,hy])
    refine QT ?_;refine QP ?_ (r:=by conv=>lhs;simp[QV,hkt,hkm,hx,hy]);refine qQ rfl hc rfl hh ?_;refine QW ?_
    cases hp:p x y with
    | false =>
     rw [hp] at hst
     repeat first|refine QG ?_|refine QY ?_ (r:=by conv=>lhs;simp[QV,hp])
     exact ja hwf (by rw [←hd,hst]; rfl) rfl
    | true =>
     rw [hp] at hst
     repeat first|refine QG ?_|refine QY ?_ (r:=by conv=>lhs;simp[QV,hp])
     show jy _ _ _ _ _ _ _;exact again ⟨Nat.sub_lt_sub_left hkt (Nat.lt_succ_self k),k+1,hkt,rfl,by rw [←hd,hst]; rfl,by simp [Fr.only,hw],rfl⟩
   ·have e:l.drop k=[]:=by rw [List.drop_eq_nil_iff]; omega
    have e':m.drop k=[]:=by rw [List.drop_eq_nil_iff]; omega
    rw [e,e'] at hd;have hkm : ¬ k<m.length:=by omega
    repeat first|refine QG ?_|refine QY ?_ (r:=by conv=>lhs;simp[QV,hkt,hkm])
    exact ja hwf (by rw [←hd]; rfl) rfl
 ·have hlm' : ¬ (l.length:Int)=(m.length:Int):=by omega
  have e:eqF p l m=false:=eqF_len hlm;rw [e];refine QB (c:=jc Tryz.f112) Tryz.func112 Tryz.ntmps112 fun hwf=>?_
  repeat first|refine QG ?_|refine QY ?_ (r:=by conv=>lhs;simp[QV,hlm,hlm'])
  exact ja hwf rfl rfl
end Go.Vw
namespace Ss
structure Def where
 made:Bool
 block:Int
 pos:Int
deriving DecidableEq,Inhabited
def askOk (ts:List Int) (ds:List Def) (near:List Int) (block pos v t:Int):Bool :=
 decide (0≤v)&&decide (v<ds.length)&&decide (ts.getD v.toNat 0=t)&&(ds.getD v.toNat default).made &&
  (if (ds.getD v.toNat default).block=block then decide ((ds.getD v.toNat default).pos<pos) else Go.Vw.G.dominates near (ds.getD v.toNat default).block block)
def asks (ts:List Int) (ds:List Def) (near:List Int) (block pos:Int) (l types:List Int):Bool:=Go.Vw.eqF (askOk ts ds near block pos) l types
def typesOf (ts:List Int) (l:List Int):List Int:=l.map fun v=>ts.getD v.toNat 0
def InTs (n:Nat) (l:List Int):Prop := ∀ v∈l,0≤v∧v<n
end Ss
namespace Go.Vw
open Go.Proofs Go.RowKit
attribute [-simp] List.map_set
def qH (d:Ss.Def):V := .agg [.bool d.made,vint d.block,vint d.pos]
theorem encDef_eq (d:Ss.Def):qH d = .agg [.bool d.made,vint d.block,vint d.pos]:=nr rfl
theorem encDef_nc (d:Ss.Def):(qH d).ncells=3:=nr rfl
theorem encDef_cells (d:Ss.Def):(qH d).cells=[.bool d.made,vint d.block,vint d.pos]:=nr rfl
theorem zt (d:Ss.Def):(qH d).closed=true:=rfl
attribute [simp] encDef_eq encDef_nc
def ckC (e:Ss.Env) (f:Ss.Fn) (ds near:V):List V:=[vl jl e.sigs,vint e.imports,vl vint e.globals,vl V.bool e.muts, .bool e.mem,vl vint f.sig.inn,vl vint f.sig.out,vl vint f.types,vl je f.blocks,ds,near]
theorem ckC_eq (e:Ss.Env) (f:Ss.Fn) (ds near:V):ckC e f ds near=[vl jl e.sigs,vint e.imports,vl vint e.globals,vl V.bool e.muts, .bool e.mem,vl vint f.sig.inn,vl vint f.sig.out,vl vint f.types,vl je f.blocks,ds,near]:=nr rfl
attribute [simp] ckC_eq
abbrev ckV (e:Ss.Env) (f:Ss.Fn) (ds:List Ss.Def) (near:List Int):V := .ref (.agg (ckC e f (vl qH ds) (vl vint near)))
theorem boxSt {B:Store} {u:Upds} {l:List (Option (Nat × List V))} {k s:Nat} {x:V} (hk:k<l.length) (hc:(l[k]?).join=some (s,[x])) (h1:x.closed1=true):Ghost (.ptr (lid B.nx k) 0) (St B u l) (.ref x) (St B u (l.set k none)):=by
 rw [←jby hk];exact Ghost.box (by rw [ju]; exact hc) h1
theorem types_v (e:Ss.Env) (f:Ss.Fn) (ds:List Ss.Def) (near:List Int) (l:List Int) (hl:l.length≤1048576) (hv:Ss.InTs f.types.length l):VPure Tryz.prog 92 [ckV e f ds near,vl vint l] (vl vint (Ss.typesOf f.types l)):=by
 intro S;obtain ⟨⟨fi,fo⟩,ts,bs⟩:=f;simp only at hv;generalize hg:(fun v:Int=>ts.getD v.toNat 0)=g;have hX:Ss.typesOf ts l=l.map g:=by rw [Ss.typesOf,hg]
 simp only;rw [hX];refine QB (c:=jc Tryz.f92) Tryz.func92 Tryz.ntmps92 fun hwf=>?_
 refine QT ?_;refine QY ?_;refine QT ?_;refine QY ?_;refine zy 5 1 rfl (by conv=>lhs; simp [Fr.set]) ?_
 repeat first|refine QG ?_|refine QY ?_
 refine QT ?_;refine jd [0,5,8,9,10] rfl (fun c σ S' => ∃ (k:Nat) (out:List Int),k≤l.length∧c=l.length-k∧out=(l.take k).map g∧out.length=k∧σ=[(0,ckV e ⟨⟨fi,fo⟩,ts,bs⟩ ds near),(5, .slice (lid S.nx 0) 0 k),(8,vl vint l),(9,vnat l.length),(10,vnat k)]∧S'=St S [] [some (1,out.map vint)]) l.length ?_ ?_
 ·exact ⟨0,[],by omega,rfl,by simp,rfl,by simp [Fr.only],by simp⟩
 ·rintro c σ T ⟨k,out,hk,rfl,ho,hlen,rfl,rfl⟩
  by_cases hkt:k<l.length
  ·have hw:=jh hkt (by omega);obtain ⟨h0,h1⟩:=hv _ (List.getElem_mem hkt);obtain ⟨v,hx⟩ : ∃ v,l[k]=v:=⟨_,rfl⟩
   rw [hx] at h0 h1;obtain ⟨n,rfl⟩ : ∃ n:Nat,v=n:=⟨v.toNat,by omega⟩
   have hn:n<ts.length:=by omega
   have hgn:g (n:Int)=ts[n]:=by rw [←hg]; simp [hn]
   have htk:l.take (k+1)=l.take k++[(n:Int)]:=by rw [List.take_add_one,List.getElem?_eq_getElem hkt,hx]; rfl
   have hb:(k+1)*8≤140737488355328:=by omega
   have hb':k+1≤140737488355328:=by omega
   repeat first|refine QG ?_|refine QY ?_ (r:=by conv=>lhs;simp[QV,hkt,hx,hn,hlen,hb,hb'])
   refine QA [2] (h:=⟨?_,k+1,out++[ts[n]],hkt,rfl,by rw [htk,List.map_append,ho]; simp [hgn],by simp [hlen],by simp [hw],by simp⟩);omega
  ·have hke:k=l.length:=by omega
   subst hke;rw [List.take_length] at ho
   repeat first|refine QG ?_|refine QY ?_ (r:=by conv=>lhs;simp[QV,hkt])
   rw [←ho];exact jf hwf ((frz1 (by simp) (by rfl) (jq vint (fun _=>rfl) _) (by simpa using hlen)).toB _) rfl
theorem asks1_v (e:Ss.Env) (f:Ss.Fn) (ds:List Ss.Def) (near:List Int) (block pos v t:Int) (hds:ds.length=f.types.length) (htl:f.types.length<2^63) (hnl:near.length<2^63) :
  VPure Tryz.prog 113 ([vint v,vint t]++[.ref (ckV e f ds near), .ref (vint block), .ref (vint pos)]) (.bool (Ss.askOk f.types ds near block pos v t)):=by
 intro S;obtain ⟨⟨fi,fo⟩,ts,bs⟩:=f;simp only at hds htl ⊢
 by_cases h0:v<0
 ·have e:Ss.askOk ts ds near block pos v t=false:=by simp [Ss.askOk]; omega
  rw [e];refine QB (c:=jc Tryz.f113) Tryz.func113 Tryz.ntmps113 fun hwf=>?_
  repeat first|refine QG ?_|refine QY ?_ (r:=by conv=>lhs;simp[QV,h0])
  exact ja hwf (by simp) rfl
 obtain ⟨n,rfl⟩ : ∃ n:Nat,v=n:=⟨v.toNat,by omega⟩
 by_cases h1:n<ds.length
 case neg =>
  have h1' : ¬ (n:Int)<(ds.length:Int):=by omega
  have h1'':(ds.length:Int)≤(n:Int):=by omega
  have e:Ss.askOk ts ds near block pos n t=false:=by simp [Ss.askOk]; omega
  rw [e];refine QB (c:=jc Tryz.f113) Tryz.func113 Tryz.ntmps113 fun hwf=>?_
  repeat first|refine QG ?_|refine QY ?_ (r:=by conv=>lhs;simp[QV,h0,h1,h1',h1''])
  exact ja hwf (by simp) rfl
 have hnt:n<ts.length:=by omega
 have h1'' : ¬ (ds.length:Int)≤(n:Int):=by omega
 obtain ⟨tt,htt⟩ : ∃ x,ts[n]=x:=⟨_,rfl⟩
 obtain ⟨⟨dm,db,dp⟩,hd⟩ : ∃ x,ds[n]=x:=⟨_,rfl⟩
 have hX:Ss.askOk ts ds near block pos n t=(decide (tt=t)&&(dm&&(if db=block then decide (dp<pos) else G.dominates near db block))):=by
  simp [Ss.askOk,h1,hnt,htt,hd,Bool.and_assoc]
 rw [hX]
 by_cases h2:tt=t
 case neg =>
  refine QB (c:=jc Tryz.f113) Tryz.func113 Tryz.ntmps113 fun hwf=>?_
  repeat first|refine QG ?_|refine QY ?_ (r:=by conv=>lhs;simp[QV,h0,h1,h1'',hnt,htt,h2])
  exact ja hwf (by simp [h2]) rfl
 cases dm with
 | false =>
  refine QB (c:=jc Tryz.f113) Tryz.func113 Tryz.ntmps113 fun hwf=>?_
  repeat first|refine QG ?_|refine QY ?_ (r:=by conv=>lhs;simp[QV,h0,h1,h1'',hnt,htt,h2,hd])
  exact ja hwf (by simp) rfl
 | true =>
  by_cases h3:db=block
  ·refine QB (c:=jc Tryz.f113) Tryz.func113 Tryz.ntmps113 fun hwf=>?_
   repeat first|refine QG ?_|refine QY ?_ (r:=by conv=>lhs;simp[QV,h0,h1,h1'',hnt,htt,h2,hd,h3])
   exact ja hwf (by simp [h2,h3]) rfl
  ·have cd:=Dominates_v near db block hnl;generalize G.dominates near db block=y at *
   refine QB (c:=jc Tryz.f113) Tryz.func113 Tryz.ntmps113 fun hwf=>?_
   repeat first|refine QG ?_|refine QY ?_ (r:=by conv=>lhs;simp[QV,h0,h1,h1'',hnt,htt,h2,hd,h3])
   refine QT ?_;refine QD (r:=by conv=>lhs;simp[QV,h0,h1,h1'',hnt,htt,h2,hd,h3]) (k:=?_);refine QL (cd) ?_;refine QW ?_
   repeat first|refine QG ?_|refine QY ?_
   exact ja hwf (by simp [h2,h3]) rfl
theorem asks_v (e:Ss.Env) (f:Ss.Fn) (ds:List Ss.Def) (near:List Int) (block pos:Int) (l types:List Int) (hds:ds.length=f.types.length) (htl:f.types.length<2^63) (hnl:near.length<2^63) (hl:l.length<2^63) :
  VPure Tryz.prog 94 [ckV e f ds near,vint block,vint pos,vl vint l,vl vint types] (.bool (Ss.asks f.types ds near block pos l types)):=by
 intro S;refine QB (c:=jc Tryz.f94) Tryz.func94 Tryz.ntmps94 fun hwf=>?_
 refine QT ?_;refine QY ?_;refine jt 5 rfl ((boxSt (by simp) rfl rfl)) (by conv=>lhs; simp [Fr.set]) ?_;simp only [List.set_cons_succ,List.set_cons_zero];refine jt 6 rfl ((boxSt (by simp) rfl rfl)) (by conv=>lhs; simp [Fr.set]) ?_;simp only [List.set_cons_succ,List.set_cons_zero];refine jt 7 rfl ((boxSt (by simp) rfl rfl)) (by conv=>lhs; simp [Fr.set]) ?_;simp only [List.set_cons_succ,List.set_cons_zero];refine QT ?_;refine QP ?_;refine QL (EqFI_v l types (Ss.askOk f.types ds near block pos) 113 [.ref (ckV e f ds near), .ref (vint block), .ref (vint pos)] rfl hl (fun _ k h1 h2=>asks1_v e f ds near block pos _ _ hds htl hnl)) ?_;refine QW ?_
 repeat first|refine QG ?_|refine QY ?_
 exact ja hwf rfl rfl
end Go.Vw
namespace Ss
def put (block pos:Int):List Def→List Int→Option (List Def)
 | ds,[]=>some ds
 | ds,v::l=>if v<0∨(ds.length:Int)≤v∨(ds.getD v.toNat default).made=true then none else put block pos (ds.set v.toNat ⟨true,block,pos⟩) l
def putCode (i:Int):Nat→List Def→List Ins→Option (List Def)
 | _,ds,[]=>some ds
 | k,ds,x::r=>(put i k ds x.outs).bind fun d=>putCode i (k+1) d r
def putBlocks:Nat→List Def→List Block→Option (List Def)
 | _,ds,[]=>some ds
 | i,ds,b::bs=>((put i (-1) ds b.params).bind fun d=>putCode i 0 d b.code).bind fun d=>putBlocks (i+1) d bs
def defsOf (f:Fn):Option (List Def):=putBlocks 0 (List.replicate f.types.length ⟨false,0,0⟩) f.blocks
theorem WR {block pos:Int} : ∀ {l:List Int} {ds d:List Def},put block pos ds l=some d→d.length=ds.length
 | [],ds,d,h=>by simp only [put,Option.some.injEq] at h; rw [h]
 | v::l,ds,d,h=>by
  simp only [put] at h;split at h
  ·cases h
  ·rw [WR h]; simp
end Ss
namespace Go.Vw
open Go.Proofs Go.RowKit
attribute [-simp] List.map_set
theorem jai {α:Type} {enc:α→V} {s:Nat} (hs : ∀ a,(enc a).cells.length=s) (a:α) : ∀ (l:List α) (n:Nat),n<l.length→js enc (l.set n a)=(js enc l).take (n*s)++(enc a).cells++(js enc l).drop (n*s+s)
 | [],n,h=>by simp at h
 | x::l,0,h=>by
  simp only [List.set_cons_zero,js,List.flatMap_cons,Nat.zero_mul,List.take_zero,List.nil_append,Nat.zero_add];rw [←hs x,List.drop_left]
 | x::l,n+1,h=>by
  have ih:=jai hs a l n (by simpa using h);simp only [List.set_cons_succ,js,List.flatMap_cons] at ih ⊢;have e1:(n+1)*s=(enc x).cells.length+n*s:=by rw [hs,Nat.add_mul]; omega
  have e2:(n+1)*s+s=(enc x).cells.length+(n*s+s):=by omega
  rw [ih,e2,e1,List.take_length_add_append,List.drop_length_add_append];simp [List.append_assoc]
theorem jx {S:Store} (hwf:S.Wf) {o:Nat} {c} (h:S.get o=some c):o<S.nx:=by
 rcases Nat.lt_or_ge o S.nx with h' | h'
 ·exact h'
 ·rw [hwf.gone o h'] at h; cases h
theorem define1_v (S:Store) (e:Ss.Env) (f:Ss.Fn) (nearV:V) (pc ck od:Nat) (ds:List Ss.Def) (l:List Int) (block pos:Int) (hl:l.length<2^63) (hn:ds.length<2^40) (hp:S.get pc=some (1,[.ptr ck 0]))
  (hc:S.get ck=some (11,ckC e f (.slice od 0 ds.length) nearV)) (hd:S.get od=some (3,js qH ds)) (h1:pc≠od) (h2:ck≠od) :
  VCalls Tryz.prog 89 ([vl vint l,vint block,vint pos]++[.ptr pc 0]) S (fun r T => ∃ ds',ds'.length=ds.length∧r = .bool (Ss.put block pos ds l).isSome∧(∀ d,Ss.put block pos ds l=some d→ds'=d)∧T=S.upd od (3,js qH ds')):=by
 obtain ⟨⟨fi,fo⟩,ts,bs⟩:=f;obtain ⟨sg,im,gl,mu,me⟩:=e;refine QB (c:=jc Tryz.f89) Tryz.func89 Tryz.ntmps89 fun hwf=>?_
 have hpn:=jx hwf hp;have hcn:=jx hwf hc;have hdn:=jx hwf hd;have op:=fun u l => @jm S u l pc hpn
 have oc:=fun u l => @jm S u l ck hcn
 have od':=fun u l => @jm S u l od hdn
 have hupd:=fun u l c => @qN S u l c od hdn
 have fin : ∀ (X:Bool) (d:List Ss.Def),d.length=ds.length→(Ss.put block pos ds l).isSome=X→(∀ d',Ss.put block pos ds l=some d'→d=d') → ∀ r:V,r = .bool X →
   zO S.nx (fun r T => ∃ ds',ds'.length=ds.length∧r = .bool (Ss.put block pos ds l).isSome∧(∀ d,Ss.put block pos ds l=some d→ds'=d)∧T=S.upd od (3,js qH ds')) r (St S [(od,some (3,js qH d))] []):=by
  intro X d k1 k2 k3 r k4;refine zi (X := .bool X) (S':=S.upd od (3,js qH d)) hwf k4 rfl (by simp [JI,jag,Wt zt]) ?_ ⟨d,k1,by rw [k2],k3,rfl⟩;simp only [gcU,gcE,Option.map_some,Ws zt];exact jaC hwf hdn
 rw [JM hd]
 repeat first|refine QG ?_|refine QY ?_
 refine QT ?_;refine jd [1,2,3,10,11,12] rfl (fun c σ S' => ∃ (k:Nat) (d:List Ss.Def),k≤l.length∧c=l.length-k∧d.length=ds.length∧Ss.put block pos d (l.drop k)=Ss.put block pos ds l∧σ=[(1,vint block),(2,vint pos),(3, .ptr pc 0),(10,vl vint l),(11,vnat l.length),(12,vnat k)]∧S'=St S [(od,some (3,js qH d))] []) l.length ?_ ?_
 ·exact ⟨0,ds,by omega,rfl,rfl,rfl,by simp [Fr.only],rfl⟩
 ·rintro c σ T ⟨k,d,hk,rfl,hdl,hpd,rfl,rfl⟩
  by_cases hkt:k<l.length
  ·have hw:=jh hkt hl;have hst:Ss.put block pos d (l.drop k)=if l[k]<0∨(d.length:Int)≤l[k]∨(d.getD l[k].toNat default).made=true then none else Ss.put block pos (d.set l[k].toNat ⟨true,block,pos⟩) (l.drop (k+1)):=by rw [List.drop_eq_getElem_cons hkt,Ss.put]
   obtain ⟨v,hx⟩ : ∃ v,l[k]=v:=⟨_,rfl⟩
   rw [hx] at hst;have bad:(v<0∨(d.length:Int)≤v∨(d.getD v.toNat default).made=true)→Ss.put block pos ds l=none:=fun hb=>by rw [←hpd,hst,if_pos hb]
   by_cases q1:v<0
   ·repeat first|refine QG ?_|refine QY ?_ (r:=by conv=>lhs;simp[QV,hkt,hx,q1])
    have hb:=bad (.inl q1);exact fin false d hdl (by rw [hb]; rfl) (by rw [hb]; simp) _ (by simp)
   obtain ⟨n,rfl⟩ : ∃ n:Nat,v=n:=⟨v.toNat,by omega⟩
   by_cases q2:n<d.length
   case neg =>
    have q2':(ds.length:Int)≤(n:Int):=by omega
    have hb:=bad (.inr (.inl (by omega)))
    repeat first|refine QG ?_|refine QY ?_ (r:=by conv=>lhs;simp[QV,hkt,hx,q1,q2,q2',op,oc,od',hp,hc,h1,h2])
    exact fin false d hdl (by rw [hb]; rfl) (by rw [hb]; simp) _ (by simp)
   have q2' : ¬ (ds.length:Int)≤(n:Int):=by omega
   obtain ⟨⟨dm,db,dp⟩,hdx⟩ : ∃ x,d[n]=x:=⟨_,rfl⟩
   have hdg:d.getD (n:Int).toNat default=⟨dm,db,dp⟩:=by simp [q2,hdx]
   have hcell:(js qH d)[n*3]? = some (.bool dm):=Wu (enc:=qH) (s:=3) (fun _=>rfl) d n 0 ⟨dm,db,dp⟩ (.bool dm) (by rw [←hdx]; exact List.getElem?_eq_getElem q2) rfl;have hfl:(js qH d).length=d.length*3:=Kh (enc:=qH) (s:=3) (fun _=>rfl) d;have hn2:n<ds.length:=by omega
   by_cases q3:dm=true
   ·have hb:=bad (.inr (.inr (by rw [hdg]; exact q3)))
    repeat first|refine QG ?_|refine QY ?_ (r:=by conv=>lhs;simp[QV,hkt,hx,q1,q2,q2',op,oc,od',hp,hc,h1,h2,hcell,hn2,q3])
    exact fin false d hdl (by rw [hb]; rfl) (by rw [hb]; simp) _ (by simp)
   ·have q3':dm=false:=by simpa using q3
    have hfit:n*3+3≤(js qH d).length:=by omega
    rw [if_neg (by rw [hdg]; rintro (h | h | h)<;>first | exact q1 h | exact q3 h | omega)] at hst;have hfs:=jai (enc:=qH) (s:=3) (fun _=>rfl) ⟨true,block,pos⟩ d n q2
    repeat first|refine QG ?_|refine QY ?_ (r:=by conv=>lhs;simp[QV,hkt,hx,q1,q2,q2',op,oc,od',hp,hc,h1,h2,hcell,hn2,q3',hfit,hupd])
    show jy _ _ _ _ _ _ _;exact again ⟨Nat.sub_lt_sub_left hkt (Nat.lt_succ_self k),k+1,d.set n ⟨true,block,pos⟩,hkt,rfl,by simp [hdl],by rw [←hpd,hst]; rfl,by simp [Fr.only,hw],by rw [hfs]; simp [encDef_cells]⟩
  ·have e1:l.drop k=[]:=by rw [List.drop_eq_nil_iff]; omega
   rw [e1] at hpd;have hpe:Ss.put block pos ds l=some d:=by rw [←hpd]; rfl
   repeat first|refine QG ?_|refine QY ?_ (r:=by conv=>lhs;simp[QV,hkt])
   exact fin true d hdl (by rw [hpe]; rfl) (by rw [hpe]; simp) _ (by simp)
end Go.Vw
