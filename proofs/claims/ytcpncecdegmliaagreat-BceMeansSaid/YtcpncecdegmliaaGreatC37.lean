import Derived.Test.YtcpncecdegmliaaGreatC36
/- Part of the proof. -/
set_option linter.unusedVariables false
set_option linter.unusedSimpArgs false
namespace Ss
theorem eqF_nil {α:Type} (p:α→α→Bool) (l:List α):Go.Vw.eqF p l []=decide (l.length=0):=by
 cases l<;>simp [Go.Vw.eqF]
theorem Zh (ts:List Int) (ds:List Def) (near:List Int) (block pos:Int) (l:List Int):asks ts ds near block pos l []=decide (l.length=0):=eqF_nil _ l
def chkF (n:Int) (t:List Int) (A:List Int→Bool) (r:FormR):Bool:=r.ok&&decide (n≤r.most)&&decide (t=r.outs)&&A r.inn
def chkR (t:List Int) (A:List Int→Bool) (r:RForm):Bool:=r.ok&&decide (t=r.outs)&&A r.inn
theorem form_agrees (e:Env) (op n out:Int) (h0:0≤n) (h1:n<18446744073709551616) (ho:out=127∨out=126∨out=0) (t:List Int) (ht:out=0→t=[]) (A:List Int→Bool) :
  chkF n t A (form e op n out)=chkR t A (rform e op n out):=by
 have hz:decide (n≤0)=decide (n=0):=by simp; omega
 have n27:numSig 27=([],0,false):=by decide
 have n16:numSig 16=([],0,false):=by decide
 have n35:numSig 35=([],0,false):=by decide
 have n36:numSig 36=([],0,false):=by decide
 have a63:accOf 63=none:=by decide
 have a64:accOf 64=none:=by decide
 have nn : ∀ m:Int,decide (m≤m)=true:=fun m=>by simp
 have lt32:decide (n≤4294967295)=decide (n<4294967296):=by simp; omega
 have le64:decide (n≤18446744073709551615)=true:=by simp; omega
 unfold form rform
 by_cases h256:op=256
 ·rw [if_pos h256,if_pos h256];rcases ho with rfl | rfl | rfl
  ·simp [chkF,chkR,lt32]
  ·simp [chkF,chkR,le64]
  ·rw [ht rfl]; simp [chkF,chkR]
 rw [if_neg h256,if_neg h256]
 by_cases h258:op=258
 ·rw [if_pos h258,if_pos h258]; simp [chkF,chkR,hz]
 rw [if_neg h258,if_neg h258]
 by_cases h27:op=27
 ·subst h27; rw [if_pos rfl,n27]; simp [chkF,chkR,hz]
 rw [if_neg h27]
 by_cases h16:op=16
 ·subst h16;rw [if_pos rfl,n16];simp only [rformEnv]
  by_cases h:n<e.sigs.length<;>simp [chkF,chkR,h]
 rw [if_neg h16]
 by_cases h35:op=35∨op=36
 ·rw [if_pos h35];have hn:numSig op=([],0,false):=by rcases h35 with rfl | rfl<;>assumption
  rw [hn];simp only [formGlob,rformEnv,if_neg h27,if_pos h35]
  by_cases h:n<e.globals.length
  ·by_cases h5:op=35<;>simp [chkF,chkR,h,h5]
  ·simp [chkF,chkR,h]
 rw [if_neg h35];simp only [formNum];generalize numSig op=sg;obtain ⟨l,ty,b⟩:=sg
 cases b with
 | true=>simp [chkF,chkR,hz]
 | false =>
  simp only [if_neg h27,rformEnv,if_neg h35,if_neg h16]
  cases e.mem with
  | false=>simp [chkF,chkR]
  | true =>
   simp only [if_true,formMem,rformMem]
   by_cases h257:op=257
   ·simp [chkF,chkR,h257]
   rw [if_neg h257,if_neg h257]
   by_cases h63:op=63
   ·subst h63; rw [if_pos rfl,a63]; simp [chkF,chkR,hz]
   rw [if_neg h63]
   by_cases h64:op=64
   ·subst h64; rw [if_pos rfl,a64]; simp [chkF,chkR,hz]
   rw [if_neg h64]
   cases accOf op with
   | none=>simp [chkF,chkR,h63,h64]
   | some a=>cases hst:a.store<;>simp [chkF,chkR,hst,lt32]
theorem ins_agrees {e:Env} {f:Fn} {ds:List Def} {near:List Int} {i k:Int} {x:Ins} (hx:x.Fits) (hk : ∀ t∈f.types,isKind t=true) (ho:InTs f.types.length x.outs):rinsOk e f ds near i k x=insOk e f ds near i k x:=by
 refine (form_agrees e x.op x.n (insOut f.types x) hx.2.1.1 hx.2.1.2 ?_ (typesOf f.types x.outs) ?_ (asks f.types ds near i k x.args)).symm
 ·unfold insOut
  cases hu:x.outs with
  | nil=>simp
  | cons v r =>
   obtain ⟨h0,h1⟩:=ho v (by rw [hu]; simp);have hlt:v.toNat<f.types.length:=by omega
   have:=hk _ (List.getElem_mem hlt);simp only [List.getD_eq_getElem?_getD,List.getElem?_eq_getElem hlt,Option.getD_some];simp only [isKind,Bool.or_eq_true,decide_eq_true_eq] at this;rcases this with h | h
   ·exact .inl h
   ·exact .inr (.inl h)
 ·intro h;unfold insOut at h
  cases hu:x.outs with
  | nil=>rfl
  | cons v r =>
   rw [hu] at h;obtain ⟨h0,h1⟩:=ho v (by rw [hu]; simp);have hlt:v.toNat<f.types.length:=by omega
   have:=hk _ (List.getElem_mem hlt);simp only [List.getD_eq_getElem?_getD,List.getElem?_eq_getElem hlt,Option.getD_some] at h;rw [h] at this;simp [isKind] at this
theorem edge_agrees {f:Fn} {ds:List Def} {near:List Int} {i pos:Int} {x:Edge} (h:0≤x.to):redgeOk f ds near i pos x=edgeOk f ds near i pos x:=by
 have:decide (1≤x.to) = !decide (x.to=0):=by
  by_cases h0:x.to=0
  ·simp [h0]
  ·simp [h0]; omega
 rw [redgeOk,edgeOk,this]
theorem jbx {α:Type} {p q:α→Bool} : ∀ {l:List α},(∀ x∈l,p x=q x)→l.all p=l.all q
 | [],_=>rfl
 | x::l,h=>by rw [List.all_cons,List.all_cons,h x (by simp),jbx fun y hy=>h y (by simp [hy])]
theorem term_agrees {f:Fn} {ds:List Def} {near:List Int} {i:Int} {b:Block} (h : ∀ x∈b.term.to,0≤x.to):(rtermOk f ds near i b.code.length b.term&&b.term.to.all (redgeOk f ds near i b.code.length))=termOk f ds near i b:=by
 rw [jbx (q:=edgeOk f ds near i b.code.length) fun x hx=>edge_agrees (h x hx)];obtain ⟨ps,code,⟨k,a,to,az⟩⟩:=b;simp only [termOk,rtermOk];have h0:decide (to.length=0)=(decide (0≤to.length)&&decide (to.length≤0)):=by
  rw [Bool.eq_iff_iff]; simp only [Bool.and_eq_true,decide_eq_true_eq]; omega
 have h1:decide (to.length=1)=(decide (1≤to.length)&&decide (to.length≤1)):=by
  rw [Bool.eq_iff_iff]; simp only [Bool.and_eq_true,decide_eq_true_eq]; omega
 have h2:decide (to.length=2)=(decide (2≤to.length)&&decide (to.length≤2)):=by
  rw [Bool.eq_iff_iff]; simp only [Bool.and_eq_true,decide_eq_true_eq]; omega
 rw [h0,h1,h2];have hT : ∀ le mo rs,termTail f ds near i code.length ⟨k,a,to,az⟩ le mo rs=((if (decide (k=2)||decide (k=3))=true then asks f.types ds near i code.length [a] [127] else decide (a=0))&&decide (le≤to.length)&&decide (to.length≤mo)&&asks f.types ds near i code.length az rs&&to.all (edgeOk f ds near i code.length)):=fun _ _ _=>rfl
 simp only [hT];clear hT h0 h1 h2;generalize to.all (edgeOk f ds near i code.length)=E;have aa : ∀ {a b c d e:Bool},(a&&(b&&(c&&d))&&e)=(a&&c&&d&&b&&e):=by decide
 have ab : ∀ {a b c d e:Bool},(a&&(b&&c&&d)&&e)=(a&&b&&c&&d&&e):=by decide
 by_cases k2:k=2
 ·have e:termHead f.sig.out k=some (2,2,[]):=by rw [k2]; rfl
  simp only [e];simp only [k2,if_true,Zh,decide_true,Bool.true_or];exact aa
 have d2:decide (k=2)=false:=decide_eq_false k2;rw [if_neg k2,d2,Bool.false_or]
 by_cases k3:k=3
 ·have e:termHead f.sig.out k=some (1,65,[]):=by rw [k3]; rfl
  simp only [e];simp only [k3,if_true,Zh,decide_true];exact aa
 have d3:decide (k=3)=false:=decide_eq_false k3;rw [if_neg k3,d3];simp only [Bool.false_eq_true,if_false]
 by_cases k4:k=4
 ·have e:termHead f.sig.out k=some (0,0,f.sig.out):=by rw [k4]; rfl
  simp only [e,if_pos k4];exact ab
 rw [if_neg k4]
 by_cases k1:k=1
 ·have e:termHead f.sig.out k=some (1,1,[]):=by rw [k1]; rfl
  simp only [e,if_pos k1,Zh];exact aa
 rw [if_neg k1]
 by_cases k5:k=5
 ·have e:termHead f.sig.out k=some (0,0,[]):=by rw [k5]; rfl
  simp only [e];simp only [k5,Zh,decide_true,Bool.true_and];exact aa
 simp [termHead,k1,k2,k3,k4,k5]
inductive Walk (G:List (List Nat)):Nat→Nat→Prop
 | one {a b:Nat} (h:b∈G.getD a []):Walk G a b
 | more {a b c:Nat} (h:Walk G a b) (k:c∈G.getD b []):Walk G a c
theorem Walk.cons {G:List (List Nat)} {a b c:Nat} (h:b∈G.getD a []) (w:Walk G b c):Walk G a c:=by
 induction w with
 | one k=>exact .more (.one h) k
 | more _ k ih=>exact .more ih k
theorem Walk.first {G:List (List Nat)} {a c:Nat} (w:Walk G a c) : ∃ b,b∈G.getD a []∧(b=c∨Walk G b c):=by
 induction w with
 | one h=>exact ⟨_,h, .inl rfl⟩
 | more _ k ih =>
  obtain ⟨b,h1,h2⟩:=ih;refine ⟨b,h1, .inr ?_⟩;rcases h2 with rfl | h2
  ·exact .one k
  ·exact .more h2 k
theorem Ends.no_ring {G:List (List Nat)} {i:Nat} (h:Ends G i) : ¬ Walk G i i:=by
 induction h with
 | mk i _ ih =>
  intro w;obtain ⟨b,h1,h2⟩:=w.first;refine ih b h1 ?_;rcases h2 with rfl | h2
  ·exact .one h1
  ·exact .more h2 h1
section
variable {tick:List Bool} {g M:List (List Nat)}
def JU (M:List (List Nat)) (st:List Nat):Prop := ∀ k,st.getD k 0≠0→st.getD k 0≠1→Ends M k
def OnesIn (s st:List Nat):Prop := ∀ k,s.getD k 0=1→st.getD k 0=1
theorem getD_set_ne {α:Type} {l:List α} {i j:Nat} {a d:α} (h:i≠j):(l.set i a).getD j d=l.getD j d:=by simp [List.getElem?_set_ne h]
theorem KR {α:Type} {l:List α} {i:Nat} {a d:α} (h:i<l.length):(l.set i a).getD i d=a:=by simp [h]
theorem jbQ {N fuel:Nat} (ih : ∀ n st s,n<N→st.length=N→st.getD n 0=0→JU M st→ringW tick g fuel n st=some (false,s)→Ends M n∧JU M s∧OnesIn s st) :
  ∀ (ks st s:List Nat),(∀ k∈ks,k<N)→st.length=N→JU M st→ringL tick g fuel ks st=some (false,s)→(∀ k∈ks,Ends M k)∧JU M s∧OnesIn s st
 | [],st,s,_,_,hd,h=>by rw [ringL] at h; cases h; exact ⟨by simp,hd,fun _ h=>h⟩
 | k::ks,st,s,hk,hl,hd,h=>by
  rw [ringL] at h;split at h
  ·cases h
  ·rename_i h1;split at h
   ·rename_i h0
    cases hw:ringW tick g fuel k st with
    | none=>rw [hw] at h; cases h
    | some p =>
     obtain ⟨b,s1⟩:=p;rw [hw] at h
     cases b with
     | true=>cases h
     | false =>
      obtain ⟨e1,e2,e3⟩:=ih k st s1 (hk k (by simp)) hl h0 hd hw;have hl1:=ringW_len _ _ _ _ _ hw;obtain ⟨f1,f2,f3⟩:=jbQ ih ks s1 s (fun x hx=>hk x (by simp [hx])) (by omega) e2 h;refine ⟨fun x hx => ?_,f2,fun x hx=>e3 x (f3 x hx)⟩;rcases List.mem_cons.1 hx with rfl | hx
      ·exact e1
      ·exact f1 x hx
   ·rename_i h0;obtain ⟨f1,f2,f3⟩:=jbQ ih ks st s (fun x hx=>hk x (by simp [hx])) hl hd h;refine ⟨fun x hx => ?_,f2,f3⟩;rcases List.mem_cons.1 hx with rfl | hx
    ·exact hd _ h0 h1
    ·exact f1 x hx
theorem jbP {N:Nat} (hg : ∀ n, ∀ k∈g.getD n [],k<N) (hM : ∀ n<N,M.getD n []=if tick.getD n false=true then [] else g.getD n []) :
  ∀ (fuel n:Nat) (st s:List Nat),n<N→st.length=N→st.getD n 0=0→JU M st→ringW tick g fuel n st=some (false,s)→Ends M n∧JU M s∧OnesIn s st
 | 0,_,_,_,_,_,_,_,h=>by rw [ringW] at h; cases h
 | fuel+1,n,st,s,hn,hl,h0,hd,h=>by
  rw [ringW] at h;have hm:=hM n hn;split at h
  ·rename_i ht
   cases h
   rw [if_pos ht] at hm;exact ⟨.mk n (by rw [hm]; simp),hd,fun _ h=>h⟩
  ·rename_i ht;rw [if_neg ht] at hm
   cases hL:ringL tick g fuel (g.getD n []) (st.set n 1) with
   | none=>rw [hL] at h; cases h
   | some p =>
    obtain ⟨b,s1⟩:=p;rw [hL] at h
    cases b with
    | true=>cases h
    | false =>
     cases h
     have hd1:JU M (st.set n 1):=by
      intro k k0 k1
      by_cases e:n=k
      ·subst e; rw [KR (by omega)] at k1; exact absurd rfl k1
      ·rw [getD_set_ne e] at k0 k1; exact hd k k0 k1
     obtain ⟨f1,f2,f3⟩:=jbQ (fun n st s=>jbP hg hM fuel n st s) _ _ _ (hg n) (by simp; omega) hd1 hL;have hen:Ends M n := .mk n (by rw [hm]; exact f1);have hl1:s1.length=N:=by
      have:=Wd (ringW_len fuel) _ _ _ _ hL;simp at this; omega
     refine ⟨hen, ?_, ?_⟩
     ·intro k k0 k1
      by_cases e:n=k
      ·subst e; exact hen
      ·rw [getD_set_ne e] at k0 k1; exact f2 k k0 k1
     ·intro k k1
      by_cases e:n=k
      ·subst e; rw [KR (by omega)] at k1; cases k1
      ·rw [getD_set_ne e] at k1;have:=f3 k k1
       rwa [getD_set_ne e] at this
def Under (M:List (List Nat)) (st:List Nat) (n:Nat):Prop := ∀ k,st.getD k 0=1→k=n∨Walk M k n
theorem ZB {N fuel n:Nat} (hg : ∀ n, ∀ k∈g.getD n [],k<N) (hM : ∀ n<N,M.getD n []=if tick.getD n false=true then [] else g.getD n [])
  (ih : ∀ n st s,n<N→st.length=N→st.getD n 0=0→JU M st→(∀ k,st.getD k 0=1→Walk M k n)→ringW tick g fuel n st=some (true,s) → ∃ i, ¬ Ends M i) :
  ∀ (ks st s:List Nat),(∀ k∈ks,k<N)→(∀ k∈ks,k∈M.getD n [])→st.length=N→JU M st→Under M st n→ringL tick g fuel ks st=some (true,s) → ∃ i, ¬ Ends M i
 | [],st,s,_,_,_,_,_,h=>by rw [ringL] at h; cases h
 | k::ks,st,s,hk,hkM,hl,hd,hu,h=>by
  rw [ringL] at h;split at h
  ·rename_i h1;refine ⟨k,fun he=>he.no_ring ?_⟩;rcases hu k h1 with rfl | w
   ·exact .one (hkM _ (by simp))
   ·exact .more w (hkM _ (by simp))
  ·split at h
   ·rename_i h0
    cases hw:ringW tick g fuel k st with
    | none=>rw [hw] at h; cases h
    | some p =>
     obtain ⟨b,s1⟩:=p;rw [hw] at h
     cases b with
     | true =>
      refine ih k st s1 (hk k (by simp)) hl h0 hd (fun x hx => ?_) hw;rcases hu x hx with rfl | w
      ·exact .one (hkM _ (by simp))
      ·exact .more w (hkM _ (by simp))
     | false =>
      obtain ⟨e1,e2,e3⟩:=jbP hg hM fuel k st s1 (hk k (by simp)) hl h0 hd hw;have hl1:=ringW_len _ _ _ _ _ hw;exact ZB hg hM ih ks s1 s (fun x hx=>hk x (by simp [hx])) (fun x hx=>hkM x (by simp [hx])) (by omega) e2 (fun x hx=>hu x (e3 x hx)) h
   ·exact ZB hg hM ih ks st s (fun x hx=>hk x (by simp [hx])) (fun x hx=>hkM x (by simp [hx])) hl hd hu h
theorem ringW_yes {N:Nat} (hg : ∀ n, ∀ k∈g.getD n [],k<N) (hM : ∀ n<N,M.getD n []=if tick.getD n false=true then [] else g.getD n []) :
  ∀ (fuel n:Nat) (st s:List Nat),n<N→st.length=N→st.getD n 0=0→JU M st→(∀ k,st.getD k 0=1→Walk M k n)→ringW tick g fuel n st=some (true,s) → ∃ i, ¬ Ends M i
 | 0,_,_,_,_,_,_,_,_,h=>by rw [ringW] at h; cases h
 | fuel+1,n,st,s,hn,hl,h0,hd,hu,h=>by
  rw [ringW] at h;have hm:=hM n hn;split at h
  ·cases h
  ·rename_i ht;rw [if_neg ht] at hm
   cases hL:ringL tick g fuel (g.getD n []) (st.set n 1) with
   | none=>rw [hL] at h; cases h
   | some p =>
    obtain ⟨b,s1⟩:=p;rw [hL] at h
    cases b with
    | false=>cases h
    | true =>
     have hd1:JU M (st.set n 1):=by
      intro k k0 k1
      by_cases e:n=k
      ·subst e; rw [KR (by omega)] at k1; exact absurd rfl k1
      ·rw [getD_set_ne e] at k0 k1; exact hd k k0 k1
     refine ZB (n:=n) hg hM (fun n st s=>ringW_yes hg hM fuel n st s) _ _ _ (hg n) (by rw [hm]; exact fun k h=>h) (by simp; omega) hd1 (fun k hk => ?_) hL
     by_cases e:n=k
     ·exact .inl e.symm
     ·rw [getD_set_ne e] at hk; exact .inr (hu k hk)
theorem KM {N fuel:Nat} (hg : ∀ n, ∀ k∈g.getD n [],k<N) (hM : ∀ n<N,M.getD n []=if tick.getD n false=true then [] else g.getD n []) :
  ∀ (ns st:List Nat) (r:Bool),(∀ n∈ns,n<N)→st.length=N→JU M st→(∀ k,st.getD k 0≠1)→ringM tick g fuel ns st=some r→(r=false → ∀ n∈ns,Ends M n)∧(r=true → ∃ i, ¬ Ends M i)
 | [],st,r,_,_,_,_,h=>by simp only [ringM,Option.some.injEq] at h; subst h; exact ⟨by simp,by simp⟩
 | n::ns,st,r,hn,hl,hd,h1,h=>by
  simp only [ringM] at h;split at h
  ·rename_i h0
   cases hw:ringW tick g fuel n st with
   | none=>rw [hw] at h; cases h
   | some p =>
    obtain ⟨b,s⟩:=p;rw [hw] at h
    cases b with
    | true =>
     cases h
     exact ⟨by simp,fun _=>ringW_yes hg hM fuel n st s (hn n (by simp)) hl h0 hd (fun k hk=>absurd hk (h1 k)) hw⟩
    | false =>
     obtain ⟨e1,e2,e3⟩:=jbP hg hM fuel n st s (hn n (by simp)) hl h0 hd hw;have hl1:=ringW_len _ _ _ _ _ hw;obtain ⟨f1,f2⟩:=KM hg hM ns s r (fun x hx=>hn x (by simp [hx])) (by omega) e2 (fun k hk=>h1 k (e3 k hk)) h;refine ⟨fun hr x hx => ?_,f2⟩;rcases List.mem_cons.1 hx with rfl | hx
     ·exact e1
     ·exact f1 hr x hx
  ·rename_i h0;obtain ⟨f1,f2⟩:=KM hg hM ns st r (fun x hx=>hn x (by simp [hx])) hl hd h1 h;refine ⟨fun hr x hx => ?_,f2⟩;rcases List.mem_cons.1 hx with rfl | hx
   ·exact hd _ h0 (h1 _)
   ·exact f1 hr x hx
end
open Classical in
/-- The walk in depth finds a circle just if not all numbers end. -/
theorem jaY {bs:List Block} {G:List (List Nat)} (hl:G.length=bs.length) (hr : ∀ r∈G, ∀ k∈r,k<G.length):rings bs G=circ (msk bs G):=by
 have hg : ∀ n, ∀ k∈G.getD n [],k<G.length:=by
  intro n k hk
  by_cases h:n<G.length
  ·simp only [List.getD_eq_getElem?_getD,List.getElem?_eq_getElem h,Option.getD_some] at hk;exact hr _ (List.getElem_mem h) k hk
  ·simp only [List.getD_eq_getElem?_getD,List.getElem?_eq_none (Nat.le_of_not_lt h),Option.getD_none] at hk
   cases hk
 have hM : ∀ n<G.length,(msk bs G).getD n []=if (bs.map tickB).getD n false=true then [] else G.getD n []:=by
  intro n h;have hb:n<bs.length:=by omega
  simp [msk,List.getElem?_zipWith,h,hb]
 have hml:(msk bs G).length=G.length:=by rw [msk_len hl,hl]
 obtain ⟨r,h⟩:=ringM_ends (tick:=bs.map tickB) (fuel:=G.length+1) hg (by omega) (List.range G.length) (List.replicate G.length 0) (fun n hn=>List.mem_range.1 hn) (by simp);have hz : ∀ k,(List.replicate G.length 0).getD k 0=0:=by intro k; simp [List.getElem?_replicate]; split<;>rfl
 obtain ⟨h1,h2⟩:=KM (M:=msk bs G) hg hM (List.range G.length) (List.replicate G.length 0) r (fun n hn=>List.mem_range.1 hn) (by simp) (fun k h0=>absurd (hz k) h0) (fun k=>by rw [hz]; decide) h;rw [rings,h,Option.getD_some,circ,hml]
 cases r with
 | false =>
  refine (decide_eq_false ?_).symm;exact fun hn=>hn fun i hi=>h1 rfl i (List.mem_range.2 hi)
 | true =>
  refine (decide_eq_true ?_).symm;intro ha;obtain ⟨i,hi⟩:=h2 rfl
  by_cases h3:i<G.length
  ·exact hi (ha i h3)
  ·refine hi (.mk i ?_);simp only [List.getD_eq_getElem?_getD,List.getElem?_eq_none (show (msk bs G).length≤i by omega),Option.getD_none];simp
theorem len_all {n:Nat} {l:List Nat} (hn:l.Nodup) (hb : ∀ x∈l,x<n):l.length=n ↔ ∀ x<n,x∈l:=by
 constructor
 ·intro h x hx;refine Classical.byContradiction fun hc => ?_
  have h1:(x::l).Nodup:=List.nodup_cons.2 ⟨hc,hn⟩;have h2:x::l ⊆ List.range n:=fun y hy=>by
   rcases List.mem_cons.1 hy with rfl | hy
   ·exact List.mem_range.2 hx
   ·exact List.mem_range.2 (hb y hy)
  have:=h1.length_le_of_subset h2;simp at this; omega
 ·intro h;have h1:l.length≤n:=by
   have:=hn.length_le_of_subset (l₂:=List.range n) fun y hy=>List.mem_range.2 (hb y hy)
   simpa using this
  have h2:n≤l.length:=by
   have:=(List.nodup_range (n:=n)).length_le_of_subset (l₂:=l) fun y hy=>h y (List.mem_range.1 hy)
   simpa using this
  omega
open Go.Vw in
theorem order_all {g:List (List Nat)} (hg:G.Ok g):decide ((G.order g).length=g.length)=(G.without g none).all id:=by
 have ho:=G.order_ok hg;have hl:=G.without_length hg none;rw [Bool.eq_iff_iff,decide_eq_true_eq,len_all ho.nd ho.lt,List.all_eq_true];constructor
 ·intro h x hx;obtain ⟨i,hi,rfl⟩:=List.mem_iff_getElem.1 hx;have:=(G.without_none hg i).2 (h i (by omega));simpa [G.Met,hi] using this
 ·intro h i hi;refine (G.without_none hg i).1 ?_;have hi':i<(G.without g none).length:=by omega
  have:=h _ (List.getElem_mem hi');simpa [G.Met,hi'] using this
theorem jar {e:Env} {f:Fn} {ds:List Def} {near:List Int} {i:Int} (hk : ∀ t∈f.types,isKind t=true) : ∀ (l:List Ins) (k:Nat),(∀ x∈l,x.Fits∧InTs f.types.length x.outs)→rcheckCode e f ds near i k l=checkCode e f ds near i k l
 | [],k,_=>rfl
 | x::l,k,h=>by
  rw [rcheckCode,checkCode,ins_agrees (h x (by simp)).1 hk (h x (by simp)).2,jar hk l (k+1) fun y hy=>h y (by simp [hy])]
theorem YI {e:Env} {f:Fn} {ds:List Def} {near:List Int} (hk : ∀ t∈f.types,isKind t=true) : ∀ (l:List Block) (i:Nat),(∀ b∈l,(∀ x∈b.code,x.Fits∧InTs f.types.length x.outs) ∧ ∀ x∈b.term.to,0≤x.to)→rcheckBlocks e f ds near i l=checkBlocks e f ds near i l
 | [],i,_=>rfl
 | b::l,i,h=>by
  rw [rcheckBlocks,checkBlocks,YI hk l (i+1) fun y hy=>h y (by simp [hy]),rcheckBlock,jar hk _ _ (h b (by simp)).1,term_agrees (h b (by simp)).2,Bool.and_assoc]
theorem check_agrees {e:Env} {f:Fn} (hf:f.Fits):rcheck e f=check e f:=by
 unfold rcheck check
 cases hh:checkHead e f with
 | false=>simp
 | true =>
 simp only [Bool.true_and]
 cases hd:defsOf f with
 | none=>simp
 | some ds =>
 simp only;have hkt : ∀ t∈f.types,isKind t=true:=by
  simp only [checkHead,kinds,Bool.and_eq_true,List.all_eq_true] at hh;exact hh.1.1.2.2
 cases hr:Go.Vw.G.right (succs f.blocks) with
 | false=>simp [shapeOk,hr]
 | true =>
 have hok:=Go.Vw.G.right_ok hr;have hpos:1≤f.blocks.length:=by
  simp only [Go.Vw.G.right,Bool.and_eq_true,decide_eq_true_eq] at hr;simpa [succs] using hr.1.1
 have hto:=right_to hr;have hin:=(defs_in hd).2;have hgl:(Go.Vw.G.nats (succs f.blocks)).length=f.blocks.length:=by simp [Go.Vw.G.nats,succs]
 rw [decide_eq_true hpos,YI hkt f.blocks 0 fun b hb=>⟨fun x hx=>⟨(hf.2.2.2 b hb).2.1.2 x hx,(hin b hb).2 x hx⟩,fun x hx=>(hto b hb x hx).1⟩];rw [←order_all hok,hgl];have hrc:=jaY (bs:=f.blocks) hgl (fun r hr k hk=>hok.elt r hr k hk);have hsh:shapeOk f=(Go.Vw.G.right (succs f.blocks)&&decide ((Go.Vw.G.ordI (succs f.blocks)).length=f.blocks.length) && !rings f.blocks (Go.Vw.G.nats (succs f.blocks))&&decide (typesOf f.types (f.blocks.getD 0 default).params=f.sig.inn)&&firstTick (f.blocks.getD 0 default).code):=by
  unfold shapeOk
  cases (f.blocks.getD 0 default).code<;>rfl
 rw [hsh];simp only [rshape,hr,Go.Vw.G.ordI,if_true,hrc,Bool.true_and];generalize checkBlocks e f ds _ 0 f.blocks=A;generalize decide (typesOf f.types (f.blocks.getD 0 default).params=f.sig.inn)=B;generalize circ _=C;generalize decide (_=f.blocks.length)=D;generalize firstTick (f.blocks.getD 0 default).code=E;revert A B C D E; decide
end Ss
namespace Ss
open Classical
noncomputable def ZI (M:List (List Nat)) (i:Nat):Nat:=((List.range M.length).filter fun j=>decide (Walk M i j)).length
theorem jaj {p q:Nat→Bool} {k:Nat} : ∀ {l:List Nat},(∀ x∈l,p x=true→q x=true)→k∈l→p k=false→q k=true→(l.filter p).length<(l.filter q).length
 | [],_,h,_,_=>by cases h
 | x::l,h,hk,h1,h2=>by
  have hle:(l.filter p).length≤(l.filter q).length:=by
   clear hk
   induction l with
   | nil=>simp
   | cons y l ih =>
    have h3 : ∀ x∈l,p x=true→q x=true:=fun z hz=>h z (by simp [hz])
    have:=ih fun z hz=>by
     rcases List.mem_cons.1 hz with rfl | hz
     ·exact h z (by simp)
     ·exact h3 z hz
    have hy:=h y (by simp);simp only [List.filter_cons];split<;>split<;>simp_all<;>omega
  rcases List.mem_cons.1 hk with rfl | hk
  ·simp only [List.filter_cons,h1,h2,Bool.false_eq_true,if_false,if_true,List.length_cons]; omega
  ·have:=jaj (l:=l) (fun z hz=>h z (by simp [hz])) hk h1 h2;have hy:=h x (by simp);simp only [List.filter_cons];split<;>split<;>simp_all<;>omega
theorem walk_in {M:List (List Nat)} {i j:Nat} (h:Walk M i j):i<M.length:=by
 obtain ⟨b,hb,_⟩:=h.first;refine Nat.lt_of_not_le fun hl => ?_
 simp only [List.getD_eq_getElem?_getD,List.getElem?_eq_none hl,Option.getD_none] at hb
 cases hb
theorem reachN_lt {M:List (List Nat)} (hin : ∀ r∈M, ∀ k∈r,k<M.length) (he : ∀ i<M.length,Ends M i) {i k:Nat} (hk:k∈M.getD i []):ZI M k<ZI M i:=by
 have hi:i<M.length:=walk_in (.one hk);have hkl:k<M.length:=by
  simp only [List.getD_eq_getElem?_getD,List.getElem?_eq_getElem hi,Option.getD_some] at hk;exact hin _ (List.getElem_mem hi) k hk
 refine jaj (k:=k) (fun j _ h => ?_) (List.mem_range.2 hkl) (decide_eq_false ((he k hkl).no_ring)) (decide_eq_true (.one hk));exact decide_eq_true ((of_decide_eq_true h).cons hk)
theorem reachN_le {M:List (List Nat)} (he : ∀ i<M.length,Ends M i) {i:Nat} (h0:0<M.length):ZI M i<M.length:=by
 by_cases hi:i<M.length
 ·have h1:((List.range M.length).filter fun _=>true).length=M.length:=by rw [List.filter_eq_self.2 (fun _ _=>rfl),List.length_range]
  unfold ZI;refine Nat.lt_of_lt_of_eq (jaj (q:=fun _=>true) (k:=i) (fun _ _ _=>rfl) (List.mem_range.2 hi) (decide_eq_false ((he i hi).no_ring)) rfl) h1
 ·have h1:ZI M i=0:=by
   unfold ZI;rw [List.length_eq_zero_iff,List.filter_eq_nil_iff];intro j _ h;exact hi (walk_in (of_decide_eq_true h))
  omega
theorem rank_ex {e:Env} {f:Fn} (h:check e f=true) : ∃ rk:Nat→Nat,(∀ i,rk i<256) ∧ ∀ i b,f.blocks[i]? = some b→tickB b=false → ∀ x∈b.term.to,rk x.to.toNat<rk i:=by
 obtain ⟨h1,ds,h2,h3,h4⟩:=check_spec h;simp only [shapeOk,Bool.and_eq_true,Bool.not_eq_true'] at h3;obtain ⟨⟨⟨⟨hr,h5⟩,h6⟩,h7⟩,h8⟩:=h3;have hok:=Go.Vw.G.right_ok hr;have hgl:(Go.Vw.G.nats (succs f.blocks)).length=f.blocks.length:=by simp [Go.Vw.G.nats,succs]
 rw [jaY (bs:=f.blocks) hgl (fun r hr k hk=>hok.elt r hr k hk)] at h6;have hml:=msk_len (bs:=f.blocks) hgl;have he : ∀ i<(msk f.blocks (Go.Vw.G.nats (succs f.blocks))).length,Ends (msk f.blocks (Go.Vw.G.nats (succs f.blocks))) i:=by
  have:=of_decide_eq_false h6;exact Classical.byContradiction this
 have hin : ∀ r∈msk f.blocks (Go.Vw.G.nats (succs f.blocks)), ∀ k∈r,k<(msk f.blocks (Go.Vw.G.nats (succs f.blocks))).length:=by
  intro r hr k hk;rw [hml, ←hgl];obtain ⟨i,hi,rfl⟩:=List.getElem_of_mem hr;simp only [msk,List.getElem_zipWith] at hk;split at hk
  ·cases hk
  ·exact hok.elt _ (List.getElem_mem _) k hk
 have hb:0<f.blocks.length∧f.blocks.length≤256:=by
  simp only [Go.Vw.G.right,Bool.and_eq_true,decide_eq_true_eq,succs,List.length_map] at hr;omega
 refine ⟨ZI (msk f.blocks (Go.Vw.G.nats (succs f.blocks))),fun i => ?_,fun i b hb ht x hx=>reachN_lt hin he ?_⟩
 ·have:=reachN_le he (i:=i) (by omega);omega
 ·have:(msk f.blocks (Go.Vw.G.nats (succs f.blocks)))[i]? = some ((rowOf b).map Int.toNat):=by
   simp [msk,List.getElem?_zipWith,Go.Vw.G.nats,succs,hb,ht]
  rw [List.getD_eq_getElem?_getD,this,Option.getD_some];exact List.mem_map.2 ⟨x.to,List.mem_map.2 ⟨x,hx,rfl⟩,rfl⟩
end Ss
