import Derived.Test.YtcpncecdegmliaaGreatC19
/- Part of the proof. -/
set_option linter.unusedVariables false
set_option linter.unusedSimpArgs false
set_option maxRecDepth 10000
set_option maxHeartbeats 4000000
/-
 The walk in depth ends, with a stack or without.
-/
namespace Go.Vw.G
open Go.Vw
theorem Wo {g:List (List Nat)} {f:Nat} (ih : ∀ n s t,walk g f n s=some t→walk g (f+1) n s=some t) : ∀ (l:List Nat) (s t:WS),kids g f l s=some t→kids g (f+1) l s=some t
 | [],s,t,h=>h
 | k::l,s,t,h=>by
  rw [kids_cons] at h ⊢;split
  ·rename_i hm; rw [if_pos hm] at h; exact Wo ih l s t h
  ·rename_i hm;rw [if_neg hm] at h;obtain ⟨u,h1,h2⟩:=Option.bind_eq_some_iff.1 h;rw [ih _ _ _ h1];exact Wo ih l u t h2
theorem walk_mono {g:List (List Nat)} : ∀ (f n:Nat) (s t:WS),walk g f n s=some t→walk g (f+1) n s=some t
 | 0,n,s,t,h=>by cases h
 | f+1,n,s,t,h=>by
  rw [walk_succ] at h ⊢;obtain ⟨u,h1,rfl⟩:=Option.map_eq_some_iff.1 h;rw [Wo (walk_mono f) _ _ _ h1]
  rfl
theorem kids_mono' {g:List (List Nat)} {f:Nat} {l:List Nat} {s t:WS} (h:kids g f l s=some t):kids g (f+1) l s=some t:=Wo (walk_mono f) l s t h
def unmet (m:List Bool):Nat:=m.count false
theorem unmet_set {m:List Bool} {n:Nat} (h:n<m.length) (hf:m[n]=false):unmet (m.set n true)+1=unmet m:=by
 unfold unmet
 induction m generalizing n with
 | nil=>simp at h
 | cons b m ih =>
  cases n with
  | zero=>simp at hf; subst hf; simp
  | succ n =>
   simp at h hf;have:=ih h hf;simp only [List.set_cons_succ,List.count_cons];omega
theorem jaa {g:List (List Nat)} {f:Nat} (ih : ∀ n (s:WS),n<g.length→s.1.length=g.length→s.1.getD n false=false→unmet s.1≤f → ∃ t,walk g f n s=some t∧t.2.length+unmet t.1=s.2.length+unmet s.1∧t.1.length=g.length∧unmet t.1≤unmet s.1) :
  ∀ (l:List Nat) (s:WS),(∀ k∈l,k<g.length)→s.1.length=g.length→unmet s.1≤f → ∃ t,kids g f l s=some t∧t.2.length+unmet t.1=s.2.length+unmet s.1∧t.1.length=g.length∧unmet t.1≤unmet s.1
 | [],s,_,hs,_=>⟨s,rfl,rfl,hs,Nat.le_refl _⟩
 | k::l,s,hl,hs,hu=>by
  rw [kids_cons]
  cases hm:s.1.getD k false with
  | true=>simpa using jaa ih l s (fun k hk=>hl k (List.mem_cons_of_mem _ hk)) hs hu
  | false =>
   obtain ⟨t,h1,h2,h3,h4⟩:=ih k s (hl k List.mem_cons_self) hs hm hu;obtain ⟨u,k1,k2,k3,k4⟩:=jaa ih l t (fun k hk=>hl k (List.mem_cons_of_mem _ hk)) h3 (by omega);exact ⟨u,by simp [h1,k1],by omega,k3,by omega⟩
theorem Zn {g:List (List Nat)} (hg:Ok g) : ∀ (f n:Nat) (s:WS),n<g.length→s.1.length=g.length→s.1.getD n false=false→unmet s.1≤f → ∃ t,walk g f n s=some t∧t.2.length+unmet t.1=s.2.length+unmet s.1∧t.1.length=g.length∧unmet t.1≤unmet s.1
 | 0,n,s,hn,hs,hm,hu=>by
  exfalso
  have hn':n<s.1.length:=by omega
  have:s.1[n]=false:=by simpa [hn'] using hm
  have:=unmet_set hn' this;omega
 | f+1,n,s,hn,hs,hm,hu=>by
  have hn':n<s.1.length:=by omega
  have hf:s.1[n]=false:=by simpa [hn'] using hm
  have hc:=unmet_set hn' hf;rw [walk_succ];obtain ⟨t,h1,h2,h3,h4⟩:=jaa (Zn hg f) (g.getD n []) (s.1.set n true,s.2) (by
   have:g.getD n []=g[n]:=by simp [hn]
   rw [this]; exact hg.elt _ (List.getElem_mem hn)) (by simpa using hs) (by simp only; omega)
  simp only at h2 h4;exact ⟨(t.1,t.2++[n]),by rw [h1]; rfl,by simp; omega,h3,by simp; omega⟩
theorem unmet_rep (n:Nat):unmet (List.replicate n false)=n:=by simp [unmet,List.count_replicate]
theorem order_ends {g:List (List Nat)} (hg:Ok g) : ∃ t,walk g g.length 0 (List.replicate g.length false,[])=some t∧t.2.length≤g.length∧t.1.length=g.length:=by
 obtain ⟨t,h1,h2,h3,_⟩:=Zn hg g.length 0 (List.replicate g.length false,[]) hg.pos (by simp) (by
  have:=hg.pos;simp [List.getElem?_replicate,Nat.lt_of_lt_of_le Nat.zero_lt_one this]) (by simp [unmet_rep])
 simp only [unmet_rep,List.length_nil] at h2;exact ⟨t,h1,by omega,h3⟩
def JR (g:List (List Nat)) (f:Nat) (next:List Nat):List Nat→WS→Option WS
 | [],s=>some s
 | n::r,s=>(kids g f ((g.getD n []).drop (next.getD n 0)) s).bind fun t=>JR g f next r (t.1,t.2++[n])
theorem WO {g:List (List Nat)} {f:Nat} {next:List Nat} {n k:Nat} : ∀ (r:List Nat) (s:WS),n∉r→JR g f (next.set n k) r s=JR g f next r s
 | [],s,_=>rfl
 | m::r,s,h=>by
  simp only [List.mem_cons,not_or] at h;simp only [JR];have e:(next.set n k).getD m 0=next.getD m 0:=by
   simp [List.getD_eq_getElem?_getD,List.getElem?_set_ne h.1]
  rw [e]
  congr 1
  funext t
  exact WO r _ h.2
structure At (g:List (List Nat)) (f:Nat) (fin:WS) (met:List Bool) (next stack out:List Nat):Prop where
 lm:met.length=g.length
 ln:next.length=g.length
 nd:stack.Nodup
 lt : ∀ n∈stack,n<g.length
 on : ∀ n∈stack,met.getD n false=true
 le : ∀ n,next.getD n 0≤(g.getD n []).length
 zero : ∀ n,met.getD n false=false→next.getD n 0=0
 go:JR g f next stack.reverse (met,out)=some fin
theorem At.start {g:List (List Nat)} (hg:Ok g) {f:Nat} {fin:WS} (h:walk g (f+1) 0 (List.replicate g.length false,[])=some fin) :
  At g f fin ((List.replicate g.length false).set 0 true) (List.replicate g.length 0) [0] []:=by
 have hp:=hg.pos;refine ⟨by simp,by simp,by simp,by simp; omega,by
  intro n hn;simp at hn; subst hn;have:0<(List.replicate g.length false).length:=by rw [List.length_replicate]; omega
  simp only [List.getD_eq_getElem?_getD,List.getElem?_set_self this,Option.getD_some],fun n => ?_,fun n _ => ?_, ?_⟩
 ·simp [List.getElem?_replicate]; split<;>simp
 ·simp [List.getElem?_replicate]; split<;>simp
 ·rw [walk_succ] at h;obtain ⟨t,h1,h2⟩:=Option.map_eq_some_iff.1 h;have e:(List.replicate g.length 0).getD 0 0=0:=by simp [List.getElem?_replicate]; split<;>simp
  simp only [List.reverse_cons,List.reverse_nil,List.nil_append,JR,e,List.drop_zero];rw [h1];simp [←h2]
section
variable {g:List (List Nat)} {f:Nat} {fin:WS} {met:List Bool} {next stack out:List Nat} {n:Nat}
theorem getD_set_self' {α:Type} {l:List α} {i:Nat} {a d:α} (h:i<l.length):(l.set i a).getD i d=a:=by simp [h]
theorem getD_set_other {α:Type} {l:List α} {i j:Nat} {a d:α} (h:i≠j):(l.set i a).getD j d=l.getD j d:=by
 simp [List.getElem?_set_ne h]
theorem At.seen (h:At g f fin met next (stack++[n]) out) (hk:next.getD n 0<(g.getD n []).length) (hm:met.getD ((g.getD n [])[next.getD n 0]) false=true):At g f fin met (next.set n (next.getD n 0+1)) (stack++[n]) out:=by
 have hn:n<g.length:=h.lt n (by simp);have hnn:n<next.length:=by rw [h.ln]; exact hn
 have hnot:n∉stack.reverse:=by
  have:=h.nd;rw [List.nodup_append] at this;intro hc;exact this.2.2 n (by simpa using hc) n (by simp) rfl
 refine ⟨h.lm,by simpa using h.ln,h.nd,h.lt,h.on,fun m => ?_,fun m hmm => ?_, ?_⟩
 ·by_cases e:n=m
  ·subst e; rw [getD_set_self' hnn]; omega
  ·rw [getD_set_other e]; exact h.le m
 ·by_cases e:n=m
  ·subst e; have:=h.on n (by simp); rw [hmm] at this; cases this
  ·rw [getD_set_other e]; exact h.zero m hmm
 ·have hgo:=h.go;rw [List.reverse_append] at hgo ⊢;simp only [List.reverse_cons,List.reverse_nil,List.nil_append,List.singleton_append,JR] at hgo ⊢;rw [getD_set_self' hnn];rw [List.drop_eq_getElem_cons hk,kids_cons,if_pos (by exact hm)] at hgo;rw [←hgo]
  congr 1
  funext t
  exact WO _ _ hnot
theorem At.push (h:At g f fin met next (stack++[n]) out) (hg:Ok g) (hk:next.getD n 0<(g.getD n []).length) {c:Nat} (hc:(g.getD n [])[next.getD n 0]=c) (hm:met.getD c false=false):At g f fin (met.set c true) (next.set n (next.getD n 0+1)) (stack++[n]++[c]) out:=by
 have hn:n<g.length:=h.lt n (by simp);have hnn:n<next.length:=by rw [h.ln]; exact hn
 have hcl:c<g.length:=by
  have e:g.getD n []=g[n]:=by simp [hn]
  rw [←hc];have:=hg.elt (g.getD n []) (by rw [e]; exact List.getElem_mem hn) _ (List.getElem_mem hk);exact this
 have hcm:c<met.length:=by rw [h.lm]; exact hcl
 have hcn:c∉stack++[n]:=fun hin=>by have:=h.on c hin; rw [hm] at this; cases this
 have hne:n≠c:=fun e=>hcn (by rw [←e]; simp)
 have hnot:n∉stack.reverse:=by
  have:=h.nd;rw [List.nodup_append] at this;intro hc;exact this.2.2 n (by simpa using hc) n (by simp) rfl
 refine ⟨by simpa using h.lm,by simpa using h.ln, ?_, ?_, ?_,fun m => ?_,fun m hmm => ?_, ?_⟩
 ·rw [List.nodup_append];exact ⟨h.nd,by simp,fun a ha b hb=>by simp at hb; subst hb; intro e; subst e; exact hcn ha⟩
 ·intro m hmm;rcases List.mem_append.1 hmm with hm1 | hm1
  ·exact h.lt m hm1
  ·simp at hm1; subst hm1; exact hcl
 ·intro m hmm
  by_cases e:c=m
  ·subst e; exact getD_set_self' hcm
  ·rw [getD_set_other e];rcases List.mem_append.1 hmm with hm1 | hm1
   ·exact h.on m hm1
   ·simp at hm1; exact absurd hm1.symm e
 ·by_cases e:n=m
  ·subst e; rw [getD_set_self' hnn]; omega
  ·rw [getD_set_other e]; exact h.le m
 ·have hmc:m≠c:=by
   intro e; subst e;rw [getD_set_self' hcm] at hmm; cases hmm
  rw [getD_set_other (Ne.symm hmc)] at hmm
  by_cases e:n=m
  ·subst e; have:=h.on n (by simp); rw [hmm] at this; cases this
  ·rw [getD_set_other e]; exact h.zero m hmm
 ·have hgo:=h.go;rw [List.reverse_append] at hgo ⊢;rw [List.reverse_append];simp only [List.reverse_cons,List.reverse_nil,List.nil_append,List.singleton_append,JR,List.cons_append] at hgo ⊢;rw [getD_set_self' hnn,getD_set_other hne,h.zero c hm,List.drop_zero];rw [List.drop_eq_getElem_cons hk,kids_cons,hc,if_neg (by simpa using hm)] at hgo;obtain ⟨t,h1,h2⟩:=Option.bind_eq_some_iff.1 hgo;obtain ⟨u,h3,h4⟩:=Option.bind_eq_some_iff.1 h1
  cases f with
  | zero=>cases h3
  | succ f =>
   rw [walk_succ] at h3;obtain ⟨v,h5,h6⟩:=Option.map_eq_some_iff.1 h3;simp only at h5;rw [kids_mono' h5];subst h6;simp only [Option.bind_some];rw [h4];simp only [Option.bind_some];rw [WO _ _ hnot];exact h2
theorem At.pop (h:At g f fin met next (stack++[n]) out) (hk : ¬ next.getD n 0<(g.getD n []).length):At g f fin met next stack (out++[n]):=by
 refine ⟨h.lm,h.ln,(List.nodup_append.1 h.nd).1,fun m hm=>h.lt m (by simp [hm]),fun m hm=>h.on m (by simp [hm]),h.le,h.zero, ?_⟩;have hgo:=h.go;rw [List.reverse_append] at hgo;simp only [List.reverse_cons,List.reverse_nil,List.nil_append,List.singleton_append,JR] at hgo;rw [List.drop_eq_nil_of_le (by omega),kids_nil] at hgo;exact hgo
theorem At.done (h:At g f fin met next [] out):fin=(met,out):=by
 have:=h.go;simp only [List.reverse_nil,JR,Option.some.injEq] at this;exact this.symm
theorem At.seen' (h:At g f fin met next (stack++[n]) out) {row:List Nat} {k c:Nat} (hrow:g[n]? = some row) (hk:next[n]? = some k) (hc:row[k]? = some c) (hm:met[c]? = some true):At g f fin met (next.set n (k+1)) (stack++[n]) out:=by
 have ek:next.getD n 0=k:=by simp [List.getD_eq_getElem?_getD,hk]
 have er:g.getD n []=row:=by simp [List.getD_eq_getElem?_getD,hrow]
 have hlt:=(List.getElem?_eq_some_iff.1 hc)
 have:=h.seen;subst ek; subst er;exact this hlt.1 (by rw [hlt.2]; simp [hm])
theorem At.push' (h:At g f fin met next (stack++[n]) out) (hg:Ok g) {row:List Nat} {k c:Nat} (hrow:g[n]? = some row) (hk:next[n]? = some k) (hc:row[k]? = some c) (hm:met[c]? = some false):At g f fin (met.set c true) (next.set n (k+1)) (stack++[n]++[c]) out:=by
 have ek:next.getD n 0=k:=by simp [List.getD_eq_getElem?_getD,hk]
 have er:g.getD n []=row:=by simp [List.getD_eq_getElem?_getD,hrow]
 have hlt:=(List.getElem?_eq_some_iff.1 hc)
 subst ek; subst er;exact h.push hg hlt.1 hlt.2 (by simp [hm])
theorem At.pop' (h:At g f fin met next (stack++[n]) out) {row:List Nat} {k:Nat} (hrow:g[n]? = some row) (hk:next[n]? = some k) (hge : ¬ k<row.length):At g f fin met next stack (out++[n]):=by
 have ek:next.getD n 0=k:=by simp [List.getD_eq_getElem?_getD,hk]
 have er:g.getD n []=row:=by simp [List.getD_eq_getElem?_getD,hrow]
 exact h.pop (by rw [ek,er]; exact hge)
theorem jbc : ∀ (r:List Nat) (s t:WS),JR g f next r s=some t→s.2.length+r.length≤t.2.length
 | [],s,t,h=>by cases h; simp
 | m::r,s,t,h=>by
  simp only [JR] at h;obtain ⟨u,h1,h2⟩:=Option.bind_eq_some_iff.1 h;have a:=(kids_len (walk_len g f) _ _ _ h1).1;have b:=jbc r _ _ h2;simp at b ⊢;omega
theorem At.out_le (h:At g f fin met next stack out):out.length+stack.length≤fin.2.length:=by
 have:=jbc _ _ _ h.go;simpa using this
end
def zM (g:List (List Nat)) (m:List Bool):List Bool:=((walk g g.length 0 (m,[])).getD (m,[])).1
def without (g:List (List Nat)):Option Nat→List Bool
 | none=>zM g (List.replicate g.length false)
 | some a=>if a=0 then List.replicate g.length false else (zM g ((List.replicate g.length false).set a true)).set a false
theorem metFrom_ends {g:List (List Nat)} (hg:Ok g) {m:List Bool} (hm:m.length=g.length) (h0:m.getD 0 false=false) : ∃ t,walk g g.length 0 (m,[])=some t∧zM g m=t.1∧t.2.length≤g.length∧t.1.length=g.length:=by
 have hu:unmet m≤g.length:=by rw [←hm]; exact List.count_le_length
 obtain ⟨t,h1,h2,h3,_⟩:=Zn hg g.length 0 (m,[]) hg.pos hm h0 hu;exact ⟨t,h1,by simp [zM,h1],by simp at h2; omega,h3⟩
theorem Jl {g:List (List Nat)} (hg:Ok g) {m:List Bool} (hm:m.length=g.length) (h0:m.getD 0 false=false):(zM g m).length=g.length:=by
 obtain ⟨t,h1,h2,h3,h4⟩:=metFrom_ends hg hm h0;rw [h2]; exact h4
theorem rep_getD (n k:Nat):(List.replicate n false).getD k false=false:=by
 simp [List.getElem?_replicate]; split<;>rfl
theorem without_length {g:List (List Nat)} (hg:Ok g) (a:Option Nat):(without g a).length=g.length:=by
 cases a with
 | none=>exact Jl hg (by simp) (rep_getD _ _)
 | some a =>
  simp only [without];split
  ·simp
  ·rename_i h;rw [List.length_set];exact Jl hg (by simp) (by rw [getD_set_other h]; exact rep_getD _ _)
def order (g:List (List Nat)):List Nat:=((walk g g.length 0 (List.replicate g.length false,[])).getD ([],[])).2.reverse
def tableRow (g:List (List Nat)) (a:Nat):List Bool :=
 if (without g none).getD a false then (List.range g.length).map fun b=>(without g none).getD b false && !((without g (some a)).getD b false) else List.replicate g.length false
def table (g:List (List Nat)):List (List Bool):=(List.range g.length).map (tableRow g)
def tabAt (t:List (List Bool)) (a b:Nat):Bool:=(t.getD a []).getD b false
def cntTo (t:List (List Bool)) (a:Nat):Nat→Nat
 | 0=>0
 | c+1=>if tabAt t c a then cntTo t a c+1 else cntTo t a c
def bestTo (t:List (List Bool)) (n b:Nat):Nat→Int × Nat
 | 0=>(-1,0)
 | a+1=>if a≠b∧tabAt t a b=true∧(bestTo t n b a).2<cntTo t a n then ((a:Int),cntTo t a n) else bestTo t n b a
def rNear (g:List (List Nat)):List Int:=(List.range g.length).map fun b=>(bestTo (table g) g.length b g.length).1
theorem cntTo_le (t:List (List Bool)) (a:Nat) : ∀ c,cntTo t a c≤c
 | 0=>Nat.le_refl _
 | c+1=>by have:=cntTo_le t a c; simp only [cntTo]; split<;>omega
theorem tableRow_length (g:List (List Nat)) (a:Nat):(tableRow g a).length=g.length:=by simp only [tableRow]; split<;>simp
end Go.Vw.G
namespace Go.Vw
open Go.Proofs Go.RowKit
attribute [-simp] List.map_set
theorem u64_bits:IntKind.u64.bits=64:=nr rfl
theorem mask_small {n:Nat} (h:n<4294967296):n % 18446744073709551616 &&& 4294967295=n:=by
 have e:n % 18446744073709551616=n:=by omega
 rw [e];have:=Nat.and_two_pow_sub_one_eq_mod n 32;rw [show (4294967295:Nat)=2^32-1 from rfl,this];exact Nat.mod_eq_of_lt h
theorem u64_wrap {n:Nat} (h:n<4294967296):IntKind.u64.wrap (n:Int)=n:=by
 have e:IntKind.u64.wrap (n:Int)=(n:Int) % 18446744073709551616:=rfl;rw [e]; omega
theorem shr_small {n:Nat} (h:n<4294967296):Int.fdiv (n:Int) 4294967296=0:=by
 rw [Int.fdiv_eq_ediv_of_nonneg _ (by omega)]; omega
theorem Mul64_v (n:Nat) (h:n<4294967296):VPure Tryz.prog 116 [.int .u64 1, .int .u64 (n:Int)] (.tuple [.int .u64 0, .int .u64 (n:Int)]):=by
 intro S;refine QB (c:=jc Tryz.f116) Tryz.func116 Tryz.ntmps116 fun hwf=>?_
 have h1:=mask_small h;have h2:=u64_wrap h;have h3:=shr_small h;have h4:IntKind.u64.wrap 0=0:=by decide
 have h5:IntKind.u64.wrap 1=1:=by decide
 have h6:Int.fdiv 1 4294967296=0:=by decide
 have h7:Int.fdiv 0 4294967296=0:=by decide
 repeat first|refine QG ?_|refine QY ?_ (r:=by conv=>lhs;simp[QV,u64_bits,h1,h2,h3,h4,h5,h6,h7])
 exact ja (l:=[]) hwf (by simp [resV,Fr.look]) rfl
theorem Mul_v (n:Nat) (h:n<4294967296):VPure Tryz.prog 97 [.int .u64 1, .int .u64 (n:Int)] (.tuple [.int .u64 0, .int .u64 (n:Int)]):=by
 intro S;refine QB (c:=jc Tryz.f97) Tryz.func97 Tryz.ntmps97 fun hwf=>?_
 repeat first|refine QG ?_|refine QY ?_
 refine QT ?_;refine QP ?_;refine jb rfl (Mul64_v n h) ?_;refine QW ?_
 repeat first|refine QG ?_|refine QY ?_
 exact ja (l:=[]) hwf (by simp [resV,Fr.look]) rfl
def zw (v:Int) (n m:Nat):List V:=List.replicate m (.int .i64 v)++List.replicate (n-m) (.int .i64 0)
theorem rcells_len {v:Int} {n m:Nat} (h:m≤n):(zw v n m).length=n:=by simp [zw]; omega
theorem rcells_step {v:Int} {n m:Nat} (h:m≤n):jT (zw v n m) m ((((zw v n m).drop 0).take (m*1)).take (min m (n-m)*1))=zw v n (m+min m (n-m)):=by
 have e1:(((zw v n m).drop 0).take (m*1)).take (min m (n-m)*1)=List.replicate (min m (n-m)) (V.int .i64 v):=by
  rw [List.drop_zero,Nat.mul_one,Nat.mul_one,zw,List.take_left' (by simp)];rw [List.take_replicate]; congr 1; omega
 rw [e1,jT,List.length_replicate,zw,List.take_left' (by simp)];rw [List.drop_append,List.drop_eq_nil_of_le (by simp),List.length_replicate];simp only [List.nil_append,List.drop_replicate,zw];rw [List.replicate_append_replicate]
 congr 2; omega
theorem Repeat_v (S:Store) (o:Nat) (v:Int) (n:Nat) (hn:1≤n) (hn2:n≤65536) (ho:S.get o=some (1,[.int .i64 v])) :
  VCalls Tryz.prog 67 [.slice o 0 1,vnat n] S (fun r S'=>r = .slice S.nx 0 n∧S'=S.add (1,List.replicate n (.int .i64 v))):=by
 refine QB (c:=jc Tryz.f67) Tryz.func67 Tryz.ntmps67 fun hwf=>?_
 have hon:o<S.nx:=by
  rcases Nat.lt_or_ge o S.nx with h | h
  ·exact h
  ·rw [hwf.gone o h] at ho; cases ho
 have hold:=fun u l => @jm S u l o hon
 have h2:=u64_wrap (n:=n) (by omega);have h5:IntKind.u64.wrap 1=1:=by decide
 have h6 : ¬ (9223372036854775807:Int)<(n:Int):=by omega
 have hw:IntKind.i64.wrap (n:Int)=n:=wrap_i64 (by omega) (by omega);have hb8:n*8≤140737488355328:=by omega
 have hb0:n≤140737488355328:=by omega
 have hmin:min 1 n=1:=by omega
 repeat first|refine QG ?_|refine QY ?_ (r:=by conv=>lhs;simp[QV,hold,ho,h2,h5])
 refine QT ?_;refine QP ?_ (r:=by conv=>lhs;simp[QV,hold,ho,h2,h5]);refine jb rfl (Mul_v n (by omega)) ?_;refine QW ?_
 repeat first|refine QG ?_|refine QY ?_ (r:=by conv=>lhs;simp[QV,h6,hw,hb8,hb0,hold,ho,hmin,ZQ,jL])
 refine QT ?_;refine jd [7,8] rfl (fun c σ S' => ∃ m:Nat,1≤m∧m≤n∧c=n-m∧σ=[(7, .slice (lid S.nx 0) 0 n),(8,vnat m)]∧S'=St S [] [some (1,zw v n m)]) (n-1) ?_ ?_
 ·refine ⟨1,by omega,hn,rfl,by simp [Fr.only,Fr.look,vnat], ?_⟩;have e:n=(n-1)+1:=by omega
  rw [zw];simp [List.drop_replicate]
 ·rintro c σ T ⟨m,hm1,hm2,rfl,rfl,rfl⟩;have hlen:=rcells_len (v:=v) hm2
  by_cases hlt:m<n
  ·have hml:m≤n:=by omega
   have hcp:ZQ 1 (St S [] [some (1,zw v n m)]) (.slice (lid S.nx 0) m (n-m)) (.slice (lid S.nx 0) 0 m)=some (.int .i64 (min m (n-m):Nat),St S [] [some (1,zw v n (m+min m (n-m)))]):=by
    have e1:jL 1 (St S [] [some (1,zw v n m)]) (.slice (lid S.nx 0) 0 m)=some (((zw v n m).drop 0).take (m*1),m):=by
     simp only [jL,ju,List.getElem?_cons_zero,Option.join_some];rw [if_pos (by omega)]
    simp only [ZQ,e1,ju,List.getElem?_cons_zero,Option.join_some];rw [if_pos (by omega),rcells_step hm2,Jy (by simp)]
    rfl
   have hw2:IntKind.i64.wrap ((m:Int)+(min m (n-m):Nat))=((m+min m (n-m):Nat):Int):=by
    rw [wrap_i64 (by omega) (by omega)]; omega
   repeat first|refine QG ?_|refine QY ?_ (r:=by conv=>lhs;simp[QV,hlt])
   refine QT ?_;refine QJ (St S [] [none]) (St S [] [some (1,zw v n m)]) [] ?_ (r:=by conv=>lhs; simp [QV,hml]);refine QI ?_ (r:=by conv=>lhs;simp[QV,hcp]);refine QW ?_;show jy _ _ _ _ _ _ _;exact again ⟨(by omega:n-(m+min m (n-m))<n-m),m+min m (n-m),by omega,by omega,rfl,by rw [hw2]; simp [Fr.only,Fr.look,vnat],rfl⟩
  ·have hmn:m=n:=by omega
   subst hmn
   repeat first|refine QG ?_|refine QY ?_ (r:=by conv=>lhs;simp[QV,hlt])
   refine ⟨.slice S.nx 0 m,_, ?_,rfl,rfl⟩;have e:St S [] [some (1,zw v m m)]=S.add (1,List.replicate m (.int .i64 v)):=by
    have := @jaD S [] [] (1,List.replicate m (.int .i64 v));rw [qB hwf] at this;rw [this]; simp [zw]
   rw [←e];have:lid S.nx 0=S.nx:=rfl;rw [←this];exact GhostB.refl _ _ _
end Go.Vw
/-
 What goes to each node.
-/
namespace Go.Vw.G
open Go.Vw
def push (rows:List (List Nat)) (k i:Nat):List (List Nat):=rows.set k (rows.getD k []++[i])
def edges:List (List Nat)→Nat→List (Nat × Nat)
 | [],_=>[]
 | l::r,i=>l.map (·,i)++edges r (i+1)
def pushAll (rows:List (List Nat)) (es:List (Nat × Nat)):List (List Nat):=es.foldl (fun rows e=>push rows e.1 e.2) rows
def froms (g:List (List Nat)):List (List Nat):=pushAll (List.replicate g.length []) (edges g 0)
theorem push_length (rows:List (List Nat)) (k i:Nat):(push rows k i).length=rows.length:=by simp [push]
theorem KD : ∀ (es:List (Nat × Nat)) (rows:List (List Nat)),(pushAll rows es).length=rows.length
 | [],_=>rfl
 | e::es,rows=>by
  have:=KD es (push rows e.1 e.2);simpa [pushAll,push_length] using this
theorem pushAll_cons (rows:List (List Nat)) (k i:Nat) (es:List (Nat × Nat)):pushAll rows ((k,i)::es)=pushAll (push rows k i) es:=rfl
theorem froms_length (g:List (List Nat)):(froms g).length=g.length:=by simp [froms,KD]
theorem edges_drop (g:List (List Nat)) {i:Nat} (h:i<g.length):edges (g.drop i) i=g[i].map (·,i)++edges (g.drop (i+1)) (i+1):=by
 rw [List.drop_eq_getElem_cons h,edges]
theorem map_drop {l:List Nat} {k i:Nat} (h:k<l.length):(l.drop k).map (fun c=>(c,i))=(l[k],i)::(l.drop (k+1)).map (fun c=>(c,i)):=by
 rw [List.drop_eq_getElem_cons h]; rfl
def total (rows:List (List Nat)):Nat:=(rows.map List.length).sum
theorem total_set : ∀ (rows:List (List Nat)) (k:Nat) (r:List Nat),k<rows.length→total (rows.set k r)+(rows.getD k []).length=total rows+r.length
 | [],_,_,h=>by simp at h
 | x::xs,0,r,_=>by simp [total]; omega
 | x::xs,k+1,r,h=>by
  have:=total_set xs k r (by simpa using h);simp [total] at this ⊢; omega
theorem total_push {rows:List (List Nat)} {k i:Nat} (h:k<rows.length):total (push rows k i)=total rows+1:=by
 have:=total_set rows k (rows.getD k []++[i]) h;simp only [push,List.length_append,List.length_cons,List.length_nil] at this ⊢;omega
theorem row_le_total : ∀ (rows:List (List Nat)) (k:Nat),(rows.getD k []).length≤total rows
 | [],_=>by simp
 | x::xs,0=>by simp [total]
 | x::xs,k+1=>by
  have:=row_le_total xs k;simp [total] at this ⊢; omega
theorem total_rep (n:Nat):total (List.replicate n [])=0:=by
 induction n with
 | zero=>rfl
 | succ n ih=>simp [total,List.replicate_succ]
theorem edges_len {g:List (List Nat)} (h : ∀ l∈g,l.length≤128) : ∀ i,(edges g i).length≤128*g.length:=by
 induction g with
 | nil=>simp [edges]
 | cons l g ih =>
  intro i;have h1:=h l List.mem_cons_self;have h2:=ih (fun l hl=>h l (List.mem_cons_of_mem _ hl)) (i+1);simp [edges] at h2 ⊢; omega
end Go.Vw.G
/-
 The nearest dominators, turn by turn.
-/
namespace Go.Vw.G
open Go.Vw
def rankTo (n:Nat) (l:List Nat):Nat→List Nat
 | 0=>List.replicate n 0
 | k+1=>(rankTo n l k).set (l.getD k 0) k
theorem rankTo_len (n:Nat) (l:List Nat) : ∀ k,(rankTo n l k).length=n
 | 0=>by simp [rankTo]
 | k+1=>by simp [rankTo,rankTo_len n l k]
def meetF (rank:List Nat) (near:List Int):Nat→Int→Int→Option Int
 | 0,_,_=>none
 | f+1,a,b=>if a=b then some a else if 0≤a∧a<near.length∧0≤b∧b<near.length then
   (if rank.getD b.toNat 0<rank.getD a.toNat 0 then meetF rank near f (near.getD a.toNat 0) b else meetF rank near f a (near.getD b.toNat 0))
  else none
def pickF (rank:List Nat) (near:List Int) (F:Nat):List Nat→Int→Option Int
 | [],best=>some best
 | p::ps,best=>if near.getD p 0<0 then pickF rank near F ps best else if best<0 then pickF rank near F ps p else (meetF rank near F best p).bind (pickF rank near F ps)
def sweepF (rank:List Nat) (fr:List (List Nat)) (F:Nat):List Nat→List Int→Bool→Option (List Int × Bool)
 | [],near,t=>some (near,t)
 | n::ns,near,t=>(pickF rank near F (fr.getD n []) (-1)).bind fun b=>sweepF rank fr F ns (near.set n b) (t||decide (near.getD n 0≠b))
def chk (rank:List Nat) (fr:List (List Nat)) (F:Nat) (l:List Nat):Nat→List Int→Option (List Int)
 | 0,_=>none
 | f+1,near=>(sweepF rank fr F l near false).bind fun s=>if s.2 then chk rank fr F l f s.1 else some s.1
end Go.Vw.G
namespace Go.Vw
open Go.Proofs Go.RowKit
attribute [-simp] List.map_set
def Turned (xs ys:List Nat) (i:Nat):Prop := ∀ p,p<xs.length→ys[p]? = if p<i∨xs.length<p+i+1 then xs[xs.length-1-p]? else xs[p]?
theorem Turned.swap {xs ys:List Nat} {i j a b:Nat} (hl:ys.length=xs.length) (hij:i+j+1=xs.length) (hlt:i<j) (h:Turned xs ys i) (ha:ys[i]? = some a) (hb:ys[j]? = some b):Turned xs ((ys.set i b).set j a) (i+1):=by
 intro p hp;have hi:=h i (by omega);have hj:=h j (by omega);rw [if_neg (by omega)] at hi hj;have e1:xs.length-1-i=j:=by omega
 have e2:xs.length-1-j=i:=by omega
 rw [List.getElem?_set]
 by_cases h1:j=p
 ·subst h1;rw [if_pos rfl,if_pos (by simp; omega),if_pos (by omega),e2, ←hi,ha]
 ·rw [if_neg h1,List.getElem?_set]
  by_cases h2:i=p
  ·subst h2;rw [if_pos rfl,if_pos (by omega),if_pos (by omega),e1, ←hj,hb]
  ·rw [if_neg h2,h p hp]
   by_cases h3:p<i∨xs.length<p+i+1
   ·rw [if_pos h3,if_pos (by omega)]
   ·rw [if_neg h3,if_neg (by omega)]
theorem Turned.done {xs ys:List Nat} {i:Nat} (hl:ys.length=xs.length) (h:Turned xs ys i) (hi:xs.length≤2*i+1):ys=xs.reverse:=by
 refine List.ext_getElem? fun p => ?_
 by_cases hp:p<xs.length
 ·rw [List.getElem?_reverse hp,h p hp];split
  ·rfl
  ·have:xs.length-1-p=p:=by omega
   rw [this]
 ·rw [List.getElem?_eq_none (by omega),List.getElem?_eq_none (by simp; omega)]
theorem Reverse_v (S:Store) (o:Nat) (xs:List Nat) (hx:xs.length<2^40) (ho:S.get o=some (1,xs.map vnat)) :
  VCalls Tryz.prog 96 [.slice o 0 xs.length] S (fun r S'=>r = .tuple []∧S'=S.upd o (1,xs.reverse.map vnat)):=by
 refine QB (c:=jc Tryz.f96) Tryz.func96 Tryz.ntmps96 fun hwf=>?_
 have hon:o<S.nx:=by
  rcases Nat.lt_or_ge o S.nx with h | h
  ·exact h
  ·rw [hwf.gone o h] at ho; cases ho
 have hold:=fun u => @jm S u [] o hon
 have hupd:=fun u c => @qN S u [] c o hon
 rw [JM ho];have hw:IntKind.i64.wrap ((xs.length:Int)-1)=(xs.length:Int)-1:=wrap_i64 (by omega) (by omega)
 repeat first|refine QG ?_|refine QY ?_ (r:=by conv=>lhs;simp[QV,hold,hw])
 refine QT ?_;refine jd [0,2,3] rfl (fun c σ S' => ∃ (i:Nat) (ys:List Nat),ys.length=xs.length∧i≤xs.length∧c=xs.length-i∧Turned xs ys i∧σ=[(0, .slice o 0 xs.length),(2,vnat i),(3,vint (xs.length-1-i))]∧S'=St S [(o,some (1,ys.map vnat))] []) xs.length ?_ ?_
 ·refine ⟨0,xs,rfl,by omega,rfl, ?_,by simp [Fr.only,Fr.look,vnat,vint],rfl⟩;intro p hp;rw [if_neg (by omega)]
 ·rintro c σ S' ⟨i,ys,hl,hi,rfl,hT,rfl,rfl⟩
  by_cases hlt:(i:Int)<(xs.length:Int)-1-i
  ·obtain ⟨j,hj⟩ : ∃ j:Nat,(xs.length:Int)-1-i=j:=⟨xs.length-1-i,by omega⟩
   rw [hj] at hlt ⊢;have hij:i<j:=by omega
   have hil:i<xs.length:=by omega
   have hjl:j<xs.length:=by omega
   have hiy:i<ys.length:=by omega
   have hjy:j<ys.length:=by omega
   have hw1:IntKind.i64.wrap ((i:Int)+1)=(i:Int)+1:=wrap_i64 (by omega) (by omega);have hw2:IntKind.i64.wrap ((j:Int)-1)=(j:Int)-1:=wrap_i64 (by omega) (by omega)
   repeat first|refine QG ?_|refine QY ?_ (r:=by conv=>lhs;simp[QV,hold,hij])
   refine QT ?_;refine QJ ((St S [(o,none)] [])) ((St S [(o,some (1,ys.map vnat))] [])) [21,25] ?_ (r:=by conv=>lhs; simp [QV,hold,hil,hjl,hiy,hjy]);refine QI ?_ (r:=by conv=>lhs;simp[QV,hold,hil,hjl,hiy,hjy,hupd]);refine QM (by conv=>lhs;simp[QV,hold,hil,hjl,hiy,hjy]) ?_;refine QI ?_ (r:=by conv=>lhs;simp[QV,hold,hil,hjl,hiy,hjy,hupd]);refine QN ?_
   repeat first|refine QG ?_|refine QY ?_ (r:=by conv=>lhs;simp[QV,hw1,hw2])
   exact again ⟨Nat.sub_lt_sub_left hil (Nat.lt_succ_self i),i+1,(ys.set i ys[j]).set j ys[i],by simp [hl],by omega,rfl,hT.swap hl (by omega) hij (by simp [hiy]) (by simp [hjy]),by simp [Fr.only,Fr.look,vnat,vint]; omega,by simp [vnat]⟩
  ·have hlt' : ¬ ((i:Int)<(xs.length:Int)-1-i):=hlt
   repeat first|refine QG ?_|refine QY ?_ (r:=by conv=>lhs;simp[QV,hlt'])
   have:=hT.done hl (by omega);refine zi hwf rfl rfl (by simp [JI,jag,jae]) ?_ ⟨rfl,rfl⟩;simp only [gcU,gcE,Option.map_some,ZE,this];exact jaC hwf hon
theorem gOrder_v (g:List (List Nat)) (hg:G.Ok g) (f:Nat) (fin:G.WS) (hw:G.walk g (f+1) 0 (List.replicate g.length false,[])=some fin) (hs:fin.2.length≤2^30) :
  VPure Tryz.prog 65 [vl (vl vnat) g] (vl vnat fin.2.reverse):=by
 intro S;refine QB (c:=jc Tryz.f65) Tryz.func65 Tryz.ntmps65 fun hwf=>?_
 have hp:0<g.length:=hg.pos;have hm256:=hg.max;have hb1:g.length*1≤140737488355328:=by omega
 have hb8:g.length*8≤140737488355328:=by omega
 have hb0:g.length≤140737488355328:=by omega
 repeat first|refine QG ?_|refine QY ?_ (r:=by conv=>lhs;simp[QV,hp,hb1,hb8,hb0])
 refine zy 6 1 rfl (by conv=>lhs; simp [Fr.set]) ?_
 repeat first|refine QG ?_|refine QY ?_
 refine QT ?_;refine jd [0,3,4,5,6] rfl (fun c σ S' => ∃ met next stack out,G.At g f fin met next stack out∧c=2*G.unmet met+stack.length∧σ=[(0,vl (vl vnat) g),(3, .slice (lid S.nx 0) 0 g.length),(4, .slice (lid S.nx 1) 0 g.length),(5, .slice (lid S.nx 2) 0 stack.length),(6, .slice (lid S.nx 3) 0 out.length)]∧S'=St S [] [some (1,met.map V.bool),some (1,next.map vnat),some (1,stack.map vnat),some (1,out.map vnat)]) (2*G.unmet ((List.replicate g.length false).set 0 true)+1) ?_ ?_
 ·exact ⟨_,_,_,_,G.At.start hg hw,rfl,by simp [Fr.only,Fr.look],by simp [List.map_set,vnat]⟩
 ·rintro c σ S' ⟨met,next,stack,out,hA,rfl,rfl,rfl⟩;rcases List.eq_nil_or_concat stack with rfl | ⟨stack,n,rfl⟩
  ·repeat first|refine QG ?_|refine QY ?_
   refine QT ?_;refine QP ?_;refine jO rfl (Reverse_v _ (lid S.nx 3) out ?_ ?_) ?_
   ·have:=hA.out_le; omega
   ·simp [ju]
   rintro X S2 ⟨rfl,rfl⟩;rw [Jy (by simp)];refine QW ?_
   repeat first|refine QG ?_|refine QY ?_
   have:=hA.done; subst this;exact jf (l:=[_,_,_,none]) hwf ((frz1 (by simp) (by simp) (by simp [vnat,V.closed1]) (by simp)).toB _) rfl
  ·rw [List.concat_eq_append] at hA ⊢;have hlen:(stack++[n]).length=stack.length+1:=by simp
   have hn:n<g.length:=hA.lt n (by simp);have hw1:IntKind.i64.wrap ((stack.length:Int)+1-1)=(stack.length:Int):=by
    rw [wrap_i64 (by have:=hA.out_le; simp at this; omega) (by have:=hA.out_le; simp at this; omega)]; omega
   have hsl:=hA.out_le;have hw2:IntKind.i64.wrap (stack.length:Int)=(stack.length:Int):=wrap_i64 (by omega) (by simp at hsl; omega);have h0:(0:Int)<(stack.length:Int)+1:=by omega
   have h1:(stack.length:Int)<(stack.length:Int)+1:=by omega
   repeat first|refine QG ?_|refine QY ?_ (r:=by conv=>lhs;simp[QV,hw1,hw2,h0,h1])
   refine QT ?_;refine jd [0,3,4,5,6,7] rfl (fun c σ S' => ∃ next',G.At g f fin met next' (stack++[n]) out∧c=(g.getD n []).length-next'.getD n 0∧σ=[(0,vl (vl vnat) g),(3, .slice (lid S.nx 0) 0 g.length),(4, .slice (lid S.nx 1) 0 g.length),(5, .slice (lid S.nx 2) 0 (stack.length+1)),(6, .slice (lid S.nx 3) 0 out.length),(7,vnat n)]∧S'=St S [] [some (1,met.map V.bool),some (1,next'.map vnat),some (1,(stack++[n]).map vnat),some (1,out.map vnat)]) ((g.getD n []).length-next.getD n 0) ?_ ?_
   ·exact ⟨next,hA,rfl,by simp [Fr.only,Fr.look,vnat],by simp [vnat]⟩
   ·rintro c σ S' ⟨nx,hB,rfl,rfl,rfl⟩;have hrow:g[n]? = some g[n]:=by simp [hn]
    have hkn:n<nx.length:=by rw [hB.ln]; exact hn
    obtain ⟨k,hke⟩ : ∃ k,nx[n]=k:=⟨_,rfl⟩
    have hk:nx[n]? = some k:=by simp [hkn,hke]
    have ek:nx.getD n 0=k:=by simp [List.getD_eq_getElem?_getD,hk]
    have er:g.getD n []=g[n]:=by simp [hn]
    have hrm:g[n]∈g:=List.getElem_mem hn;have hr128:=hg.row _ hrm
    by_cases hlt:k<g[n].length
    ·have hc:g[n][k]? = some g[n][k]:=by simp [hlt]
     have hcl:g[n][k]<g.length:=hg.elt _ hrm _ (List.getElem_mem hlt);have hcm:g[n][k]<met.length:=by rw [hB.lm]; exact hcl
     obtain ⟨b,hbe⟩ : ∃ b,met[g[n][k]]=b:=⟨_,rfl⟩
     have hb:met[g[n][k]]? = some b:=by simp [hcm,hbe]
     have hwk:IntKind.i64.wrap ((k:Int)+1)=(k:Int)+1:=wrap_i64 (by omega) (by omega);have hset:(nx.set n (k+1)).getD n 0=k+1:=G.getD_set_self' hkn
     cases b with
     | true =>
      repeat first|refine QG ?_|refine QY ?_ (r:=by conv=>lhs;simp[QV,hn,hke,hlt,hcl,hbe,hwk,hkn,hcm])
      have:=hB.seen' hrow hk hc hb;show jy _ _ _ _ _ _ _;exact again ⟨by rw [hset,ek,er]; omega,_,this,rfl,by simp [Fr.only,Fr.look,vnat],by simp [vnat]⟩
     | false =>
      have hP:=hB.push' hg hrow hk hc hb;have hPl:=hP.out_le;simp only [List.length_append,List.length_cons,List.length_nil] at hPl;have hc8:(stack.length+1+1)*8≤140737488355328:=by omega
      have hc1:stack.length+1+1≤140737488355328:=by omega
      have hu:=G.unmet_set hcm hbe
      repeat first|refine QG ?_|refine QY ?_ (r:=by conv=>lhs;simp[QV,hn,hke,hlt,hcl,hbe,hwk,hkn,hcm,hc8,hc1])
      refine QA [0,1,5,3] (h:=⟨?_,_,_,_,_,hP,rfl,by simp [vnat],by simp [vnat]⟩);simp; omega
    ·refine QT ?_;refine QD (r:=by conv=>lhs;simp[QV,hn,hkn,hke,hlt]) (k:=?_);refine QN ?_;refine QT ?_;refine jH rfl rfl rfl ?_;refine QT ?_;refine jW 2 rfl rfl ?_;have hle:(stack.length:Int)≤(stack.length:Int)+1:=by omega
     refine QT ?_;refine QY ?_ (r:=by conv=>lhs;simp[QV,hw1,hw2,h0,h1,hle]);refine vw_trim 5 stack.length rfl (by simp) rfl (by conv=>lhs; simp [List.set_cons_zero,List.set_cons_succ]) ?_;have hP:=hB.pop' hrow hk hlt;have hPl:=hP.out_le;simp only [List.length_append,List.length_cons,List.length_nil] at hPl;have hc8:(out.length+1)*8≤140737488355328:=by omega
     have hc1:out.length+1≤140737488355328:=by omega
     repeat first|refine QG ?_|refine QY ?_ (r:=by conv=>lhs;simp[QV,hc8,hc1])
     refine QA [0,1,2,5] (h:=⟨?_,_,_,_,_,hP,rfl,by simp [vnat],by simp [vnat]⟩);simp
theorem wild_v (g:List (List Int)) (n:Int):VPure Tryz.prog 95 [vint n, .ref (vl (vl vint) g)] (.bool (G.wild g.length n)):=by
 intro S;refine qE rfl ?_;refine qu (c:=jc Tryz.f95) Tryz.func95 rfl rfl (by simp [Tryz.ntmps95]) ?_;rw [Tryz.ntmps95];refine QT ?_;refine QY ?_
 by_cases h0:n<0
 ·refine QT ?_;refine QY ?_ (r:=by conv=>lhs;simp[QV,jz,h0]);refine QT ?_;refine jC rfl ?_;have:G.wild g.length n=true:=by simp [G.wild,h0]
  rw [this];exact Gives.same (Agree.refl S)
 ·refine QT ?_;refine QY ?_ (r:=by conv=>lhs;simp[QV,jz,h0]);refine QT ?_;refine jC rfl ?_;have:G.wild g.length n=decide ((g.length:Int)≤n):=by simp [G.wild,h0]
  rw [this];exact Gives.same (Agree.refl S)
theorem IndexWild_v (g:List (List Int)) (l:List Int) (hl:l.length<2^63):VPure Tryz.prog 106 [vl vint l, .func 95 [.ref (vl (vl vint) g)]] (vint (G.find (G.wild g.length) l 0)):=by
 intro S;refine qE rfl ?_;refine qu (c:=jc Tryz.f106) Tryz.func106 rfl rfl (by simp [Tryz.ntmps106]) ?_;rw [Tryz.ntmps106];refine QT ?_;refine QY ?_;refine QT ?_;refine QY ?_ (r:=by conv=>lhs;simp[QV,jz]);refine QT ?_;refine jR 0 rfl rfl ?_;refine QT ?_;refine jd [0,1,7,8] rfl (fun n σ S' => ∃ (k:Nat),k≤l.length∧n=l.length-k∧G.find (G.wild g.length) (l.drop k) k=G.find (G.wild g.length) l 0∧σ=[(0,vl vint l),(1, .func 95 [.ref (vl (vl vint) g)]),(7,vnat l.length),(8,vnat k)]∧S'=S) l.length ?_ ?_
 ·exact ⟨0,by omega,rfl,rfl,by simp [Fr.only,Fr.look,vnat,vint],rfl⟩
 ·rintro n σ S' ⟨k,hk,rfl,hd,rfl,rfl⟩
  by_cases hk6:k<l.length
  ·have h7:(k:Int)<(l.length:Int):=by omega
   have hst:G.find (G.wild g.length) (l.drop k) k=if G.wild g.length l[k] then (k:Int) else G.find (G.wild g.length) (l.drop (k+1)) (k+1):=by
    rw [List.drop_eq_getElem_cons hk6,G.find]
   have hw:IntKind.i64.wrap ((k:Int)+1)=(k:Int)+1:=wrap_i64 (by omega) (by omega);refine QT ?_;refine QY ?_ (r:=by conv=>lhs;simp[QV,h7]);refine QT ?_;refine jI rfl rfl rfl ?_;refine QT ?_;refine jG rfl ?_;refine QT ?_;refine jR 1 rfl rfl ?_;refine QT ?_;refine QY ?_;refine QT ?_;refine QP ?_ (r:=by conv=>lhs;simp[QV,jS,hk6]);refine qQ rfl rfl rfl (wild_v g l[k]) ?_;refine QW ?_
   by_cases hc:G.wild g.length l[k]=true
   ·refine jI rfl rfl (by simp [ev,Fr.look,hc]) ?_;refine QT ?_;refine QY ?_;refine QT ?_;refine jC rfl ?_;rw [←hd,hst,if_pos hc];exact Gives.same (Agree.refl S')
   ·rw [if_neg hc] at hst;refine jH rfl rfl (by simp [ev,Fr.look,hc]) ?_;refine QT ?_;refine jG rfl ?_;refine QT ?_;refine QY ?_ (r:=by conv=>lhs;simp[QV,hw]);exact again ⟨Nat.sub_lt_sub_left (by omega) (Nat.lt_succ_self k),k+1,by omega,rfl,by rw [←hd,hst],by simp [Fr.only,Fr.look,vnat,vint],rfl⟩
  ·have h7 : ¬ (k:Int)<(l.length:Int):=by omega
   refine QT ?_;refine QY ?_ (r:=by conv=>lhs;simp[QV,h7]);refine QT ?_;refine jH rfl rfl rfl ?_;refine QT ?_;refine jW 0 rfl rfl ?_;refine QT ?_;refine QY ?_;refine QT ?_;refine jC rfl ?_;have:l.drop k=[]:=by rw [List.drop_eq_nil_iff]; omega
   rw [←hd,this];exact Gives.same (Agree.refl S')
theorem AnyWild_v (g:List (List Int)) (l:List Int) (hl:l.length<2^63):VPure Tryz.prog 85 [vl vint l, .func 95 [.ref (vl (vl vint) g)]] (.bool (l.any (G.wild g.length))):=by
 intro S;refine qE rfl ?_;refine qu (c:=jc Tryz.f85) Tryz.func85 rfl rfl (by simp [Tryz.ntmps85]) ?_;rw [Tryz.ntmps85];rw [←G.find_any (G.wild g.length) l 0];refine QT ?_;refine QY ?_;refine QT ?_;refine QP ?_;refine jb rfl (IndexWild_v g l hl) ?_;refine QW ?_;refine QT ?_;refine jC rfl ?_;exact Gives.same (Agree.refl S)
end Go.Vw
