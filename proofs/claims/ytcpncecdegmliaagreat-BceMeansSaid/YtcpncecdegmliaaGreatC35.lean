import Derived.Test.YtcpncecdegmliaaGreatC34
/- Part of the proof. -/
set_option linter.unusedVariables false
set_option linter.unusedSimpArgs false
set_option maxRecDepth 10000
set_option maxHeartbeats 16000000
namespace Go.Vw
open Go.Proofs Go.RowKit
def PostX (P:Ev.Prog) (o g l:Nat) (d e:Int) (s:Ev.State) (X:V) (S:Store) (x:V) (T:Store):Prop :=
 x=X∧Keeps S T [o,g,l] ∧ ∃ l',RunAt T P s o g l' d e∧(l'=l∨S.nx≤l')
def JF (S:Store) (P:Ev.Prog) (s:Ev.State) (o g l:Nat) (d e:Int):Store :=
 St S [(o,some (14,runC P s g (lid S.nx 0) d e)),(g,some (1,s.globals.map vu)),(l,none)] [some (1,s.log.map vu)]
def ownS (S:Store) (P:Ev.Prog) (s:Ev.State) (o g l:Nat) (d e:Int) (w:List (Option (Nat × List V))) (k:Nat):Store :=
 St S [(o,some (14,runC P s g (lid S.nx k) d e)),(g,some (1,s.globals.map vu)),(l,none)] w
theorem runC_ren {P:Ev.Prog} {s:Ev.State} {g l g' l':Nat} {d e:Int} {f:Nat→Nat} (hg:f g=g') (hl:f l=l'):V.renL f (runC P s g l d e)=runC P s g' l' d e:=by
 simp only [runC,V.renL,hg,hl,V.ren,vl,vint]
def renP (n a b i:Nat):Nat:=if i<n then i else if i=n then a else b+i
theorem renP_lt {n a b i:Nat} (h:i<n):renP n a b i=i:=if_pos h
theorem renP_eq {n a b:Nat}:renP n a b n=a:=by rw [renP,if_neg (Nat.lt_irrefl _),if_pos rfl]
theorem renP_gt {n a b i:Nat} (h:n<i):renP n a b i=b+i:=by rw [renP,if_neg (by omega),if_neg (by omega)]
theorem post_ren {S T:Store} {P:Ev.Prog} {s:Ev.State} {o g l l':Nat} {d e:Int} (hwf:S.Wf) (ho:o<S.nx) (hg:g<S.nx) (hl:l<S.nx) (hk:Keeps S T [o,g,l]) (hr:RunAt T P s o g l' d e) (hll:l'=l∨S.nx≤l') (h5:o≠g) (h6:o≠l) (h7:g≠l) :
  RenS (renP S.nx l' T.nx) S.nx T (JF S P s o g l d e):=by
 have hf : ∀ i,i<S.nx→renP S.nx l' T.nx i=i:=fun i h=>renP_lt h
 have hf0:renP S.nx l' T.nx S.nx=l':=renP_eq;have hn:(JF S P s o g l d e).nx=S.nx+1:=by simp [JF,jP,lid]
 have hs : ∀ i,((JF S P s o g l d e).get i).isSome=true→(i<S.nx∧i≠l)∨i=S.nx:=fun i h=>by
  by_cases h1:i<S.nx
  ·refine .inl ⟨h1,fun e => ?_⟩;subst e;simp [JF,jm h1,uGet,Ne.symm h6,Ne.symm h7] at h
  ·rw [JF,qD,if_neg h1] at h
   cases h2:i-S.nx with
   | zero=>right; omega
   | succ n=>rw [h2] at h; cases h
 refine ⟨fun i c hc => ?_,fun i i' h1 h2 he => ?_,fun i hi => ?_,hf,by omega⟩
 ·rcases hs i (by rw [hc]; rfl) with ⟨h1,h2⟩ | h1
  ·refine ⟨by omega, ?_⟩;rw [hf i h1];rw [JF,jm h1] at hc;simp only [uGet] at hc;split at hc
   ·rename_i e; subst e
    cases hc
    rw [hr.obj];exact congrArg (fun c=>some (14,c)) (runC_ren (hf g hg) hf0).symm
   ·split at hc
    ·rename_i e; subst e
     cases hc
     rw [hr.glob,jk]
    ·rename_i e1 e2;rw [hk.2 i h1 (by simp [e1,e2,h2]),hc];have:=hwf.ids i c hc;simp only [qm,List.all_eq_true] at this;rw [qe,(List.map_congr_left fun x hm=>We (fun o h=>hf o (by simpa using h)) x (this x hm)).trans (List.map_id _)]
  ·subst h1;refine ⟨by omega, ?_⟩;rw [hf0];rw [JF,qD,if_neg (Nat.lt_irrefl _),Nat.sub_self] at hc
   cases hc
   rw [hr.log,jk]
 ·rcases hs i h1 with ⟨k1,k2⟩ | rfl
  ·rw [hf i k1] at he;rcases hs i' h2 with ⟨k3,k4⟩ | rfl
   ·rw [hf i' k3] at he; exact he
   ·rw [hf0] at he; subst he;rcases hll with e | e
    ·exact absurd e k2
    ·omega
  ·rw [hf0] at he;rcases hs i' h2 with ⟨k3,k4⟩ | rfl
   ·rw [hf i' k3] at he; subst he;rcases hll with e | e
    ·exact absurd e k4
    ·omega
   ·rfl
 ·rw [hn] at hi;rw [renP_gt (by omega)];omega
theorem Zb {S:Store} {P:Ev.Prog} {s s0:Ev.State} {o g l:Nat} {d e d0 e0:Int} {f:FuncId} {xs:List V} {X:V} (h0:RunAt S P s0 o g l d0 e0) (hx:X.ids (fun _=>false)=true) (h:VCalls Tryz.prog f xs S (PostX P o g l d e s X S)) :
  VCalls Tryz.prog f xs S (fun x T=>x=X∧T=JF S P s o g l d e):=by
 refine Js fun hwf=>qV (h.mono fun x T hh => ?_)
 obtain ⟨rfl,hk,l',hr,hll⟩:=hh;refine ⟨_,_,GhostB.ren (post_ren hwf (jx hwf h0.obj) (jx hwf h0.glob) (jx hwf h0.log) hk hr hll h0.og h0.ol h0.gl) (We (p:=fun _=>false) (fun _ h=>by cases h) _ hx).symm,rfl,rfl⟩
theorem ids_tuple2 {p:Nat→Bool} (l:List Int) (e:Int):V.ids p (.tuple [vl vu l,vint e])=true:=rfl
theorem ids_vu {p:Nat→Bool} (l:List Int):V.ids p (vl vu l)=true:=rfl
theorem post_own {S:Store} {P:Ev.Prog} {s s':Ev.State} {o g l:Nat} {d e d' e':Int} {w:List (Option (Nat × List V))} {k:Nat} (ho:o<S.nx) (hg:g<S.nx) (hl:l<S.nx) (h5:o≠g) (h6:o≠l) (h7:g≠l) :
  JF (ownS S P s o g l d e w k) P s' o g (lid S.nx k) d' e'=ownS S P s' o g l d' e' (w.set k none++[some (1,s'.log.map vu)]) w.length:=by
 have hn:(ownS S P s o g l d e w k).nx=S.nx+w.length:=by simp [ownS,jP,lid]
 refine Store.ext' (funext fun i => ?_) (by simp only [JF,jP,hn]; simp [ownS,jP,lid]; omega);rw [JF,qD,hn,ownS,qD,ownS,qD]
 by_cases h1:i<S.nx
 ·have hk:i≠lid S.nx k:=by simp only [lid]; omega
  have hll:lid (S.nx+w.length) 0=lid S.nx w.length:=by simp [lid]
  simp only [if_pos h1,if_pos (show i<S.nx+w.length by omega),uGet,if_neg hk,hll]
  by_cases e1:i=o
  ·simp only [if_pos e1]
  ·simp only [if_neg e1]
   by_cases e2:i=g
   ·simp only [if_pos e2]
   ·simp only [if_neg e2]
 ·have hio:i≠o:=by omega
  have hig:i≠g:=by omega
  have hil:i≠l:=by omega
  simp only [if_neg h1,uGet,if_neg hio,if_neg hig]
  by_cases h2:i<S.nx+w.length
  ·rw [if_pos h2,List.getElem?_append_left (by simp; omega)]
   by_cases h3:i=lid S.nx k
   ·have h4:i-S.nx=k:=by simp only [lid] at h3; omega
    rw [if_pos h3,h4,List.getElem?_set_self (by simp only [lid] at h3; omega)]; rfl
   ·rw [if_neg h3,List.getElem?_set_ne (by simp only [lid] at h3; omega)]
  ·rw [if_neg h2,List.getElem?_append_right (by simp; omega)];simp only [List.length_set]
   congr 2; omega
theorem own_ren {S:Store} {P:Ev.Prog} {s:Ev.State} {o g l:Nat} {d e:Int} {w:List (Option (Nat × List V))} (hwf:S.Wf) (hr:RunAt S P s o g l d e) (hw : ∀ c∈w, ∀ x,c=some x→V.idsL (fun i=>decide (i<S.nx+w.length)) x.2=true) :
  RenS (renP (S.nx+w.length) l 0) S.nx (St S [] w) (ownS S P s o g l d e (w++[some (1,s.log.map vu)]) w.length):=by
 have on:=jx hwf hr.obj;have gn:=jx hwf hr.glob;have ln:=jx hwf hr.log;have hf : ∀ i,i<S.nx+w.length→renP (S.nx+w.length) l 0 i=i:=fun i h=>renP_lt h
 have hf0:renP (S.nx+w.length) l 0 (S.nx+w.length)=l:=renP_eq;have hn:(ownS S P s o g l d e (w++[some (1,s.log.map vu)]) w.length).nx=S.nx+w.length+1:=by simp [ownS,jP,lid]; omega
 have hs : ∀ i,((ownS S P s o g l d e (w++[some (1,s.log.map vu)]) w.length).get i).isSome=true→(i<S.nx+w.length∧i≠l)∨i=S.nx+w.length:=fun i h=>by
  by_cases h1:i<S.nx
  ·refine .inl ⟨by omega,fun e => ?_⟩;subst e;simp [ownS,jm h1,uGet,Ne.symm hr.ol,Ne.symm hr.gl] at h
  ·rw [ownS,qD,if_neg h1] at h
   by_cases h2:i-S.nx<(w++[some (1,s.log.map vu)]).length
   ·simp at h2; omega
   ·rw [List.getElem?_eq_none (by omega)] at h; cases h
 refine ⟨fun i c hc => ?_,fun i i' h1 h2 he => ?_,fun i hi => ?_,fun i hi=>hf i (by omega),by omega⟩
 ·rcases hs i (by rw [hc]; rfl) with ⟨h1,h2⟩ | h1
  ·refine ⟨by omega, ?_⟩;rw [hf i h1]
   by_cases h3:i<S.nx
   ·rw [jm h3];rw [ownS,jm h3] at hc;simp only [uGet] at hc ⊢;split at hc
    ·rename_i e; subst e
     cases hc
     rw [hr.obj];exact congrArg (fun c=>some (14,c)) (runC_ren (hf g (by omega)) hf0).symm
    ·split at hc
     ·rename_i e; subst e
      cases hc
      rw [hr.glob,jk]
     ·rw [hc];have:=hwf.ids i c hc;simp only [qm,List.all_eq_true] at this;rw [qe,(List.map_congr_left fun x hm=>We (fun o h=>hf o (by have:=of_decide_eq_true h; omega)) x (this x hm)).trans (List.map_id _)]
   ·rw [qD,if_neg h3];rw [ownS,qD,if_neg h3,List.getElem?_append_left (by omega)] at hc
    cases hw2:w[i-S.nx]? with
    | none=>rw [hw2] at hc; cases hc
    | some y =>
     rw [hw2] at hc;simp only [Option.join_some] at hc ⊢;have:=hw y (List.mem_of_getElem? hw2) c hc;simp only [qm,List.all_eq_true] at this;rw [hc,qe,(List.map_congr_left fun x hm=>We (fun o h=>hf o (by simpa using h)) x (this x hm)).trans (List.map_id _)]
  ·subst h1;refine ⟨by omega, ?_⟩;rw [hf0,jm ln];rw [ownS,qD,if_neg (by omega),List.getElem?_append_right (by omega)] at hc;simp at hc;subst hc;simp [uGet,hr.log,jk]
 ·rcases hs i h1 with ⟨k1,k2⟩ | rfl
  ·rw [hf i k1] at he;rcases hs i' h2 with ⟨k3,k4⟩ | rfl
   ·rw [hf i' k3] at he; exact he
   ·rw [hf0] at he; exact absurd he k2
  ·rw [hf0] at he;rcases hs i' h2 with ⟨k3,k4⟩ | rfl
   ·rw [hf i' k3] at he; exact absurd he.symm k4
   ·rfl
 ·rw [hn] at hi;rw [renP_gt (by omega),jP,lid];omega
theorem own_at {S:Store} {P:Ev.Prog} {s:Ev.State} {o g l:Nat} {d e:Int} {w:List (Option (Nat × List V))} {k:Nat} (ho:o<S.nx) (hg:g<S.nx) (hl:l<S.nx) (h5:o≠g) (h6:o≠l) (h7:g≠l) (hk:(w[k]?).join=some (1,s.log.map vu)):RunAt (ownS S P s o g l d e w k) P s o g (lid S.nx k) d e:=by
 refine ⟨?_, ?_, ?_,h5, ?_, ?_⟩
 ·rw [ownS,jm ho]; simp [uGet]
 ·rw [ownS,jm hg]; simp [uGet,Ne.symm h5]
 ·rw [ownS,ju,hk]
 ·simp only [lid]; omega
 ·simp only [lid]; omega
theorem own_keeps {S:Store} {P:Ev.Prog} {s:Ev.State} {o g l:Nat} {d e:Int} {w:List (Option (Nat × List V))} {k:Nat}:Keeps S (ownS S P s o g l d e w k) [o,g,l] :=
 Kv fun i c hi=>by
  simp only [List.mem_cons,List.not_mem_nil,or_false,not_or] at hi;simp [uGet,hi.1,hi.2.1,hi.2.2]
theorem own_end {S:Store} {P:Ev.Prog} {s:Ev.State} {o g l:Nat} {d e:Int} {out:List Int} {w:List (Option (Nat × List V))} {k:Nat} (hwf:S.Wf) (ho:o<S.nx) (hg:g<S.nx) (hl:l<S.nx) (h5:o≠g) (h6:o≠l) (h7:g≠l) (hk:(w[k]?).join=some (1,s.log.map vu)) :
  zO S.nx (RunPost P o g l d (out,s,e) S) (vl vu out) (ownS S P s o g l d e w k) :=
 ⟨_,_,GhostB.refl _ _ _,rfl,own_keeps,lid S.nx k,own_at ho hg hl h5 h6 h7 hk, .inr (by simp [lid])⟩
theorem own_nil {S:Store} {P:Ev.Prog} {s:Ev.State} {o g l:Nat} {d e:Int} {w:List (Option (Nat × List V))} {k:Nat} (hwf:S.Wf) (ho:o<S.nx) (hg:g<S.nx) (hl:l<S.nx) (h5:o≠g) (h6:o≠l) (h7:g≠l) (hk:(w[k]?).join=some (1,s.log.map vu)) :
  zO S.nx (RunPost P o g l d ([],s,e) S) .nils (ownS S P s o g l d e w k) :=
 ⟨_,_,(Ghost.nils_list _).toB _,rfl,own_keeps,lid S.nx k,own_at ho hg hl h5 h6 h7 hk, .inr (by simp [lid])⟩
end Go.Vw
namespace Go.Vw
open Go.Proofs Go.RowKit
attribute [-simp] List.map_set
attribute [local simp] encRDef_eq
abbrev ckR (e:Ss.Env) (f:Ss.Fn) (ds:List Ss.Def) (near:List Int):V := .ref (.agg (ckC e f (vl jZ ds) (vl vint near)))
theorem reqF_step {α:Type} {p:α→α→Bool} {l m:List α} {k:Nat} (h1:k<l.length) (h2:k<m.length):eqF p (l.drop k) (m.drop k)=(p l[k] m[k]&&eqF p (l.drop (k+1)) (m.drop (k+1))):=by
 rw [List.drop_eq_getElem_cons h1,List.drop_eq_getElem_cons h2,eqF]
theorem reqF_end {α:Type} {p:α→α→Bool} {l m:List α} {k:Nat} (h1 : ¬ k<l.length) (h2 : ¬ k<m.length):eqF p (l.drop k) (m.drop k)=true:=by
 have e1:l.drop k=[]:=by rw [List.drop_eq_nil_iff]; omega
 have e2:m.drop k=[]:=by rw [List.drop_eq_nil_iff]; omega
 rw [e1,e2,eqF]
theorem jbL (e:Ss.Env) (f:Ss.Fn) (ds:List Ss.Def) (near:List Int) (l:List Int) (hl:l.length≤1048576) (hv:Ss.InTs f.types.length l):VPure Tryz.prog 44 [ckR e f ds near,vl vint l] (vl vint (Ss.typesOf f.types l)):=by
 intro S;obtain ⟨⟨fi,fo⟩,ts,bs⟩:=f;simp only at hv;generalize hg:(fun v:Int=>ts.getD v.toNat 0)=g;have hX:Ss.typesOf ts l=l.map g:=by rw [Ss.typesOf,hg]
 simp only;rw [hX];refine QB (c:=jc Tryz.f44) Tryz.func44 Tryz.ntmps44 fun hwf=>?_
 refine QT ?_;refine QY ?_;refine QT ?_;refine QY ?_;refine zy 5 1 rfl (by conv=>lhs; simp [Fr.set]) ?_
 repeat first|refine QG ?_|refine QY ?_
 refine QT ?_;refine jd [0,1,5,6] rfl (fun c σ S' => ∃ (k:Nat) (out:List Int),k≤l.length∧c=l.length-k∧out=(l.take k).map g∧out.length=k∧σ=[(0,ckR e ⟨⟨fi,fo⟩,ts,bs⟩ ds near),(1,vl vint l),(5, .slice (lid S.nx 0) 0 k),(6,vnat k)]∧S'=St S [] [some (1,out.map vint)]) l.length ?_ ?_
 ·exact ⟨0,[],by omega,rfl,by simp,rfl,by simp [Fr.only],by simp⟩
 ·rintro c σ T ⟨k,out,hk,rfl,ho,hlen,rfl,rfl⟩
  by_cases hkt:k<l.length
  ·have hw:=jh hkt (by omega);obtain ⟨h0,h1⟩:=hv _ (List.getElem_mem hkt);obtain ⟨v,hx⟩ : ∃ v,l[k]=v:=⟨_,rfl⟩
   rw [hx] at h0 h1;obtain ⟨n,rfl⟩ : ∃ n:Nat,v=n:=⟨v.toNat,by omega⟩
   have hn:n<ts.length:=by omega
   have hgn:g (n:Int)=ts[n]:=by rw [←hg]; simp [hn]
   have htk:l.take (k+1)=l.take k++[(n:Int)]:=by rw [List.take_add_one,List.getElem?_eq_getElem hkt,hx]; rfl
   have hb:(k+1)*8≤140737488355328:=by omega
   have hb':k+1≤140737488355328:=by omega
   repeat first|refine QG ?_|refine QY ?_ (r:=by conv=>lhs;simp[QV,hkt,hx,hn,hlen,hb,hb'])
   refine QT ?_;refine QJ (St S [] [none]) (St S [] [none]) [] ?_ (r:=by conv=>lhs; simp [QV,hkt,hx,hn,hlen,hb,hb']);refine QI ?_ (r:=by conv=>lhs;simp[QV,hkt,hx,hn,hlen,hb,hb']);refine QI ?_ (r:=by conv=>lhs;simp[QV,hkt,hx,hn,hlen,hb,hb']);refine QW ?_
   repeat first|refine QG ?_|refine QY ?_ (r:=by conv=>lhs;simp[QV,hkt,hx,hn,hlen,hb,hb'])
   refine QA [2] (h:=⟨?_,k+1,out++[ts[n]],hkt,rfl,by rw [htk,List.map_append,ho]; simp [hgn],by simp [hlen],by simp [hw],by simp⟩);omega
  ·have hke:k=l.length:=by omega
   subst hke;rw [List.take_length] at ho
   repeat first|refine QG ?_|refine QY ?_ (r:=by conv=>lhs;simp[QV,hkt])
   rw [←ho];exact jf hwf ((frz1 (by simp) (by rfl) (jq vint (fun _=>rfl) _) (by simpa using hlen)).toB _) rfl
theorem jbM (e:Ss.Env) (f:Ss.Fn) (ds:List Ss.Def) (near:List Int) (block pos:Int) (l types:List Int) (hds:ds.length=f.types.length) (htl:f.types.length<2^63) (hnl:near.length<2^63) (hl:l.length<2^63) (hnn : ∀ x∈ds,x.made=true→0≤x.block) :
  VPure Tryz.prog 79 [ckR e f ds near,vl vint l,vl vint types,vint block,vint pos] (.bool (Ss.asks f.types ds near block pos l types)):=by
 intro S;obtain ⟨⟨fi,fo⟩,ts,bs⟩:=f;simp only at hds htl ⊢;unfold Ss.asks;generalize hP:Ss.askOk ts ds near block pos=P
 by_cases hlm:l.length=types.length
 case neg =>
  have hlm' : ¬ (l.length:Int)=(types.length:Int):=by omega
  rw [eqF_len hlm];refine QB (c:=jc Tryz.f79) Tryz.func79 Tryz.ntmps79 fun hwf=>?_
  repeat first|refine QG ?_|refine QY ?_ (r:=by conv=>lhs;simp[QV,hlm,hlm'])
  exact ja hwf rfl rfl
 have hlm':(l.length:Int)=(types.length:Int):=by omega
 refine QB (c:=jc Tryz.f79) Tryz.func79 Tryz.ntmps79 fun hwf=>?_
 repeat first|refine QG ?_|refine QY ?_ (r:=by conv=>lhs;simp[QV,hlm,hlm'])
 refine QT ?_;refine jd [0,1,2,3,4,11] rfl (fun c σ S' => ∃ (k:Nat),k≤l.length∧c=l.length-k∧eqF P (l.drop k) (types.drop k)=eqF P l types∧σ=[(0,ckR e ⟨⟨fi,fo⟩,ts,bs⟩ ds near),(1,vl vint l),(2,vl vint types),(3,vint block),(4,vint pos),(11,vnat k)]∧S'=St S [] []) l.length ?_ ?_
 ·exact ⟨0,by omega,rfl,rfl,by simp [Fr.only],rfl⟩
 ·rintro c σ T ⟨k,hk,rfl,hd,rfl,rfl⟩
  by_cases hkt:k<l.length
  case neg =>
   have hkm : ¬ k<types.length:=by omega
   repeat first|refine QG ?_|refine QY ?_ (r:=by conv=>lhs;simp[QV,hkt])
   rw [←hd,reqF_end hkt hkm];exact ja hwf rfl rfl
  have hkm:k<types.length:=by omega
  have hw:=jh hkt hl;have hst:=reqF_step (p:=P) hkt hkm;obtain ⟨v,hx⟩ : ∃ v,l[k]=v:=⟨_,rfl⟩
  obtain ⟨t,ht⟩ : ∃ t,types[k]=t:=⟨_,rfl⟩
  rw [hx,ht] at hst
  by_cases h0:v<0
  ·have e:P v t=false:=by rw [←hP]; simp [Ss.askOk]; omega
   rw [e,Bool.false_and,hd] at hst
   repeat first|refine QG ?_|refine QY ?_ (r:=by conv=>lhs;simp[QV,hkt,hx,h0])
   rw [hst];exact ja hwf rfl rfl
  obtain ⟨n,rfl⟩ : ∃ n:Nat,v=n:=⟨v.toNat,by omega⟩
  by_cases hnt:n<ts.length
  case neg =>
   have h1':(ts.length:Int)≤(n:Int):=by omega
   have e:P n t=false:=by rw [←hP]; simp [Ss.askOk]; omega
   rw [e,Bool.false_and,hd] at hst
   repeat first|refine QG ?_|refine QY ?_ (r:=by conv=>lhs;simp[QV,hkt,hx,h0,h1'])
   rw [hst];exact ja hwf rfl rfl
  have h1' : ¬ (ts.length:Int)≤(n:Int):=by omega
  have h1:n<ds.length:=by omega
  obtain ⟨tt,htt⟩ : ∃ x,ts[n]=x:=⟨_,rfl⟩
  obtain ⟨⟨dm,db,dp⟩,hdx⟩ : ∃ x,ds[n]=x:=⟨_,rfl⟩
  have hX:P n t=(decide (tt=t)&&(dm&&(if db=block then decide (dp<pos) else G.dominates near db block))):=by
   rw [←hP];simp [Ss.askOk,h1,hnt,htt,hdx,Bool.and_assoc]
  rw [hX] at hst
  by_cases h2:tt=t
  case neg =>
   rw [decide_eq_false h2,Bool.false_and,Bool.false_and,hd] at hst
   repeat first|refine QG ?_|refine QY ?_ (r:=by conv=>lhs;simp[QV,hkt,hkm,hx,ht,h0,h1',hnt,htt,h2])
   rw [hst];exact ja hwf rfl rfl
  rw [decide_eq_true h2,Bool.true_and] at hst
  cases dm with
  | false =>
   rw [Bool.false_and,Bool.false_and,hd] at hst
   repeat first|refine QG ?_|refine QY ?_ (r:=by conv=>lhs;simp[QV,hkt,hkm,hx,ht,h0,h1',hnt,htt,h2,h1,hdx])
   rw [hst];exact ja hwf rfl rfl
  | true =>
   have hb0 : ¬ db<0:=by
    have:=hnn _ (List.getElem_mem h1);rw [hdx] at this;have:=this rfl;simp only at this;omega
   rw [Bool.true_and] at hst
   by_cases h3:db=block
   ·rw [if_pos h3] at hst;subst h3
    by_cases h4:dp<pos
    ·have h4' : ¬ pos≤dp:=by omega
     rw [decide_eq_true h4,Bool.true_and,hd] at hst
     repeat first|refine QG ?_|refine QY ?_ (r:=by conv=>lhs;simp[QV,hkt,hkm,hx,ht,h0,h1',hnt,htt,h2,h1,hdx,hb0,h4'])
     refine QA [] (h:=⟨?_,k+1,hkt,rfl,hst.symm,by simp [hw],by simp⟩);omega
    ·have h4':pos≤dp:=by omega
     rw [decide_eq_false h4,Bool.false_and,hd] at hst
     repeat first|refine QG ?_|refine QY ?_ (r:=by conv=>lhs;simp[QV,hkt,hkm,hx,ht,h0,h1',hnt,htt,h2,h1,hdx,hb0,h4'])
     rw [hst];exact ja hwf rfl rfl
   ·rw [if_neg h3] at hst;have cd:=RDominates_v near db block hnl;generalize G.dominates near db block=y at *
    repeat first|refine QG ?_|refine QY ?_ (r:=by conv=>lhs;simp[QV,hkt,hkm,hx,ht,h0,h1',hnt,htt,h2,h1,hdx,hb0,h3])
    refine QT ?_;refine QD (r:=by conv=>lhs;simp[QV,hkt,hkm,hx,ht,h0,h1',hnt,htt,h2,h1,hdx,hb0,h3]) (k:=?_);refine QL (cd) ?_
    by_cases hy:y=true
    ·rw [hy,Bool.true_and,hd] at hst;refine QM (by conv=>lhs;simp[QV,hy]) ?_;refine QN ?_
     repeat first|refine QG ?_|refine QY ?_
     refine QA [] (h:=⟨?_,k+1,hkt,rfl,hst.symm,by simp [hw],by simp⟩);omega
    ·have hy':y=false:=by simpa using hy
     rw [hy',Bool.false_and,hd] at hst;refine QM (by conv=>lhs;simp[QV,hy']) ?_;refine QN ?_
     repeat first|refine QG ?_|refine QY ?_
     rw [hst];exact ja hwf rfl rfl
end Go.Vw
namespace Ss
structure RForm where
 inn:List Int
 outs:List Int
 ok:Bool
deriving DecidableEq,Inhabited
def rformMem (op n:Int):RForm :=
 if op=257 then ⟨[127],[],decide (n≤8589934592)⟩
 else match accOf op with
  | some a=>if a.store then ⟨[127,a.kind],[],decide (n<4294967296)⟩ else ⟨[127],[a.kind],decide (n<4294967296)⟩
  | none=>if op=63 then ⟨[],[127],decide (n=0)⟩ else if op=64 then ⟨[127],[127],decide (n=0)⟩ else ⟨[],[],false⟩
def rformEnv (e:Env) (op n:Int):RForm :=
 if op=35∨op=36 then (if n<e.globals.length then (if op=35 then ⟨[],[e.globals.getD n.toNat 0],true⟩ else ⟨[e.globals.getD n.toNat 0],[],e.muts.getD n.toNat false⟩) else ⟨[],[],false⟩)
 else if op=16 then (if n<e.sigs.length then ⟨(e.sigs.getD n.toNat default).inn,(e.sigs.getD n.toNat default).out,true⟩ else ⟨[],[],false⟩)
 else if e.mem then rformMem op n else ⟨[],[],false⟩
def rform (e:Env) (op n out:Int):RForm :=
 if op=256 then ⟨[],[out],decide (out=126)||(decide (out=127)&&decide (n<4294967296))⟩
 else if op=258 then ⟨[],[],decide (n=0)⟩
 else match numSig op with
  | (l,t,true)=>⟨l,[t],decide (n=0)⟩
  | _=>if op=27 then ⟨[out,out,127],[out],decide (n=0)⟩ else rformEnv e op n
end Ss
namespace Go.Vw
open Go.Proofs Go.RowKit
attribute [-simp] List.map_set
def rformV (r:Ss.RForm):V := .tuple [vl vint r.inn,vl vint r.outs, .bool r.ok]
theorem Form_v (e:Ss.Env) (x:Ss.Ins) (out:Int) (hsl:e.sigs.length≤140737488355328) (hgl:e.globals.length≤140737488355328) (hml:e.muts.length=e.globals.length) (hx:x.Fits) :
  VPure Tryz.prog 78 [qM e,jp x,vint out] (rformV (Ss.rform e x.op x.n out)):=by
 intro S;obtain ⟨sg,im,gl,mu,me⟩:=e;obtain ⟨op,n,xa,xo⟩:=x;obtain ⟨ho,⟨h0,hn64⟩,_⟩:=hx;simp only at hsl hgl hml h0 ho hn64 ⊢;obtain ⟨m,rfl⟩ : ∃ m:Nat,n=m:=⟨n.toNat,by omega⟩
 have hns:=Km op;have hac:=WE op;have hfi:=jaF out (m:Int);have hcg:IntKind.u64.wrap (gl.length:Int)=(gl.length:Int):=jr (by omega) (by omega);have hcs:IntKind.u64.wrap (sg.length:Int)=(sg.length:Int):=jr (by omega) (by omega);have hz:decide ((m:Int)=0)=decide (m=0):=by simp
 unfold Ss.rform;rw [hz];generalize (decide (out=126)||(decide (out=127)&&decide ((m:Int)<4294967296)))=fi at *
 generalize hsg:Ss.numSig op=sgv at *
 obtain ⟨l,t,b⟩:=sgv;generalize hak:((Ss.accOf op).getD ⟨0,0,false,false⟩).kind=ak at *
 generalize hast:((Ss.accOf op).getD ⟨0,0,false,false⟩).store=ast at *
 generalize ((Ss.accOf op).getD ⟨0,0,false,false⟩).width=aw at *
 generalize his:(Ss.accOf op).isSome=ais at *
 simp only at hns;refine QB (c:=jc Tryz.f78) Tryz.func78 Tryz.ntmps78 fun hwf=>?_
 repeat first|refine QG ?_|refine QY ?_
 refine QT ?_;refine QP ?_;refine QL (hns) ?_;refine QW ?_;refine QT ?_;refine QP ?_;refine QL (hac) ?_;refine QW ?_
 by_cases h1:op=256
 ·rw [if_pos h1]
  repeat first|refine QG ?_|refine QY ?_ (r:=by conv=>lhs;simp[QV,h1])
  refine QT ?_;refine QP ?_;refine QL (hfi) ?_;refine QW ?_
  repeat first|refine QG ?_|refine QY ?_
  exact jf hwf (((Ghost.tuple [] [_,_] (Ghost.nils_list _)).trans (Ghost.tuple [_] [_] (frz1 (k:=2) (by simp) (by rfl) (by rfl) (by rfl)))).toB _) rfl
 rw [if_neg h1]
 by_cases h2:op=258
 ·rw [if_pos h2]
  repeat first|refine QG ?_|refine QY ?_ (r:=by conv=>lhs;simp[QV,h1,h2])
  exact jf hwf (((Ghost.tuple [] [_,_] (Ghost.nils_list _)).trans (Ghost.tuple [_] [_] (Ghost.nils_list _))).toB _) rfl
 rw [if_neg h2]
 by_cases hb:b=true
 ·subst hb;simp only
  repeat first|refine QG ?_|refine QY ?_ (r:=by conv=>lhs;simp[QV,h1,h2])
  refine QT ?_;refine QJ (St S [] [some (5,[vl jl sg,vint im,vl vint gl,vl V.bool mu, .bool me]),some (4,[vint op, .int .u64 (m:Int),vl vint xa,vl vint xo])]) (St S [] [some (5,[vl jl sg,vint im,vl vint gl,vl V.bool mu, .bool me]),some (4,[vint op, .int .u64 (m:Int),vl vint xa,vl vint xo])]) [] ?_ (r:=by conv=>lhs; simp [QV,h1]);refine QI ?_ (r:=by conv=>lhs;simp[QV,h1]);refine QM (by conv=>lhs;simp[QV,h1]) ?_;refine QN ?_
  repeat first|refine QG ?_|refine QY ?_
  exact jf hwf ((Ghost.tuple [_] [_] (frz1 (k:=2) (by simp) (by rfl) (by rfl) (by rfl))).toB _) rfl
 obtain rfl:b=false:=by simpa using hb
 simp only
 by_cases h3:op=27
 ·rw [if_pos h3];subst h3
  repeat first|refine QG ?_|refine QY ?_ (r:=by conv=>lhs;simp[QV,h1,h2])
  refine QT ?_;refine WI (σm := ?sma) (Sm := ?Sma) (ZZ.mk _ (St S [] [some (5,[vl jl sg,vint im,vl vint gl,vl V.bool mu, .bool me]),some (4,[.int .i64 27, .int .u64 (m:Int),vl vint xa,vl vint xo])]) (St S [] [some (5,[vl jl sg,vint im,vl vint gl,vl V.bool mu, .bool me]),some (4,[.int .i64 27, .int .u64 (m:Int),vl vint xa,vl vint xo])]) []) 2 4 [0,1,2,3,4,5,6,7,8,9,10] [0,1,3,4,2,5,6,7,8,9,10] rfl (by kernel_rfl) (by conv=>lhs; reduce) (by kernel_rfl) (by decide) (by kernel_rfl) (by kernel_rfl) (by kernel_rfl) (by kernel_rfl) (by kernel_rfl) (by kernel_rfl) rfl (JW (by simp [subU,shpU,subL,shpL])) (Store.sub_refl _) (by conv=>lhs; reduce) (by conv=>lhs; reduce) ?H1a ?H2a ?H3a
  case H1a =>
   refine QZ ?_;refine QI ?_;refine QZ ?_;refine QI ?_;refine QW ?_;refine zA [6,7,8] (Eq.trans (b := ?_) ?_ rfl)
   rotate_left
   conv=>lhs; simp [Fr.only,Fr.look]
  case H2a =>
   refine QZ ?_;refine QI ?_;refine QI ?_;refine QW ?_;exact zT [6,7,8] [0,1,3,2] (by conv=>lhs; simp [Fr.only,Fr.look]) hwf (by decide) (by simp) (by conv=>lhs; simp) (by conv=>lhs; simp) (by conv=>lhs; simp)
  repeat first|refine QG ?_|refine QY ?_
  exact jf hwf (((Ghost.tuple [] [_,_] (frz1 (k:=2) (by simp) (by rfl) (by rfl) (by rfl))).trans (Ghost.tuple [_] [_] (frz1 (k:=3) (by simp) (by rfl) (by rfl) (by rfl)))).toB _) rfl
 rw [if_neg h3];unfold Ss.rformEnv;simp only
 by_cases h4:op=35∨op=36
 ·rw [if_pos h4]
  by_cases h5:m<gl.length
  case neg =>
   have h5' : ¬ (m:Int)<(gl.length:Int):=by omega
   have h5n:(gl.length:Int)≤(m:Int):=by omega
   rw [if_neg h5']
   by_cases h6:op=35
   ·repeat first|refine QG ?_|refine QY ?_ (r:=by conv=>lhs;simp[QV,h1,h2,h3,h6,hcg,h5,h5n])
    exact jf hwf (((Ghost.tuple [] [_,_] (Ghost.nils_list _)).trans (Ghost.tuple [_] [_] (Ghost.nils_list _))).toB _) rfl
   ·have h7:op=36:=by omega
    repeat first|refine QG ?_|refine QY ?_ (r:=by conv=>lhs;simp[QV,h1,h2,h3,h6,h7,hcg,h5,h5n])
    exact jf hwf (((Ghost.tuple [] [_,_] (Ghost.nils_list _)).trans (Ghost.tuple [_] [_] (Ghost.nils_list _))).toB _) rfl
  have h5':(m:Int)<(gl.length:Int):=by omega
  have h5n : ¬ (gl.length:Int)≤(m:Int):=by omega
  have hgd:gl.getD (m:Int).toNat 0=gl[m]:=by simp [h5]
  have hm:m<mu.length:=by omega
  obtain ⟨b,hb⟩ : ∃ b,mu[m]=b:=⟨_,rfl⟩
  have hmd:mu.getD (m:Int).toNat false=b:=by simp [hm,hb]
  rw [if_pos h5',hgd,hmd]
  by_cases h6:op=35
  ·rw [if_pos h6]
   repeat first|refine QG ?_|refine QY ?_ (r:=by conv=>lhs;simp[QV,h1,h2,h3,h6,hcg,h5,h5n])
   exact jf hwf (((Ghost.tuple [] [_,_] (Ghost.nils_list _)).trans (Ghost.tuple [_] [_] (frz1 (k:=2) (by simp) (by rfl) (by rfl) (by rfl)))).toB _) rfl
  ·have h7:op=36:=by omega
   rw [if_neg h6]
   repeat first|refine QG ?_|refine QY ?_ (r:=by conv=>lhs;simp[QV,h1,h2,h3,h6,h7,hcg,h5,h5n,hm,hb])
   exact jf hwf (((Ghost.tuple [] [_,_] (frz1 (k:=2) (by simp) (by rfl) (by rfl) (by rfl))).trans (Ghost.tuple [_] [_] (Ghost.nils_list _))).toB _) rfl
 rw [if_neg h4];have h6 : ¬ op=35:=fun h=>h4 (.inl h)
 have h7 : ¬ op=36:=fun h=>h4 (.inr h)
 by_cases h8:op=16
 ·rw [if_pos h8]
  by_cases h5:m<sg.length
  case neg =>
   have h5' : ¬ (m:Int)<(sg.length:Int):=by omega
   have h5n:(sg.length:Int)≤(m:Int):=by omega
   rw [if_neg h5']
   repeat first|refine QG ?_|refine QY ?_ (r:=by conv=>lhs;simp[QV,h1,h2,h3,h6,h7,h8,hcs,h5,h5n])
   exact jf hwf (((Ghost.tuple [] [_,_] (Ghost.nils_list _)).trans (Ghost.tuple [_] [_] (Ghost.nils_list _))).toB _) rfl
  have h5':(m:Int)<(sg.length:Int):=by omega
  have h5n : ¬ (sg.length:Int)≤(m:Int):=by omega
  obtain ⟨⟨a,b⟩,hab⟩ : ∃ x,sg[m]=x:=⟨_,rfl⟩
  have hgd:sg.getD (m:Int).toNat default=⟨a,b⟩:=by simp [h5,hab]
  rw [if_pos h5',hgd]
  repeat first|refine QG ?_|refine QY ?_ (r:=by conv=>lhs;simp[QV,h1,h2,h3,h6,h7,h8,hcs,h5,h5n,hab])
  exact ja hwf (by simp [rformV,vl]) rfl
 rw [if_neg h8]
 by_cases hme:me=true
 case neg =>
  have hme':me=false:=by simpa using hme
  rw [if_neg hme]
  repeat first|refine QG ?_|refine QY ?_ (r:=by conv=>lhs;simp[QV,h1,h2,h3,h6,h7,h8,hme'])
  exact jf hwf (((Ghost.tuple [] [_,_] (Ghost.nils_list _)).trans (Ghost.tuple [_] [_] (Ghost.nils_list _))).toB _) rfl
 subst hme;rw [if_pos rfl];unfold Ss.rformMem;rw [hz]
 by_cases k1:op=257
 ·rw [if_pos k1];subst k1
  repeat first|refine QG ?_|refine QY ?_ (r:=by conv=>lhs;simp[QV,h1,h2,h3,h6,h7,h8])
  refine QT ?_;refine QJ (St S [] [some (5,[vl jl sg,vint im,vl vint gl,vl V.bool mu, .bool true]),some (4,[.int .i64 257, .int .u64 (m:Int),vl vint xa,vl vint xo])]) (St S [] [some (5,[vl jl sg,vint im,vl vint gl,vl V.bool mu, .bool true]),some (4,[.int .i64 257, .int .u64 (m:Int),vl vint xa,vl vint xo])]) [] ?_ (r:=by conv=>lhs; simp [QV,h1]);refine QI ?_ (r:=by conv=>lhs;simp[QV,h1]);refine QM (by conv=>lhs;simp[QV,h1]) ?_;refine QN ?_
  repeat first|refine QG ?_|refine QY ?_
  exact jf hwf (((Ghost.tuple [] [_,_] (frz1 (k:=2) (by simp) (by rfl) (by rfl) (by rfl))).trans (Ghost.tuple [_] [_] (Ghost.nils_list _))).toB _) rfl
 rw [if_neg k1]
 cases hf:Ss.accOf op with
 | some a =>
  obtain ⟨b1,b2,b3,b4⟩:=a;rw [hf] at his hak hast;simp only [Option.isSome_some,Option.getD_some] at his hak hast;subst his hak hast;simp only;generalize hz4:decide ((m:Int)<4294967296)=z4 at *
  by_cases k2:b3=true
  ·subst k2;rw [if_pos rfl]
   repeat first|refine QG ?_|refine QY ?_ (r:=by conv=>lhs;simp[QV,h1,h2,h3,h6,h7,h8,k1,hz4])
   refine QT ?_;refine QJ (St S [] [some (5,[vl jl sg,vint im,vl vint gl,vl V.bool mu, .bool true]),some (4,[vint op, .int .u64 (m:Int),vl vint xa,vl vint xo])]) (St S [] [some (5,[vl jl sg,vint im,vl vint gl,vl V.bool mu, .bool true]),some (4,[vint op, .int .u64 (m:Int),vl vint xa,vl vint xo])]) [] ?_ (r:=by conv=>lhs; simp [QV,h1]);refine QI ?_ (r:=by conv=>lhs;simp[QV,h1,hz4]);refine QM (by conv=>lhs;simp[QV,h1,hz4]) ?_;refine QN ?_
   repeat first|refine QG ?_|refine QY ?_
   exact jf hwf (((Ghost.tuple [] [_,_] (frz1 (k:=2) (by simp) (by rfl) (by rfl) (by rfl))).trans (Ghost.tuple [_] [_] (Ghost.nils_list _))).toB _) rfl
  ·rw [if_neg k2];obtain rfl:b3=false:=by simpa using k2
   repeat first|refine QG ?_|refine QY ?_ (r:=by conv=>lhs;simp[QV,h1,h2,h3,h6,h7,h8,k1,hz4])
   refine QT ?_;refine WI (σm := ?smb) (Sm := ?Smb) (ZZ.mk _ (St S [] [some (5,[vl jl sg,vint im,vl vint gl,vl V.bool mu, .bool true]),some (4,[vint op, .int .u64 (m:Int),vl vint xa,vl vint xo])]) (St S [] [some (5,[vl jl sg,vint im,vl vint gl,vl V.bool mu, .bool true]),some (4,[vint op, .int .u64 (m:Int),vl vint xa,vl vint xo])]) []) 0 2 [0,1,2,3,4,5,6,7,8] [1,2,0,3,4,5,6,7,8] rfl (by kernel_rfl) (by conv=>lhs; reduce) (by kernel_rfl) (by decide) (by kernel_rfl) (by kernel_rfl) (by kernel_rfl) (by kernel_rfl) (by kernel_rfl) (by kernel_rfl) rfl (JW (by simp [subU,shpU,subL,shpL])) (Store.sub_refl _) (by conv=>lhs; reduce) (by conv=>lhs; reduce) ?H1b ?H2b ?H3b
   case H1b =>
    refine QM (by conv=>lhs;simp[QV,h1,hz4]) ?_;refine QI ?_;refine QM (by conv=>lhs;simp[QV,hz4]) ?_;refine QI ?_;refine QM (by conv=>lhs;simp[QV,hz4]) ?_;refine QN ?_;refine zA [6,7,8] (Eq.trans (b := ?_) ?_ rfl)
    rotate_left
    conv=>lhs; simp [Fr.only,Fr.look]
   case H2b =>
    refine QM (by conv=>lhs;simp[QV,h1,hz4]) ?_;refine QI ?_;refine QI ?_;refine QM (by conv=>lhs;simp[QV,hz4]) ?_;refine QN ?_;exact zT [6,7,8] [0,1,3,2] (by conv=>lhs; simp [Fr.only,Fr.look]) hwf (by decide) (by simp) (by conv=>lhs; simp) (by conv=>lhs; simp) (by conv=>lhs; simp)
   repeat first|refine QG ?_|refine QY ?_
   exact jf hwf (((Ghost.tuple [] [_,_] (frz1 (k:=2) (by simp) (by rfl) (by rfl) (by rfl))).trans (Ghost.tuple [_] [_] (frz1 (k:=3) (by simp) (by rfl) (by rfl) (by rfl)))).toB _) rfl
 | none =>
  rw [hf] at his hak hast;simp only [Option.isSome_none,Option.getD_none] at his hak hast;subst his hak hast;simp only
  by_cases k2:op=63
  ·rw [if_pos k2];subst k2
   repeat first|refine QG ?_|refine QY ?_ (r:=by conv=>lhs;simp[QV,h1,h2,h3,h6,h7,h8,k1])
   refine QT ?_;refine QJ (St S [] [some (5,[vl jl sg,vint im,vl vint gl,vl V.bool mu, .bool true]),some (4,[.int .i64 63, .int .u64 (m:Int),vl vint xa,vl vint xo])]) (St S [] [some (5,[vl jl sg,vint im,vl vint gl,vl V.bool mu, .bool true]),some (4,[.int .i64 63, .int .u64 (m:Int),vl vint xa,vl vint xo])]) [] ?_ (r:=by conv=>lhs; simp [QV,h1]);refine QI ?_ (r:=by conv=>lhs;simp[QV,h1]);refine QM (by conv=>lhs;simp[QV,h1]) ?_;refine QN ?_
   repeat first|refine QG ?_|refine QY ?_
   exact jf hwf (((Ghost.tuple [] [_,_] (Ghost.nils_list _)).trans (Ghost.tuple [_] [_] (frz1 (k:=2) (by simp) (by rfl) (by rfl) (by rfl)))).toB _) rfl
  rw [if_neg k2]
  by_cases k3:op=64
  ·rw [if_pos k3];subst k3
   repeat first|refine QG ?_|refine QY ?_ (r:=by conv=>lhs;simp[QV,h1,h2,h3,h6,h7,h8,k1,k2])
   refine QT ?_;refine WI (σm := ?smc) (Sm := ?Smc) (ZZ.mk _ (St S [] [some (5,[vl jl sg,vint im,vl vint gl,vl V.bool mu, .bool true]),some (4,[.int .i64 64, .int .u64 (m:Int),vl vint xa,vl vint xo])]) (St S [] [some (5,[vl jl sg,vint im,vl vint gl,vl V.bool mu, .bool true]),some (4,[.int .i64 64, .int .u64 (m:Int),vl vint xa,vl vint xo])]) []) 0 1 [0,1,2,3,4,5,6,7] [1,0,2,3,4,5,6,7] rfl (by kernel_rfl) (by conv=>lhs; reduce) (by kernel_rfl) (by decide) (by kernel_rfl) (by kernel_rfl) (by kernel_rfl) (by kernel_rfl) (by kernel_rfl) (by kernel_rfl) rfl (JW (by simp [subU,shpU,subL,shpL])) (Store.sub_refl _) (by conv=>lhs; reduce) (by conv=>lhs; reduce) ?H1c ?H2c ?H3c
   case H1c =>
    refine QM (by conv=>lhs;simp[QV,h1]) ?_;refine QI ?_;refine QZ ?_;refine QI ?_;refine QW ?_;refine zA [6,7,8] (Eq.trans (b := ?_) ?_ rfl)
    rotate_left
    conv=>lhs; simp [Fr.only,Fr.look]
   case H2c =>
    refine QM (by conv=>lhs;simp[QV,h1]) ?_;refine QI ?_;refine QI ?_;refine QW ?_;exact zT [6,7,8] [0,1,3,2] (by conv=>lhs; simp [Fr.only,Fr.look]) hwf (by decide) (by simp) (by conv=>lhs; simp) (by conv=>lhs; simp) (by conv=>lhs; simp)
   repeat first|refine QG ?_|refine QY ?_
   exact jf hwf (((Ghost.tuple [] [_,_] (frz1 (k:=2) (by simp) (by rfl) (by rfl) (by rfl))).trans (Ghost.tuple [_] [_] (frz1 (k:=3) (by simp) (by rfl) (by rfl) (by rfl)))).toB _) rfl
  rw [if_neg k3]
  repeat first|refine QG ?_|refine QY ?_ (r:=by conv=>lhs;simp[QV,h1,h2,h3,h6,h7,h8,k1,k2,k3])
  exact jf hwf (((Ghost.tuple [] [_,_] (Ghost.nils_list _)).trans (Ghost.tuple [_] [_] (Ghost.nils_list _))).toB _) rfl
end Go.Vw
namespace Ss
def rinsOk (e:Env) (f:Fn) (ds:List Def) (near:List Int) (block pos:Int) (x:Ins):Bool :=
 (rform e x.op x.n (insOut f.types x)).ok&&decide (typesOf f.types x.outs=(rform e x.op x.n (insOut f.types x)).outs)&&asks f.types ds near block pos x.args (rform e x.op x.n (insOut f.types x)).inn
end Ss
namespace Go.Vw
open Go.Proofs Go.RowKit
attribute [-simp] List.map_set
theorem rins_v (e:Ss.Env) (f:Ss.Fn) (ds:List Ss.Def) (near:List Int) (i k:Nat) (b:Ss.Block) (x:Ss.Ins) (hsl:e.sigs.length≤140737488355328) (hgl:e.globals.length≤140737488355328) (hml:e.muts.length=e.globals.length)
  (hds:ds.length=f.types.length) (htl:f.types.length<2^63) (hnl:near.length<2^63) (hnn : ∀ x∈ds,x.made=true→0≤x.block) (hi:f.blocks[i]? = some b) (hk:b.code[k]? = some x) (hx:x.Fits) (hol:x.outs.length≤1048576) (hov:Ss.InTs f.types.length x.outs) :
  VPure Tryz.prog 46 [ckR e f ds near,vnat i,vnat k] (.bool (Ss.rinsOk e f ds near i k x)):=by
 intro S;have cf:=Form_v e x (Ss.insOut f.types x) hsl hgl hml hx;have ct:=jbL e f ds near x.outs hol hov;have hal:=hx.2.2.1.1;have ca : ∀ l:List Int,VPure Tryz.prog 79 [ckR e f ds near,vl vint x.args,vl vint l,vnat i,vnat k] (.bool (Ss.asks f.types ds near i k x.args l)):=fun l=>jbM e f ds near i k x.args l hds htl hnl (by omega) hnn
 unfold Ss.rinsOk;generalize hr:Ss.rform e x.op x.n (Ss.insOut f.types x)=r at *
 have hql:(Ss.typesOf f.types x.outs).length<2^63:=by simp [Ss.typesOf]; omega
 generalize htt:Ss.typesOf f.types x.outs=tt at *
 obtain ⟨ri,ro,rk⟩:=r;have ceq:=jcu tt ro hql;obtain ⟨xo,xn,xa,xu⟩:=x;obtain ⟨ps,code,⟨tk,ta,to,az⟩⟩:=b;obtain ⟨⟨fi,fo⟩,ts,bs⟩:=f;obtain ⟨sg,im,gl,mu,me⟩:=e;simp only at *
 obtain ⟨hi1,hi2⟩:=List.getElem?_eq_some_iff.1 hi;obtain ⟨hk1,hk2⟩:=List.getElem?_eq_some_iff.1 hk;have ca':=ca ri;generalize Ss.asks ts ds near i k xa ri=ax at ca';generalize hio:Ss.insOut ts ⟨xo,xn,xa,xu⟩=io at cf;have cf':VPure Tryz.prog 78 [.agg [vl jl sg, .int .i64 im,vl vint gl,vl V.bool mu, .bool me], .agg [.int .i64 xo, .int .u64 xn,vl vint xa,vl vint xu], .int .i64 io] (.tuple [vl vint ri,vl vint ro, .bool rk]):=cf;refine QB (c:=jc Tryz.f46) Tryz.func46 Tryz.ntmps46 fun hwf=>?_
 repeat first|refine QG ?_|refine QY ?_ (r:=by conv=>lhs;simp[QV,hi1,hi2,hk1,hk2])
 refine Zq (fun σ S'=>σ=[(0,ckR ⟨sg,im,gl,mu,me⟩ ⟨⟨fi,fo⟩,ts,bs⟩ ds near),(1,vnat i),(2,vnat k),(7, .ptr (lid S.nx 0) 0),(8,vint io)]∧S'=St S [] [some (4,[vint xo,vu xn,vl vint xa,vl vint xu])]) [0,1,2,7,8] ?_ ?_
 ·cases xu with
  | nil =>
   have h0:io=0:=by rw [←hio]; rfl
   subst h0
   repeat first|refine QG ?_|refine QY ?_
   exact ⟨by simp [Fr.only],by simp⟩
  | cons v r =>
   obtain ⟨h0,h1⟩:=hov v (by simp);obtain ⟨n,rfl⟩ : ∃ n:Nat,v=n:=⟨v.toNat,by omega⟩
   have hn:n<ts.length:=by omega
   have h2:io=ts[n]:=by rw [←hio]; simp [Ss.insOut,hn]
   subst h2;have hpos:(0:Int)<((r.length:Int)+1):=by omega
   repeat first|refine QG ?_|refine QY ?_ (r:=by conv=>lhs;simp[QV,hn,hpos])
   exact ⟨by simp [Fr.only],by simp⟩
 rintro σ S' ⟨rfl,rfl⟩;refine QT ?_;refine QT ?_;refine QD (r:=by conv=>lhs;simp[QV]) (k:=?_);refine QL (cf') ?_;refine QW ?_
 by_cases h1:rk=true
 case neg =>
  have h1':rk=false:=by simpa using h1
  repeat first|refine QG ?_|refine QY ?_ (r:=by conv=>lhs;simp[QV,h1'])
  exact ja hwf (by simp [h1']) rfl
 refine QT ?_;refine QP ?_ (r:=by conv=>lhs;simp[QV,h1]);refine QL (ct) ?_;refine QZ ?_;refine QL (ceq) ?_
 by_cases h3:tt=ro
 case neg =>
  refine QM (by conv=>lhs;simp[QV,h3]) ?_;refine QN ?_
  repeat first|refine QG ?_|refine QY ?_
  exact ja hwf (by simp [h3]) rfl
 refine QM (by conv=>lhs;simp[QV,h3]) ?_;refine QL (ca') ?_;refine QW ?_
 repeat first|refine QG ?_|refine QY ?_
 exact ja hwf (by simp [h1,h3]) rfl
end Go.Vw
