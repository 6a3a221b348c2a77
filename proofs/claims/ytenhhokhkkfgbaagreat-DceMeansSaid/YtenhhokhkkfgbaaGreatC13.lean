import Derived.Test.YtenhhokhkkfgbaaGreatC12
/- Part of the proof. -/
set_option linter.unusedVariables false
set_option linter.unusedSimpArgs false
set_option maxRecDepth 10000
set_option maxHeartbeats 2000000
/-
 Functions whose results lie in cells; objects of one's own that become immutable.
-/
namespace Go.Vw
open Go.RowKit
section
variable {P:Program} {N:Nat} {S:Store} {m:Imm} {β:Objs} {w:World} {σ:Fr} {a:Act}
theorem load_run {t:TypeId} {q:Nat} {sz:Option Nat} {x:V} (hsz:Program.szOf P t=some sz) (hS:Holds S m β w) (hF:FrameRep N m β σ a) (he:Jm sz S (σ.look q)=some x) :
  ∃ ad u,a.tmps.getD q undef = .pointer (some ad)/\(loadVar t ad).run P w = .ok u w/\Rep m β x u:=by
 have hr:=hF.rep q;generalize σ.look q=p at he hr
 cases p with
 | ref x' =>
  simp only [Jm] at he;split at he
  ·rename_i hok
   cases he
   obtain ⟨u,b,off,arr,T,fz,e,hm,hu,hc⟩:=hr.inv_ref;refine ⟨_,u,e,qm hsz (hS.imm _ _ hm) u ?_ hc, .imm hu⟩;refine ⟨fun n hn => ?_,fun hn => ?_⟩
   ·subst hn
    cases x<;>simp [okSz] at hok
    cases hu with | agg xs vs hl _ _=>exact ⟨vs,rfl,by omega⟩
   ·subst hn;simp only [okSz] at hok;have:=(Rep.imm (β:=β) hu).oneCell hok
    cases u<;>first | rfl | simp [Value.oneCell'] at this
  ·cases he
 | ptr o' off =>
  simp only [Jm] at he
  cases hc:S.get o' with
  | none=>simp [hc] at he
  | some c =>
   simp only [hc] at he;obtain ⟨b,base,s,n,hob,e⟩:=hr.inv_ptr (hS.alive hc);obtain ⟨_,arr,T,h1,h2,h3,h4⟩:=hS.cells_at hc hob
   cases sz with
   | none =>
    simp only [WK] at he;obtain ⟨v,hv,hrv,hone⟩:=h4 off x he;have ec:v.cells = #[v]:=by cases v<;>first | rfl | simp [Value.oneCell'] at hone
    refine ⟨_,v,e,qm hsz h1 v ⟨(by intro n hn; cases hn),fun _=>ec⟩ fun j c' hj => ?_,hrv⟩;rw [ec] at hj
    cases j with
    | zero=>simp at hj; subst hj; simpa using hv
    | succ j=>simp at hj
   | some k =>
    simp only [WK] at he;split at he
    ·rename_i hle
     cases he
     obtain ⟨vs,hl,hcs,hrl,hone⟩:=Jh h4 off k hle;refine ⟨_, .agg vs.toArray,e,qm hsz h1 _ ⟨(by intro n hn; cases hn; exact ⟨vs,rfl,hl⟩),(by intro hn; cases hn)⟩ fun j c' hj => ?_, .agg _ vs hrl.1 hrl.2 hone⟩;exact hcs j c' (by simpa [Value.cells] using hj)
    ·cases he
 | _=>simp [Jm] at he
def resC1 (P:Program):ResultVar->Option (Nat × Option (Option Nat))
 | .tmp t=>some (t,none)
 | .cell q t=>(Program.szOf P t).map fun sz=>(q,some sz)
def resC (P:Program) (fn:Func):Option (List (Nat × Option (Option Nat))):=fn.results.toList.mapM (resC1 P)
def resL1 (S:Store) (σ:Fr):Nat × Option (Option Nat)->Option V
 | (t,none)=>some (σ.look t)
 | (t,some sz)=>Jm sz S (σ.look t)
def resL (S:Store) (σ:Fr):List (Nat × Option (Option Nat))->Option (List V)
 | []=>some []
 | r::rs=>match resL1 S σ r,resL S σ rs with
  | some x,some xs=>some (x::xs)
  | _,_=>none
def tupV:List V->V
 | [x]=>x
 | xs => .tuple xs
def bodyC (rs:List (Nat × Option (Option Nat))) (R:V->Store->Prop):Exit->Fr->Store->Prop
 | .normal,σ,S => ∃ xs,resL S σ rs=some xs/\R (tupV xs) S
 | .ret,σ,S => ∃ xs,resL S σ rs=some xs/\R (tupV xs) S
 | _,_,_=>False
theorem YW {fn:Func} {rs:List (Nat × Option (Option Nat))} (h:resC P fn=some rs) (hS:Holds S m β w) (hF:FrameRep N m β σ a) {xs:List V} (hx:resL S σ rs=some xs) : ∃ v,(results fn a.tmps).run P w = .ok v w/\Rep m β (tupV xs) v:=by
 have gen : ∀ (l:List ResultVar) (rs:List (Nat × Option (Option Nat))) (xs:List V),l.mapM (resC1 P)=some rs->resL S σ rs=some xs ->
   ∃ vs:List Value,(l.mapM fun r=>(match r with
    | .tmp t=>pure (a.tmps.getD t undef)
    | .cell q t=>do loadVar t (<-asAddr (a.tmps.getD q undef)):Sem Value)).run P w = .ok vs w/\RepL m β xs vs:=by
  intro l
  induction l with
  | nil=>intro rs xs h hx; simp at h; subst h; simp only [resL,ay] at hx; subst hx; exact ⟨[],rfl,RepL.nil _ _⟩
  | cons r l ih =>
   intro rs xs h hx;simp only [List.mapM_cons,Option.bind_eq_bind,aN] at h;obtain ⟨b,hb,r',hr',h⟩:=h;simp at h; subst h;simp only [resL] at hx;split at hx
   ·rename_i x xs' h1 h2
    cases hx
    obtain ⟨vs,k1,k2⟩:=ih r' xs' hr' h2
    cases r with
    | tmp t =>
     simp only [resC1,ay] at hb;subst hb;simp only [resL1,ay] at h1;subst h1;refine ⟨a.tmps.getD t undef::vs, ?_, .cons (hF.rep t) k2⟩;rw [List.mapM_cons,Sem.run_bind,Sem.run_pure,Result.andThen_ok,Sem.run_bind,k1]
     rfl
    | cell q t =>
     simp only [resC1] at hb;obtain ⟨sz,hsz,e⟩:=av.1 hb;subst e;simp only [resL1] at h1;obtain ⟨ad,u,e1,e2,e3⟩:=load_run hsz hS hF h1;refine ⟨u::vs, ?_, .cons e3 k2⟩;have e4:((do loadVar t (<-asAddr (a.tmps.getD q undef))):Sem Value).run P w = .ok u w:=by
      rw [e1,show asAddr (.pointer (some ad))=pure ad from rfl,pure_bind,e2]
     rw [List.mapM_cons,Sem.run_bind,e4,Result.andThen_ok,Sem.run_bind,k1]
     rfl
   ·cases hx
 obtain ⟨vs,h1,hl,h2⟩:=gen fn.results.toList rs xs h hx;have hrun:(results fn a.tmps).run P w = .ok (if h:vs.toArray.size=1 then vs.toArray[0] else .tuple vs.toArray) w:=by
  unfold results;rw [Sem.run_bind,Array.mapM_eq_mapM_toList,Sem.run_map]
  erw [h1]
  rfl
 refine ⟨_,hrun, ?_⟩
 match xs,vs,hl,h2 with
 | [x],[v],_,h2=>exact h2 0 x v rfl rfl
 | [],[],_,_=>exact zB m β
 | x::y::xs,u::v::vs,hl,h2 =>
  rw [dif_neg (by simp)];exact .tuple _ _ hl h2
theorem vcalls_bodyC {f:FuncId} {fn:Func} {c:Code} {rs:List (Nat × Option (Option Nat))} {args:List V} {R:V->Store->Prop} (hf:P.funcs[f]? = some fn) (hb:fn.body=some c) (ht:resC P fn=some rs) (hn:args.length<=fn.ntmps)
  (h:VWp P fn.ntmps S.nx c (bodyC rs R) (Kh 0 args) S):VCalls P f args S R:=by
 intro m β w vs hS hr;refine calls_of_wp hf hb ?_;have hF:FrameRep fn.ntmps m β (Kh 0 args) { tmps:=vs.toArray++Array.replicate (fn.ntmps-vs.toArray.size) undef,defers:=[] }:=by
  have hl:=hr.1;refine ⟨by simp; omega,rfl,fun t => ?_⟩;rw [Wo];simp only [Nat.zero_le,if_true,Nat.sub_zero]
  cases hx:args[t]? with
  | none=>exact .junk _
  | some x =>
   have hlt:t<vs.length:=by rw [<-hl]; exact (ae.1 hx).1
   have:(vs.toArray++Array.replicate (fn.ntmps-vs.toArray.size) undef).getD t undef=vs[t]:=by
    simp [a6,Array.getElem?_append,hlt]
   simp only [this,aS];exact hr.2 t x _ hx (ac hlt)
 refine wp_mono (h m β w _ hS hF) ?_;rintro e a' w' ⟨σ',S',m',β',q,r1,r2,r3⟩;have back:ExtB S.nx m β w m' β' w'->Ext m β w m' β' w':=fun h=>⟨h.imm,fun o ho=>h.step o (by
  rcases Nat.lt_or_ge o S.nx with hl | hl
  ·exact hl
  ·exact absurd ((hS.fresh o).2 hl) ho) ho,h.size,h.keep,h.os,h.tape,h.output⟩
 cases e with
 | normal =>
  obtain ⟨xs,q1,q2⟩:=q;obtain ⟨v,hv,hrv⟩:=YW (P:=P) ht r1 r2 q1;exact ⟨r2.defers,v,hv,v,_,S',m',β',rfl,q2,hrv,r1,back r3⟩
 | ret =>
  obtain ⟨xs,q1,q2⟩:=q;obtain ⟨v,hv,hrv⟩:=YW (P:=P) ht r1 r2 q1;exact ⟨r2.defers,v,hv,v,_,S',m',β',rfl,q2,hrv,r1,back r3⟩
 | _=>exact q.elim
theorem qA {f:FuncId} {fn:Func} {c:Code} {rs:List (Nat × Option (Option Nat))} {args:List V} {R:V->Store->Prop} (hf:P.funcs[f]? = some fn) (hb:fn.body=some c) (ht:resC P fn=some rs) (hn:args.length<=fn.ntmps)
  (h:S.Wf->VWp P fn.ntmps S.nx c (bodyC rs (Ja S.nx R)) (Kh 0 args) (St S [] [])):VCalls P f args S R:=by
 refine JH fun hwf=>qZ (vcalls_bodyC hf hb ht hn ?_)
 have:=h hwf;rw [jM hwf] at this;exact this
theorem WW {rs:List (Nat × Option (Option Nat))} {R:V->Store->Prop} {xs:List V} (h:resL S σ rs=some xs) (hR:R (tupV xs) S) : ∃ xs,resL S σ rs=some xs/\R (tupV xs) S:=⟨xs,h,hR⟩
end
theorem resL_nil (S:Store) (σ:Fr):resL S σ []=some []:=nr rfl
def consO:Option V->Option (List V)->Option (List V)
 | some x,some xs=>some (x::xs)
 | _,_=>none
theorem resL_cons (S:Store) (σ:Fr) (r) (rs):resL S σ (r::rs)=consO (resL1 S σ r) (resL S σ rs):=nr rfl
theorem consO_some (x:V) (xs:List V):consO (some x) (some xs)=some (x::xs):=nr rfl
theorem resL1_t (S:Store) (σ:Fr) (t:Nat):resL1 S σ (t,none)=some (σ.look t):=nr rfl
theorem resL1_c (S:Store) (σ:Fr) (t:Nat) (sz:Option Nat):resL1 S σ (t,some sz)=Jm sz S (σ.look t):=nr rfl
theorem tupV_1 (x:V):tupV [x]=x:=nr rfl
theorem tupV_2 (x y:V) (r:List V):tupV (x::y::r) = .tuple (x::y::r):=nr rfl
attribute [simp] resL_nil resL_cons consO_some resL1_t resL1_c tupV_1 tupV_2
theorem Ghost.refS {S:Store} {o s:Nat} {cs:List V} (hc:S.get o=some (s,cs)) (h1:cs.all V.closed1=true) (hne:cs≠[]):Ghost (.ptr o 0) S (.ref (.agg cs)) (S.del o):=by
 intro m β w v hS hr;obtain ⟨b,base,s',n,hob,rfl⟩:=hr.inv_ptr (hS.alive hc);obtain ⟨_,arr,T,e1,e2,e3,e4⟩:=hS.cells_at hc hob;obtain ⟨k1,k2⟩:=hS.freeze hc hob e1;obtain ⟨vs,hl,hcs,hrl,hone⟩:=Jh e4 0 cs.length (by simp);simp only [List.drop_zero,List.take_length] at hrl;have hall : ∀ x∈cs,x.closed1=true:=by simpa using h1
 refine ⟨_,_,k1,k2, .imm (.ref (.agg cs) (.agg vs.toArray) b (base+0) arr T (0,0) (by simp [Imm.set]) (.agg cs vs hrl.1 (fun i x u hx hu=>((hrl.2 i x u hx hu).closed1 (hall x (aA hx))).mono k2.imm) hone) fun j c hj => ?_)⟩;exact hcs j c (by simpa [Value.cells] using hj)
theorem refSt {B:Store} {u:Upds} {l:List (Option (Nat × List V))} {k s:Nat} {cs:List V} (hk:k<l.length) (hc:(l[k]?).join=some (s,cs)) (hcl:cs.all V.closed1=true) (hne:cs≠[]) :
  Ghost (.ptr (lid B.nx k) 0) (St B u l) (.ref (.agg cs)) (St B u (l.set k none)):=by
 rw [<-jbY hk];exact Ghost.refS (by rw [jv]; exact hc) hcl hne
theorem QH {P:Program} {N b:Nat} {Q:Exit->Fr->Store->Prop} {σ σ':Fr} {B:Store} {u:Upds} {l l':List (Option (Nat × List V))} {c:Code} {s:Nat} {cs:List V} (t k:Nat) (H:VWp P N b c Q σ' (St B u l')) (hx:σ.look t=.ptr (lid B.nx k) 0:=by exact rfl) (hk:k<l.length:=by simp) (hc:(l[k]?).join=some (s,cs):=by exact rfl) (hcl:cs.all V.closed1=true:=by exact rfl) (hne:cs≠[]:=by simp) (hs:σ.set t (.ref (.agg cs))=σ':=by conv=>lhs; simp [Fr.set]) (hl:l.set k none=l':=by conv=>lhs; simp only [aq,au]):VWp P N b c Q σ (St B u l):=jt t hx (refSt hk hc hcl hne) hs (by rw [hl]; exact H)
end Go.Vw
namespace Ss
def isKind (t:Int):Bool:=decide (t=127)||decide (t=126)
def kinds (most:Nat) (l:List Int):Bool:=decide (l.length<=most)&&l.all isKind
def Sig.right (s:Sig):Bool:=kinds 8 s.inn&&kinds 8 s.out
def Env.right (e:Env):Bool:=decide (0<=e.imports)&&decide (e.imports<=e.sigs.length)&&decide (e.sigs.length<=64)&&decide (e.muts.length=e.globals.length)&&kinds 32 e.globals&&e.sigs.all Sig.right
end Ss
namespace Go.Vw
open Go.Proofs Go.RowKit
attribute [-simp] List.map_set
theorem isKind_v (t:Int):bS 96 [vint t] (.bool (Ss.isKind t)):=by
 intro S;refine QB (c:=jc Tryz.f96) Tryz.func96 Tryz.ntmps96 fun hwf=>?_
 by_cases h:t=127
 ·refine bx h ?_
  exact ja hwf (by simp [Ss.isKind,h]) rfl
 ·refine bx h ?_
  exact ja hwf (by simp [Ss.isKind,h]) rfl
theorem kinds1_v (t:Int):bS 95 ([vint t]++[]) (.bool (!Ss.isKind t)):=by
 intro S;refine QB (c:=jc Tryz.f95) Tryz.func95 Tryz.ntmps95 fun hwf=>?_
 refine bw ?_
 refine QP ?_;refine QL (isKind_v t) ?_;refine bQ ?_
 exact bN
theorem jcG (most:Nat) (l:List Int) (hl:l.length<2^63):bS 59 [vnat most,vl vint l] (.bool (Ss.kinds most l)):=by
 intro S;have e:(!l.any fun t => !Ss.isKind t)=l.all Ss.isKind:=by
  rw [List.not_any_eq_all_not]; congr 1; funext t; simp
 by_cases h:l.length<=most
 ·have h':(l.length:Int)<=(most:Int):=by omega
  have hX:Ss.kinds most l = !l.any fun t => !Ss.isKind t:=by rw [e]; simp [Ss.kinds,h]
  rw [hX];refine QB (c:=jc Tryz.f59) Tryz.func59 Tryz.ntmps59 fun hwf=>?_
  refine bt h h' ?_
  refine bK h h' ?_;refine QL (AnyI_v l (fun t => !Ss.isKind t) _ [] rfl hl (fun t _=>kinds1_v t)) ?_;refine bQ ?_
  exact ja hwf (by simp) rfl
 ·have h' : ¬ (l.length:Int)<=(most:Int):=by omega
  have hX:Ss.kinds most l=false:=by simp [Ss.kinds,h]
  rw [hX];refine QB (c:=jc Tryz.f59) Tryz.func59 Tryz.ntmps59 fun hwf=>?_
  refine bt h h' ?_
  exact bN
theorem jbv (s:Ss.Sig) (hs:s.Fits):bS 60 [jm s] (.bool s.right):=by
 intro S;obtain ⟨⟨h1,_⟩,⟨h2,_⟩⟩:=hs;obtain ⟨a,b⟩:=s;simp only at h1 h2;have hX:Ss.Sig.right ⟨a,b⟩=(Ss.kinds 8 a&&Ss.kinds 8 b):=rfl;rw [hX];have c1:bS 59 [.int .i64 8,vl vint a] (.bool (Ss.kinds 8 a)):=jcG 8 a (by omega);have c2:bS 59 [.int .i64 8,vl vint b] (.bool (Ss.kinds 8 b)):=jcG 8 b (by omega);generalize Ss.kinds 8 a=x at *
 generalize Ss.kinds 8 b=y at *
 refine QB (c:=jc Tryz.f60) Tryz.func60 Tryz.ntmps60 fun hwf=>?_
 refine bw ?_
 refine QP ?_;refine QL (c1) ?_
 by_cases hx:x=true
 ·refine bB hx ?_;refine QL (c2) ?_;refine bQ ?_
  exact ja hwf (by simp [hx]) rfl
 ·have hx':x=false:=by simpa using hx
  refine bB hx' ?_;refine bR ?_
  exact ja hwf (by simp [hx']) rfl
theorem envRight1_v (s:Ss.Sig) (hs:s.Fits):bS 92 ([jm s]++[]) (.bool (!s.right)):=by
 intro S;have c1:=jbv s hs;obtain ⟨a,b⟩:=s;have c1':bS 60 [.agg [vl vint a,vl vint b]] (.bool (Ss.Sig.right ⟨a,b⟩)):=c1;refine QB (c:=jc Tryz.f92) Tryz.func92 Tryz.ntmps92 fun hwf=>?_
 refine bw ?_
 refine QP ?_;refine QL (c1') ?_;refine bQ ?_
 exact bN
theorem EnvRight_v (e:Ss.Env) (he:e.Fits):bS 57 [qL e] (.bool e.right):=by
 intro S;obtain ⟨⟨h1,h2⟩,_,⟨h4,_⟩,h5⟩:=he;obtain ⟨sg,im,gl,mu,me⟩:=e;simp only at h1 h2 h4 h5;have ea:(!sg.any fun s => !s.right)=sg.all Ss.Sig.right:=by
  rw [List.not_any_eq_all_not]; congr 1; funext t; simp
 have hX:Ss.Env.right ⟨sg,im,gl,mu,me⟩=(decide (0<=im)&&decide (im<=sg.length)&&decide (sg.length<=64)&&decide (mu.length=gl.length)&&Ss.kinds 32 gl && !sg.any fun s => !s.right):=by rw [ea]; rfl
 rw [hX];have c1:bS 59 [.int .i64 32,vl vint gl] (.bool (Ss.kinds 32 gl)):=jcG 32 gl (by omega);have c2:=AnyS_v sg (fun s => !s.right) 92 [] rfl (by omega) (fun s hs=>envRight1_v s (h2 s hs));generalize Ss.kinds 32 gl=x at *
 generalize (sg.any fun s => !s.right)=y at *
 refine QB (c:=jc Tryz.f57) Tryz.func57 Tryz.ntmps57 fun hwf=>?_
 by_cases k1:im<0
 ·refine bx k1 ?_
  exact ja hwf (by simp; omega) rfl
 by_cases k2:(sg.length:Int)<im
 ·refine bt k1 k2 ?_
  exact ja hwf (by simp; omega) rfl
 by_cases k3:(64:Int)<(sg.length:Int)
 ·refine bv k1 k2 k3 ?_
  exact ja hwf (by simp; omega) rfl
 by_cases k4:mu.length=gl.length
 case neg =>
  have k4' : ¬ (mu.length:Int)=(gl.length:Int):=by omega
  refine bJ k1 k2 k3 k4 k4' ?_
  exact ja hwf (by simp [k4]) rfl
 have k4':(mu.length:Int)=(gl.length:Int):=by omega
 have hp:(decide (0<=im)&&decide (im<=sg.length)&&decide (sg.length<=64)&&decide (mu.length=gl.length))=true:=by simp [k4]; omega
 rw [hp]
 refine bJ k1 k2 k3 k4 k4' ?_
 refine QP ?_;refine QL (c1) ?_
 by_cases hx:x=true
 ·refine bB hx ?_;refine QL (c2) ?_;refine bQ ?_
  exact ja hwf (by simp [hx]) rfl
 ·have hx':x=false:=by simpa using hx
  refine bB hx' ?_;refine bR ?_
  exact ja hwf (by simp [hx']) rfl
theorem check1_v (b:Ss.Block):bS 62 ([je b]++[]) (.bool (decide (256<b.params.length))):=by
 intro S;obtain ⟨ps,c,t⟩:=b;refine QB (c:=jc Tryz.f62) Tryz.func62 Tryz.ntmps62 fun hwf=>?_
 refine bw ?_
 exact ja hwf (by simp; omega) rfl
end Go.Vw
namespace Ss
structure Grp where
 first:Int
 many:Int
 kind:Int
 ty:Int
deriving DecidableEq,Inhabited
def groups:List Grp:=[⟨69,1,0,127⟩,⟨70,10,1,127⟩,⟨80,1,0,126⟩,⟨81,10,1,126⟩,⟨103,3,2,127⟩,⟨106,15,3,127⟩,⟨121,3,2,126⟩,⟨124,15,3,126⟩,⟨167,1,4,126⟩,⟨172,2,5,127⟩,⟨192,2,6,127⟩,⟨194,3,6,126⟩]
def Grp.has (op:Int) (g:Grp):Bool:=decide (g.first<=op)&&decide (op-g.first<g.many)
def findIn (op:Int):List Grp->Option Grp
 | []=>none
 | g::gs=>if g.has op then some g else findIn op gs
def find (op:Int):Option Grp:=findIn op groups
theorem findIn_mem {op:Int} {g:Grp} : ∀ {gs:List Grp},findIn op gs=some g->g∈gs/\g.has op=true
 | [],h=>by simp [findIn] at h
 | x::xs,h=>by
  simp only [findIn] at h;split at h
  ·rename_i hx; cases h; exact ⟨by simp,hx⟩
  ·obtain ⟨h1,h2⟩:=findIn_mem h; exact ⟨by simp [h1],h2⟩
def division (k:Int):Bool:=decide (3<=k)&&decide (k<=6)
def total (op:Int):Bool:=match find op with
 | some g => !(decide (g.kind=3)&&division (op-g.first))
 | none=>false
def pure (op:Int):Bool:=decide (op=256)||decide (op=27)||total op
def Grp.ins (g:Grp):List Int:=if g.kind=1\/g.kind=3 then [g.ty,g.ty] else [g.ty]
def Grp.out (g:Grp):Int:=if g.kind=0\/g.kind=1\/g.kind=4 then 127 else if g.kind=5 then 126 else g.ty
def numSig (op:Int):List Int × Int × Bool:=match find op with
 | some g=>(g.ins,g.out,true)
 | none=>([],0,false)
end Ss
namespace Go.Vw
open Go.Proofs Go.RowKit
attribute [-simp] List.map_set
def Ze (g:Ss.Grp):V := .agg [vint g.first,vint g.many,vint g.kind,vint g.ty]
theorem encGrp_eq (g:Ss.Grp):Ze g = .agg [vint g.first,vint g.many,vint g.kind,vint g.ty]:=nr rfl
theorem encGrp_nc (g:Ss.Grp):(Ze g).ncells=4:=nr rfl
theorem jcO (g:Ss.Grp):(Ze g).closed=true:=rfl
attribute [simp] encGrp_eq encGrp_nc
theorem groups_v:bS 131 [] (vl Ze Ss.groups):=by
 intro S;refine QB (c:=jc Tryz.f131) Tryz.func131 Tryz.ntmps131 fun hwf=>?_
 have hr:rep0 [V.int .i64 0, .int .i64 0, .int .i64 0, .int .i64 0] 12=[.int .i64 0, .int .i64 0, .int .i64 0, .int .i64 0, .int .i64 0, .int .i64 0, .int .i64 0, .int .i64 0, .int .i64 0, .int .i64 0, .int .i64 0, .int .i64 0, .int .i64 0, .int .i64 0, .int .i64 0, .int .i64 0, .int .i64 0, .int .i64 0, .int .i64 0, .int .i64 0, .int .i64 0, .int .i64 0, .int .i64 0, .int .i64 0, .int .i64 0, .int .i64 0, .int .i64 0, .int .i64 0, .int .i64 0, .int .i64 0, .int .i64 0, .int .i64 0, .int .i64 0, .int .i64 0, .int .i64 0, .int .i64 0, .int .i64 0, .int .i64 0, .int .i64 0, .int .i64 0, .int .i64 0, .int .i64 0, .int .i64 0, .int .i64 0, .int .i64 0, .int .i64 0, .int .i64 0, .int .i64 0]:=rfl
 refine bx hr ?_
 exact jf (l:=[none]) hwf (Ghost.toB (frzSt (k:=0) (enc:=Ze) (s:=4) (fun _=>rfl) jcO Ss.groups (by simp) (by rfl)) _) rfl
def findV (op:Int):Option Ss.Grp->V
 | some g => .tuple [Ze g,vint (op-g.first), .bool true]
 | none => .tuple [Ze ⟨0,0,0,0⟩,vint 0, .bool false]
theorem find_v (op:Int) (ho:Ss.I64 op):bS 107 [vint op] (findV op (Ss.find op)):=by
 intro S;have hgs : ∀ g∈Ss.groups,0<=g.first/\g.first<=1000/\0<=g.many/\g.many<=1000:=by decide
 have hlen:Ss.groups.length=12:=rfl;have cg:=groups_v;unfold Ss.find;generalize Ss.groups=gs at *
 obtain ⟨ho1,ho2⟩:=ho;refine qA (c:=jc Tryz.f107) Tryz.func107 rfl (by conv=>lhs; reduce) (by simp [Tryz.ntmps107]) ?_;rw [Tryz.ntmps107];intro hwf
 refine bw ?_
 refine QP ?_;refine QL (cg) ?_;refine bQ ?_
 refine QT ?_;refine jd [0,2,7,8,9] rfl (fun c σ S' => ∃ (k:Nat),k<=gs.length/\c=gs.length-k/\Ss.findIn op (gs.drop k)=Ss.findIn op gs/\σ=[(0,vint op),(2, .ptr (lid S.nx 0) 0),(7,vl Ze gs),(8,vnat gs.length),(9,vnat k)]/\S'=St S [] [some (4,[.int .i64 0, .int .i64 0, .int .i64 0, .int .i64 0])]) gs.length ?_ ?_
 ·exact ⟨0,by omega,rfl,rfl,by simp [Fr.only],rfl⟩
 ·rintro c σ T ⟨k,hk,rfl,hd,rfl,rfl⟩
  by_cases hkt:k<gs.length
  ·have hw:=jg hkt (by omega);have hst:Ss.findIn op (gs.drop k)=if gs[k].has op then some gs[k] else Ss.findIn op (gs.drop (k+1)):=by rw [am hkt,Ss.findIn]
   have hgk:=hgs _ (ah hkt);obtain ⟨⟨g1,g2,g3,g4⟩,hx⟩ : ∃ g,gs[k]=g:=⟨_,rfl⟩
   rw [hx] at hst hgk;simp only at hgk
   by_cases h1:g1<=op
   ·have hws:IntKind.i64.wrap (op-g1)=op-g1:=wrap_i64 (by omega) (by omega)
    by_cases h2:op-g1<g2
    ·have hst':Ss.findIn op gs=some ⟨g1,g2,g3,g4⟩:=by rw [<-hd,hst]; simp [Ss.Grp.has,h1,h2]
     rw [hst']
     refine bJ hkt hx h1 h2 hws ?_
     refine QT ?_;refine QJ (St S [] [none,some (4,[.int .i64 g1, .int .i64 g2, .int .i64 g3, .int .i64 g4])]) (St S [] [none,some (4,[.int .i64 g1, .int .i64 g2, .int .i64 g3, .int .i64 g4])]) [] ?_ (r:=by conv=>lhs; simp [QV,hws]);refine QI ?_;refine bB hws ?_;refine bR ?_
     exact WW (by simp; rfl) (ja hwf (by simp [findV]) rfl)
    ·rw [show Ss.Grp.has op ⟨g1,g2,g3,g4⟩=false by simp [Ss.Grp.has,h1,h2]] at hst
     refine bJ hkt hx h1 h2 hws ?_
     refine QA [0] (h:=⟨?_,k+1,hkt,rfl,by rw [<-hd,hst]; rfl,by simp [hw],rfl⟩);omega
   ·rw [show Ss.Grp.has op ⟨g1,g2,g3,g4⟩=false by simp [Ss.Grp.has,h1]] at hst
    refine bv hkt hx h1 ?_
    refine QA [0] (h:=⟨?_,k+1,hkt,rfl,by rw [<-hd,hst]; rfl,by simp [hw],rfl⟩);omega
  ·have e:gs.drop k=[]:=by rw [aH]; omega
   rw [e] at hd;have hd':Ss.findIn op gs=none:=by rw [<-hd]; rfl
   rw [hd']
   refine bx hkt ?_
   exact WW (by simp; rfl) (ja hwf (by simp [findV]) rfl)
end Go.Vw
namespace Ss
def rin (op a b:Int):Bool:=decide (a<=op)&&decide (op<=b)
def rof (op:Int):Int :=
 if rin op 69 79\/rin op 103 120\/op=172\/op=173\/op=192\/op=193 then 127
 else if rin op 80 90\/rin op 121 138\/op=167\/rin op 194 196 then 126 else 0
def runary (op:Int):Bool:=decide (op=69)||(decide (op=80)||(rin op 103 105||(rin op 121 123||decide (167<=op))))
def rsigT (op:Int):Int:=if op=172\/op=173 then 126 else if rin op 69 90\/op=167 then 127 else rof op
def rsig (op:Int):List Int × Int × Bool :=
 if rof op=0 then ([],0,false) else (if runary op then [rof op] else [rof op,rof op],rsigT op,true)
theorem rsig_small : ∀ n:Nat,n<256->rsig (n:Int)=numSig (n:Int):=by decide +kernel
theorem rsig_eq (op:Int):rsig op=numSig op:=by
 by_cases h:0<=op/\op<256
 ·obtain ⟨n,rfl⟩:=Int.eq_ofNat_of_zero_le h.1;exact rsig_small n (by have:=h.2; omega)
 ·have h1:rof op=0:=by
   unfold rof;rw [if_neg (by simp only [rin,af,aj]; omega),if_neg (by simp only [rin,af,aj]; omega)]
  have h2:find op=none:=by
   cases hf:find op with
   | none=>rfl
   | some g =>
    exfalso
    obtain ⟨hm,hh⟩:=findIn_mem hf;have ha : ∀ g∈groups,0<=g.first/\g.first+g.many<=256:=by decide +kernel
    have:=ha g hm;simp only [Grp.has,af,aj] at hh;omega
  simp [rsig,h1,numSig,h2]
end Ss
namespace Go.Vw
open Go.Proofs Go.RowKit
attribute [-simp] List.map_set
theorem in_v (op a b:Int):bS 90 [vint op,vint a,vint b] (.bool (Ss.rin op a b)):=by
 intro S
 by_cases h:a<=op
 ·have hX:Ss.rin op a b=decide (op<=b):=by simp [Ss.rin,h]
  rw [hX];refine QB (c:=jc Tryz.f90) Tryz.func90 Tryz.ntmps90 fun hwf=>?_
  refine bx h ?_
  exact ja hwf (by simp) rfl
 ·have hX:Ss.rin op a b=false:=by simp [Ss.rin,h]
  rw [hX];refine QB (c:=jc Tryz.f90) Tryz.func90 Tryz.ntmps90 fun hwf=>?_
  refine bx h ?_
  exact ja hwf (by simp) rfl
theorem jbe (t n:Int):bS 84 [vint t,vu n] (.bool (decide (t=126)||(decide (t=127)&&decide (n<4294967296)))):=by
 intro S;refine QB (c:=jc Tryz.f84) Tryz.func84 Tryz.ntmps84 fun hwf=>?_
 by_cases h:t=126
 ·refine bx h ?_
  exact ja hwf (by simp [h]) rfl
 by_cases h2:t=127
 ·refine bt h h2 ?_
  exact ja hwf (by simp [h,h2]) rfl
 ·refine bt h h2 ?_
  exact ja hwf (by simp [h,h2]) rfl
theorem Of_v (op:Int):bS 89 [vint op] (vint (Ss.rof op)):=by
 intro S;have c1:bS 90 [vint op, .int .i64 69, .int .i64 79] (.bool (Ss.rin op 69 79)):=in_v op 69 79;have c2:bS 90 [vint op, .int .i64 103, .int .i64 120] (.bool (Ss.rin op 103 120)):=in_v op 103 120;have c3:bS 90 [vint op, .int .i64 80, .int .i64 90] (.bool (Ss.rin op 80 90)):=in_v op 80 90;have c4:bS 90 [vint op, .int .i64 121, .int .i64 138] (.bool (Ss.rin op 121 138)):=in_v op 121 138;have c5:bS 90 [vint op, .int .i64 194, .int .i64 196] (.bool (Ss.rin op 194 196)):=in_v op 194 196;have hX:Ss.rof op=if Ss.rin op 69 79\/Ss.rin op 103 120\/op=172\/op=173\/op=192\/op=193 then 127
  else if Ss.rin op 80 90\/Ss.rin op 121 138\/op=167\/Ss.rin op 194 196 then 126 else 0:=rfl
 rw [hX];generalize Ss.rin op 69 79=x1 at *
 generalize Ss.rin op 103 120=x2 at *
 generalize Ss.rin op 80 90=x3 at *
 generalize Ss.rin op 121 138=x4 at *
 generalize Ss.rin op 194 196=x5 at *
 clear hX;refine QB (c:=jc Tryz.f89) Tryz.func89 Tryz.ntmps89 fun hwf=>?_
 refine bw ?_
 refine QP ?_;refine QL (c1) ?_
 by_cases h1:x1=true
 ·refine bB h1 ?_;refine bR ?_
  exact ja hwf (by simp [h1]) rfl
 have g1:x1=false:=by simpa using h1
 refine bB g1 ?_;refine QL (c2) ?_
 by_cases h2:x2=true
 ·refine bB h2 ?_;refine bR ?_
  exact ja hwf (by simp [h2]) rfl
 have g2:x2=false:=by simpa using h2
 by_cases k1:op=172
 ·refine bF g2 k1 ?_;refine bR ?_
  exact ja hwf (by simp [k1]) rfl
 by_cases k2:op=173
 ·refine bG g2 k1 k2 ?_;refine bR ?_
  exact ja hwf (by simp [k2]) rfl
 by_cases k3:op=192
 ·refine QM (by conv=>lhs;simp[QV,g2,k1,k2,k3]) ?_;refine bR ?_
  exact ja hwf (by simp [k3]) rfl
 by_cases k4:op=193
 ·refine QM (by conv=>lhs;simp[QV,g2,k1,k2,k3,k4]) ?_;refine bR ?_
  exact ja hwf (by simp [k4]) rfl
 rw [if_neg (by simp [g1,g2,k1,k2,k3,k4])];refine QM (by conv=>lhs;simp[QV,g2,k1,k2,k3,k4]) ?_;refine bR ?_
 refine QP ?_;refine QL (c3) ?_
 by_cases h3:x3=true
 ·refine bB h3 ?_;refine bR ?_
  exact ja hwf (by simp [h3]) rfl
 have g3:x3=false:=by simpa using h3
 refine bB g3 ?_;refine QL (c4) ?_
 by_cases h4:x4=true
 ·refine bB h4 ?_;refine bR ?_
  exact ja hwf (by simp [h4]) rfl
 have g4:x4=false:=by simpa using h4
 by_cases k5:op=167
 ·refine bF g4 k5 ?_;refine bR ?_
  exact ja hwf (by simp [k5]) rfl
 refine bF g4 k5 ?_;refine QL (c5) ?_
 by_cases h5:x5=true
 ·refine bB h5 ?_;refine bR ?_
  exact ja hwf (by simp [h5]) rfl
 have g5:x5=false:=by simpa using h5
 refine bB g5 ?_;refine bR ?_
 exact ja hwf (by simp [g3,g4,k5,g5]) rfl
theorem Unary_v (op:Int):bS 132 [vint op] (.bool (Ss.runary op)):=by
 intro S;have c1:bS 90 [vint op, .int .i64 103, .int .i64 105] (.bool (Ss.rin op 103 105)):=in_v op 103 105;have c2:bS 90 [vint op, .int .i64 121, .int .i64 123] (.bool (Ss.rin op 121 123)):=in_v op 121 123;have hX:Ss.runary op=(decide (op=69)||(decide (op=80)||(Ss.rin op 103 105||(Ss.rin op 121 123||decide (167<=op))))):=rfl;rw [hX];generalize Ss.rin op 103 105=x1 at *
 generalize Ss.rin op 121 123=x2 at *
 refine QB (c:=jc Tryz.f132) Tryz.func132 Tryz.ntmps132 fun hwf=>?_
 by_cases k1:op=69
 ·refine bx k1 ?_
  exact ja hwf (by simp [k1]) rfl
 by_cases k2:op=80
 ·refine bt k1 k2 ?_
  exact ja hwf (by simp [k2]) rfl
 refine bw ?_
 refine bK k1 k2 ?_;refine QL (c1) ?_
 by_cases h1:x1=true
 ·refine bB h1 ?_;refine bR ?_
  exact ja hwf (by simp [h1]) rfl
 have g1:x1=false:=by simpa using h1
 refine bB g1 ?_;refine QL (c2) ?_
 by_cases h2:x2=true
 ·refine bB h2 ?_;refine bR ?_
  exact ja hwf (by simp [h2]) rfl
 have g2:x2=false:=by simpa using h2
 refine bB g2 ?_;refine bR ?_
 exact ja hwf (by simp [k1,k2,g1,g2]) rfl
theorem KG (op:Int):bS 109 [vint op] (.tuple [vl vint (Ss.numSig op).1,vint (Ss.numSig op).2.1, .bool (Ss.numSig op).2.2]):=by
 intro S;rw [<-Ss.rsig_eq op];have c1:=Of_v op;have c2:=Unary_v op;have c3:bS 90 [vint op, .int .i64 69, .int .i64 90] (.bool (Ss.rin op 69 90)):=in_v op 69 90;have hX:Ss.rsig op=if Ss.rof op=0 then ([],0,false) else (if Ss.runary op then [Ss.rof op] else [Ss.rof op,Ss.rof op],if op=172\/op=173 then 126 else if Ss.rin op 69 90\/op=167 then 127 else Ss.rof op,true):=rfl
 rw [hX];generalize Ss.rof op=t at *
 generalize Ss.runary op=un at *
 generalize Ss.rin op 69 90=x at *
 clear hX;refine QB (c:=jc Tryz.f109) Tryz.func109 Tryz.ntmps109 fun hwf=>?_
 refine bw ?_
 refine QP ?_;refine QL (c1) ?_
 by_cases ht:t=0
 ·refine QW ?_
  refine bx ht ?_
  rw [if_pos ht];exact jf (l:=[]) hwf (Ghost.toB (Ghost.tuple [] [_,_] (Ghost.nils_list _)) _) rfl
 rw [if_neg ht];refine QW ?_
 refine bx ht ?_
 refine QP ?_;refine QL (c2) ?_;obtain ⟨r,hr⟩ : ∃ r,(if op=172\/op=173 then 126 else if x\/op=167 then 127 else t)=r:=⟨_,rfl⟩
 simp only [hr]
 by_cases hu:un=true
 ·rw [if_pos hu];refine bB hu ?_;refine QN ?_
  refine bx hu ?_
  refine vw_trim 6 1 rfl (by simp) rfl (by conv=>lhs; simp [au,aq]) ?_;refine QP ?_;refine QL (c3) ?_
  by_cases hx:x=true
  ·skip
   refine bB hx ?_;refine QN ?_
   by_cases k1:op=172
   ·obtain rfl:r=126:=by rw [<-hr]; simp [k1]
    refine bt hx k1 ?_
    exact jf hwf ((Ghost.tuple [] [_,_] (frz1 (k:=0) (by simp) (by rfl) (by rfl) (by rfl))).toB _) rfl
   by_cases k2:op=173
   ·obtain rfl:r=126:=by rw [<-hr]; simp [k2]
    refine bv hx k1 k2 ?_
    exact jf hwf ((Ghost.tuple [] [_,_] (frz1 (k:=0) (by simp) (by rfl) (by rfl) (by rfl))).toB _) rfl
   obtain rfl:r=127:=by rw [<-hr]; simp [k1,k2,hx]
   refine bv hx k1 k2 ?_
   exact jf hwf ((Ghost.tuple [] [_,_] (frz1 (k:=0) (by simp) (by rfl) (by rfl) (by rfl))).toB _) rfl
  have hx':x=false:=by simpa using hx
  by_cases hq:op=167
  ·skip
   refine bF hx' hq ?_;refine QN ?_;have k1 : ¬ op=172:=by omega
   have k2 : ¬ op=173:=by omega
   obtain rfl:r=127:=by rw [<-hr]; simp [k1,k2,hq]
   refine bD hx' hq k1 k2 ?_
   exact jf hwf ((Ghost.tuple [] [_,_] (frz1 (k:=0) (by simp) (by rfl) (by rfl) (by rfl))).toB _) rfl
  refine bF hx' hq ?_;refine QN ?_
  by_cases k1:op=172
  ·obtain rfl:r=126:=by rw [<-hr]; simp [k1]
   refine bv hx' hq k1 ?_
   exact jf hwf ((Ghost.tuple [] [_,_] (frz1 (k:=0) (by simp) (by rfl) (by rfl) (by rfl))).toB _) rfl
  by_cases k2:op=173
  ·obtain rfl:r=126:=by rw [<-hr]; simp [k2]
   refine bD hx' hq k1 k2 ?_
   exact jf hwf ((Ghost.tuple [] [_,_] (frz1 (k:=0) (by simp) (by rfl) (by rfl) (by rfl))).toB _) rfl
  obtain rfl:r=t:=by rw [<-hr]; simp [k1,k2,hx',hq]
  refine bD hx' hq k1 k2 ?_
  exact jf hwf ((Ghost.tuple [] [_,_] (frz1 (k:=0) (by simp) (by rfl) (by rfl) (by rfl))).toB _) rfl
 ·replace hu:un=false:=by simpa using hu
  rw [if_neg (by simp [hu])];refine bB hu ?_;refine QN ?_
  refine bx hu ?_
  refine QP ?_;refine QL (c3) ?_
  by_cases hx:x=true
  ·skip
   refine bB hx ?_;refine QN ?_
   by_cases k1:op=172
   ·obtain rfl:r=126:=by rw [<-hr]; simp [k1]
    refine bt hx k1 ?_
    exact jf hwf ((Ghost.tuple [] [_,_] (frz1 (k:=0) (by simp) (by rfl) (by rfl) (by rfl))).toB _) rfl
   by_cases k2:op=173
   ·obtain rfl:r=126:=by rw [<-hr]; simp [k2]
    refine bv hx k1 k2 ?_
    exact jf hwf ((Ghost.tuple [] [_,_] (frz1 (k:=0) (by simp) (by rfl) (by rfl) (by rfl))).toB _) rfl
   obtain rfl:r=127:=by rw [<-hr]; simp [k1,k2,hx]
   refine bv hx k1 k2 ?_
   exact jf hwf ((Ghost.tuple [] [_,_] (frz1 (k:=0) (by simp) (by rfl) (by rfl) (by rfl))).toB _) rfl
  have hx':x=false:=by simpa using hx
  by_cases hq:op=167
  ·skip
   refine bF hx' hq ?_;refine QN ?_;have k1 : ¬ op=172:=by omega
   have k2 : ¬ op=173:=by omega
   obtain rfl:r=127:=by rw [<-hr]; simp [k1,k2,hq]
   refine bD hx' hq k1 k2 ?_
   exact jf hwf ((Ghost.tuple [] [_,_] (frz1 (k:=0) (by simp) (by rfl) (by rfl) (by rfl))).toB _) rfl
  refine bF hx' hq ?_;refine QN ?_
  by_cases k1:op=172
  ·obtain rfl:r=126:=by rw [<-hr]; simp [k1]
   refine bv hx' hq k1 ?_
   exact jf hwf ((Ghost.tuple [] [_,_] (frz1 (k:=0) (by simp) (by rfl) (by rfl) (by rfl))).toB _) rfl
  by_cases k2:op=173
  ·obtain rfl:r=126:=by rw [<-hr]; simp [k2]
   refine bD hx' hq k1 k2 ?_
   exact jf hwf ((Ghost.tuple [] [_,_] (frz1 (k:=0) (by simp) (by rfl) (by rfl) (by rfl))).toB _) rfl
  obtain rfl:r=t:=by rw [<-hr]; simp [k1,k2,hx',hq]
  refine bD hx' hq k1 k2 ?_
  exact jf hwf ((Ghost.tuple [] [_,_] (frz1 (k:=0) (by simp) (by rfl) (by rfl) (by rfl))).toB _) rfl
theorem division_v (k:Int):bS 108 [vint k] (.bool (Ss.division k)):=by
 intro S;refine QB (c:=jc Tryz.f108) Tryz.func108 Tryz.ntmps108 fun hwf=>?_
 by_cases h:3<=k
 ·by_cases h2:k<=6
  ·refine bt h h2 ?_
   exact ja hwf (by simp [Ss.division,h,h2]) rfl
  ·refine bt h h2 ?_
   exact ja hwf (by simp [Ss.division,h2]) rfl
 ·refine bx h ?_
  exact ja hwf (by simp [Ss.division,h]) rfl
theorem Total_v (op:Int) (ho:Ss.I64 op):bS 73 [vint op] (.bool (Ss.total op)):=by
 intro S;have cf:=find_v op ho;unfold Ss.total
 cases hf:Ss.find op with
 | none =>
  rw [hf] at cf;have cf':bS 107 [vint op] (.tuple [.agg [.int .i64 0, .int .i64 0, .int .i64 0, .int .i64 0], .int .i64 0, .bool false]):=cf;refine QB (c:=jc Tryz.f73) Tryz.func73 Tryz.ntmps73 fun hwf=>?_
  refine bw ?_
  refine QP ?_;refine QL (cf') ?_;refine bQ ?_
  exact ja hwf (by simp) rfl
 | some g =>
  rw [hf] at cf;obtain ⟨g1,g2,g3,g4⟩:=g;have cf':bS 107 [vint op] (.tuple [.agg [.int .i64 g1, .int .i64 g2, .int .i64 g3, .int .i64 g4], .int .i64 (op-g1), .bool true]):=cf;have cd:=division_v (op-g1);simp only;generalize Ss.division (op-g1)=dv at *
  refine QB (c:=jc Tryz.f73) Tryz.func73 Tryz.ntmps73 fun hwf=>?_
  refine bw ?_
  refine QP ?_;refine QL (cf') ?_;refine QW ?_
  by_cases h3:g3=3
  ·refine bx h3 ?_
   refine bH h3 ?_;refine QL (cd) ?_;refine bQ ?_
   exact ja hwf (by simp [h3]) rfl
  ·refine bx h3 ?_
   exact ja hwf (by simp [h3]) rfl
theorem Pure_v (op:Int) (ho:Ss.I64 op):bS 29 [vint op] (.bool (Ss.pure op)):=by
 intro S;have ct:=Total_v op ho;unfold Ss.pure;generalize Ss.total op=x at *
 refine QB (c:=jc Tryz.f29) Tryz.func29 Tryz.ntmps29 fun hwf=>?_
 by_cases h1:op=256
 ·refine bx h1 ?_
  exact ja hwf (by simp [h1]) rfl
 by_cases h2:op=27
 ·refine bt h1 h2 ?_
  exact ja hwf (by simp [h2]) rfl
 refine bt h1 h2 ?_
 refine bK h1 h2 ?_;refine QL (ct) ?_;refine bQ ?_
 exact ja hwf (by simp [h1,h2]) rfl
theorem NumSig_v (op:Int) (ho:Ss.I64 op):bS 126 [vint op] (.tuple [vl vint (Ss.numSig op).1,vint (Ss.numSig op).2.1, .bool (Ss.numSig op).2.2]):=by
 intro S;have cf:=find_v op ho;unfold Ss.numSig
 cases hf:Ss.find op with
 | none =>
  rw [hf] at cf;have cf':bS 107 [vint op] (.tuple [.agg [.int .i64 0, .int .i64 0, .int .i64 0, .int .i64 0], .int .i64 0, .bool false]):=cf;refine QB (c:=jc Tryz.f126) Tryz.func126 Tryz.ntmps126 fun hwf=>?_
  refine bw ?_
  refine QP ?_;refine QL (cf') ?_;refine bQ ?_
  exact jf (l:=[_]) hwf (Ghost.toB (Ghost.tuple [] [_,_] (Ghost.nils_list _)) _) rfl
 | some g =>
  rw [hf] at cf;obtain ⟨g1,g2,g3,g4⟩:=g;have cf':bS 107 [vint op] (.tuple [.agg [.int .i64 g1, .int .i64 g2, .int .i64 g3, .int .i64 g4], .int .i64 (op-g1), .bool true]):=cf;simp only
  by_cases h1:g3=1
  ·subst h1;have hX:Ss.Grp.ins ⟨g1,g2,1,g4⟩=[g4,g4]/\Ss.Grp.out ⟨g1,g2,1,g4⟩=127:=by simp [Ss.Grp.ins,Ss.Grp.out]
   rw [hX.1,hX.2];refine QB (c:=jc Tryz.f126) Tryz.func126 Tryz.ntmps126 fun hwf=>?_
   refine bw ?_
   refine QP ?_;refine QL (cf') ?_;refine bQ ?_
   refine QT ?_;refine QJ (St S [] [some (4,[.int .i64 g1, .int .i64 g2, .int .i64 1, .int .i64 g4])]) (St S [] [some (4,[.int .i64 g1, .int .i64 g2, .int .i64 1, .int .i64 g4])]) [] ?_ (r:=by conv=>lhs; simp [QV]);refine QI ?_;refine bQ ?_
   exact jf hwf ((Ghost.tuple [] [_,_] (frz1 (k:=3) (by simp) (by rfl) (by rfl) (by rfl))).toB _) rfl
  by_cases h3:g3=3
  ·subst h3;have hX:Ss.Grp.ins ⟨g1,g2,3,g4⟩=[g4,g4]/\Ss.Grp.out ⟨g1,g2,3,g4⟩=g4:=by simp [Ss.Grp.ins,Ss.Grp.out]
   rw [hX.1,hX.2];refine QB (c:=jc Tryz.f126) Tryz.func126 Tryz.ntmps126 fun hwf=>?_
   refine bw ?_
   refine QP ?_;refine QL (cf') ?_;refine bQ ?_
   refine QT ?_;refine QJ (St S [] [some (4,[.int .i64 g1, .int .i64 g2, .int .i64 3, .int .i64 g4])]) (St S [] [some (4,[.int .i64 g1, .int .i64 g2, .int .i64 3, .int .i64 g4])]) [] ?_ (r:=by conv=>lhs; simp [QV]);refine QI ?_;refine bQ ?_
   exact jf hwf ((Ghost.tuple [] [_,_] (frz1 (k:=3) (by simp) (by rfl) (by rfl) (by rfl))).toB _) rfl
  by_cases h0:g3=0
  ·subst h0;have hX:Ss.Grp.ins ⟨g1,g2,0,g4⟩=[g4]/\Ss.Grp.out ⟨g1,g2,0,g4⟩=127:=by simp [Ss.Grp.ins,Ss.Grp.out]
   rw [hX.1,hX.2];refine QB (c:=jc Tryz.f126) Tryz.func126 Tryz.ntmps126 fun hwf=>?_
   refine bw ?_
   refine QP ?_;refine QL (cf') ?_;refine bQ ?_
   refine QT ?_;refine QJ (St S [] [some (4,[.int .i64 g1, .int .i64 g2, .int .i64 0, .int .i64 g4])]) (St S [] [some (4,[.int .i64 g1, .int .i64 g2, .int .i64 0, .int .i64 g4])]) [] ?_ (r:=by conv=>lhs; simp [QV]);refine QI ?_;refine bQ ?_
   exact jf hwf ((Ghost.tuple [] [_,_] (frz1 (k:=1) (by simp) (by rfl) (by rfl) (by rfl))).toB _) rfl
  by_cases h4:g3=4
  ·subst h4;have hX:Ss.Grp.ins ⟨g1,g2,4,g4⟩=[g4]/\Ss.Grp.out ⟨g1,g2,4,g4⟩=127:=by simp [Ss.Grp.ins,Ss.Grp.out]
   rw [hX.1,hX.2];refine QB (c:=jc Tryz.f126) Tryz.func126 Tryz.ntmps126 fun hwf=>?_
   refine bw ?_
   refine QP ?_;refine QL (cf') ?_;refine bQ ?_
   refine QT ?_;refine QJ (St S [] [some (4,[.int .i64 g1, .int .i64 g2, .int .i64 4, .int .i64 g4])]) (St S [] [some (4,[.int .i64 g1, .int .i64 g2, .int .i64 4, .int .i64 g4])]) [] ?_ (r:=by conv=>lhs; simp [QV]);refine QI ?_;refine bQ ?_
   exact jf hwf ((Ghost.tuple [] [_,_] (frz1 (k:=1) (by simp) (by rfl) (by rfl) (by rfl))).toB _) rfl
  by_cases h5:g3=5
  ·subst h5;have hX:Ss.Grp.ins ⟨g1,g2,5,g4⟩=[g4]/\Ss.Grp.out ⟨g1,g2,5,g4⟩=126:=by simp [Ss.Grp.ins,Ss.Grp.out]
   rw [hX.1,hX.2];refine QB (c:=jc Tryz.f126) Tryz.func126 Tryz.ntmps126 fun hwf=>?_
   refine bw ?_
   refine QP ?_;refine QL (cf') ?_;refine bQ ?_
   refine QT ?_;refine QJ (St S [] [some (4,[.int .i64 g1, .int .i64 g2, .int .i64 5, .int .i64 g4])]) (St S [] [some (4,[.int .i64 g1, .int .i64 g2, .int .i64 5, .int .i64 g4])]) [] ?_ (r:=by conv=>lhs; simp [QV]);refine QI ?_;refine bQ ?_
   exact jf hwf ((Ghost.tuple [] [_,_] (frz1 (k:=1) (by simp) (by rfl) (by rfl) (by rfl))).toB _) rfl
  have hX:Ss.Grp.ins ⟨g1,g2,g3,g4⟩=[g4]/\Ss.Grp.out ⟨g1,g2,g3,g4⟩=g4:=by simp [Ss.Grp.ins,Ss.Grp.out,h1,h3,h0,h4,h5]
  rw [hX.1,hX.2];refine QB (c:=jc Tryz.f126) Tryz.func126 Tryz.ntmps126 fun hwf=>?_
  refine bw ?_
  refine QP ?_;refine QL (cf') ?_;refine QW ?_
  refine bJ h1 h3 h0 h4 h5 ?_
  refine QT ?_;refine QJ (St S [] [some (4,[.int .i64 g1, .int .i64 g2, .int .i64 g3, .int .i64 g4])]) (St S [] [some (4,[.int .i64 g1, .int .i64 g2, .int .i64 g3, .int .i64 g4])]) [] ?_ (r:=by conv=>lhs; simp [QV,h1,h3,h0,h4,h5]);refine QI ?_;refine QW ?_
  refine bJ h1 h3 h0 h4 h5 ?_
  exact jf hwf ((Ghost.tuple [] [_,_] (frz1 (k:=1) (by simp) (by rfl) (by rfl) (by rfl))).toB _) rfl
end Go.Vw
