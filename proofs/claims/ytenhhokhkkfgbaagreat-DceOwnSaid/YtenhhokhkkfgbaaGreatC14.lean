import Derived.Test.YtenhhokhkkfgbaaGreatC13
import Derived.Test.YtenhhokhkkfgbaaGreatC12
/-
  Part of the proof (texts VCell, SKinds, SSucc).
-/
set_option linter.unusedVariables false
set_option linter.unusedSimpArgs false
/-
 Functions whose results lie in cells; objects of one's own that become immutable.
-/
namespace Go.Vw
open Go.RowKit
section
variable {P:Program} {N:Nat} {S:Store} {m:Imm} {β:Objs} {w:World} {σ:Fr} {a:Act}
theorem load_run {t:TypeId} {q:Nat} {sz:Option Nat} {x:V} (hsz:Program.szOf P t=some sz) (hS:Holds S m β w) (hF:FrameRep N m β σ a) (he:Jq sz S (σ.look q)=some x) :
  ∃ ad u,a.tmps.getD q undef = .pointer (some ad)∧(loadVar t ad).run P w = .ok u w∧Rep m β x u:=by
 have hr:=hF.rep q
 generalize σ.look q=p at he hr
 cases p with
 | ref x' =>
  simp only [Jq] at he
  split at he
  ·rename_i hok
   cases he
   obtain ⟨u,b,off,arr,T,fz,e,hm,hu,hc⟩:=hr.inv_ref
   refine ⟨_,u,e,qG hsz (hS.imm _ _ hm) u ?_ hc, .imm hu⟩
   refine ⟨fun n hn => ?_,fun hn => ?_⟩
   ·subst hn
    cases x<;>simp [okSz] at hok
    cases hu with | agg xs vs hl _ _=>exact ⟨vs,rfl,by omega⟩
   ·subst hn
    simp only [okSz] at hok
    have:=(Rep.imm (β:=β) hu).oneCell hok
    cases u<;>first | rfl | simp [Value.oneCell'] at this
  ·cases he
 | ptr o' off =>
  simp only [Jq] at he
  cases hc:S.get o' with
  | none=>simp [hc] at he
  | some c =>
   simp only [hc] at he
   obtain ⟨b,base,s,n,hob,e⟩:=hr.inv_ptr (hS.alive hc)
   obtain ⟨_,arr,T,h1,h2,h3,h4⟩:=hS.cells_at hc hob
   cases sz with
   | none =>
    simp only [Wy] at he
    obtain ⟨v,hv,hrv,hone⟩:=h4 off x he
    have ec:v.cells = #[v]:=by cases v<;>first | rfl | simp [Value.oneCell'] at hone
    refine ⟨_,v,e,qG hsz h1 v ⟨(by intro n hn; cases hn),fun _=>ec⟩ fun j c' hj => ?_,hrv⟩
    rw [ec] at hj
    cases j with
    | zero=>simp at hj; subst hj; simpa using hv
    | succ j=>simp at hj
   | some k =>
    simp only [Wy] at he
    split at he
    ·rename_i hle
     cases he
     obtain ⟨vs,hl,hcs,hrl,hone⟩:=JT h4 off k hle
     refine ⟨_, .agg vs.toArray,e,qG hsz h1 _ ⟨(by intro n hn; cases hn; exact ⟨vs,rfl,hl⟩),(by intro hn; cases hn)⟩ fun j c' hj => ?_, .agg _ vs hrl.1 hrl.2 hone⟩
     exact hcs j c' (by simpa [Value.cells] using hj)
    ·cases he
 | _=>simp [Jq] at he
def resC1 (P:Program):ResultVar→Option (Nat × Option (Option Nat))
 | .tmp t=>some (t,none)
 | .cell q t=>(Program.szOf P t).map fun sz=>(q,some sz)
def resC (P:Program) (fn:Func):Option (List (Nat × Option (Option Nat))):=fn.results.toList.mapM (resC1 P)
def resL1 (S:Store) (σ:Fr):Nat × Option (Option Nat)→Option V
 | (t,none)=>some (σ.look t)
 | (t,some sz)=>Jq sz S (σ.look t)
def resL (S:Store) (σ:Fr):List (Nat × Option (Option Nat))→Option (List V)
 | []=>some []
 | r::rs=>match resL1 S σ r,resL S σ rs with
  | some x,some xs=>some (x::xs)
  | _,_=>none
def tupV:List V→V
 | [x]=>x
 | xs => .tuple xs
def bodyC (rs:List (Nat × Option (Option Nat))) (R:V→Store→Prop):Exit→Fr→Store→Prop
 | .normal,σ,S => ∃ xs,resL S σ rs=some xs∧R (tupV xs) S
 | .ret,σ,S => ∃ xs,resL S σ rs=some xs∧R (tupV xs) S
 | _,_,_=>False
theorem Yr {fn:Func} {rs:List (Nat × Option (Option Nat))} (h:resC P fn=some rs) (hS:Holds S m β w) (hF:FrameRep N m β σ a) {xs:List V} (hx:resL S σ rs=some xs) : ∃ v,(results fn a.tmps).run P w = .ok v w∧Rep m β (tupV xs) v:=by
 have gen : ∀ (l:List ResultVar) (rs:List (Nat × Option (Option Nat))) (xs:List V),l.mapM (resC1 P)=some rs→resL S σ rs=some xs →
   ∃ vs:List Value,(l.mapM fun r=>(match r with
    | .tmp t=>pure (a.tmps.getD t undef)
    | .cell q t=>do loadVar t (←asAddr (a.tmps.getD q undef)):Sem Value)).run P w = .ok vs w∧RepL m β xs vs:=by
  intro l
  induction l with
  | nil=>intro rs xs h hx; simp at h; subst h; simp only [resL,Option.some.injEq] at hx; subst hx; exact ⟨[],rfl,RepL.nil _ _⟩
  | cons r l ih =>
   intro rs xs h hx
   simp only [List.mapM_cons,Option.bind_eq_bind,Option.bind_eq_some_iff] at h
   obtain ⟨b,hb,r',hr',h⟩:=h
   simp at h; subst h
   simp only [resL] at hx
   split at hx
   ·rename_i x xs' h1 h2
    cases hx
    obtain ⟨vs,k1,k2⟩:=ih r' xs' hr' h2
    cases r with
    | tmp t =>
     simp only [resC1,Option.some.injEq] at hb
     subst hb
     simp only [resL1,Option.some.injEq] at h1
     subst h1
     refine ⟨a.tmps.getD t undef::vs, ?_, .cons (hF.rep t) k2⟩
     rw [List.mapM_cons,Sem.run_bind,Sem.run_pure,Result.andThen_ok,Sem.run_bind,k1]
     rfl
    | cell q t =>
     simp only [resC1] at hb
     obtain ⟨sz,hsz,e⟩:=Option.map_eq_some_iff.1 hb
     subst e
     simp only [resL1] at h1
     obtain ⟨ad,u,e1,e2,e3⟩:=load_run hsz hS hF h1
     refine ⟨u::vs, ?_, .cons e3 k2⟩
     have e4:((do loadVar t (←asAddr (a.tmps.getD q undef))):Sem Value).run P w = .ok u w:=by
      rw [e1,show asAddr (.pointer (some ad))=pure ad from rfl,pure_bind,e2]
     rw [List.mapM_cons,Sem.run_bind,e4,Result.andThen_ok,Sem.run_bind,k1]
     rfl
   ·cases hx
 obtain ⟨vs,h1,hl,h2⟩:=gen fn.results.toList rs xs h hx
 have hrun:(results fn a.tmps).run P w = .ok (if h:vs.toArray.size=1 then vs.toArray[0] else .tuple vs.toArray) w:=by
  unfold results
  rw [Sem.run_bind,Array.mapM_eq_mapM_toList,Sem.run_map]
  erw [h1]
  rfl
 refine ⟨_,hrun, ?_⟩
 match xs,vs,hl,h2 with
 | [x],[v],_,h2=>exact h2 0 x v rfl rfl
 | [],[],_,_=>exact zO m β
 | x::y::xs,u::v::vs,hl,h2 =>
  rw [dif_neg (by simp)]
  exact .tuple _ _ hl h2
theorem vcalls_bodyC {f:FuncId} {fn:Func} {c:Code} {rs:List (Nat × Option (Option Nat))} {args:List V} {R:V→Store→Prop} (hf:P.funcs[f]? = some fn) (hb:fn.body=some c) (ht:resC P fn=some rs) (hn:args.length≤fn.ntmps)
  (h:VWp P fn.ntmps S.nx c (bodyC rs R) (Ky 0 args) S):VCalls P f args S R:=by
 intro m β w vs hS hr
 refine calls_of_wp hf hb ?_
 have hF:FrameRep fn.ntmps m β (Ky 0 args) { tmps:=vs.toArray++Array.replicate (fn.ntmps-vs.toArray.size) undef,defers:=[] }:=by
  have hl:=hr.1
  refine ⟨by simp; omega,rfl,fun t => ?_⟩
  rw [Wg]
  simp only [Nat.zero_le,if_true,Nat.sub_zero]
  cases hx:args[t]? with
  | none=>exact .junk _
  | some x =>
   have hlt:t<vs.length:=by rw [←hl]; exact (List.getElem?_eq_some_iff.1 hx).1
   have:(vs.toArray++Array.replicate (fn.ntmps-vs.toArray.size) undef).getD t undef=vs[t]:=by
    simp [Array.getD_eq_getD_getElem?,Array.getElem?_append,hlt]
   simp only [this,Option.getD_some]
   exact hr.2 t x _ hx (List.getElem?_eq_getElem hlt)
 refine wp_mono (h m β w _ hS hF) ?_
 rintro e a' w' ⟨σ',S',m',β',q,r1,r2,r3⟩
 have back:ExtB S.nx m β w m' β' w'→Ext m β w m' β' w':=fun h=>⟨h.imm,fun o ho=>h.step o (by
  rcases Nat.lt_or_ge o S.nx with hl | hl
  ·exact hl
  ·exact absurd ((hS.fresh o).2 hl) ho) ho,h.size,h.keep,h.os,h.tape,h.output⟩
 cases e with
 | normal =>
  obtain ⟨xs,q1,q2⟩:=q
  obtain ⟨v,hv,hrv⟩:=Yr (P:=P) ht r1 r2 q1
  exact ⟨r2.defers,v,hv,v,_,S',m',β',rfl,q2,hrv,r1,back r3⟩
 | ret =>
  obtain ⟨xs,q1,q2⟩:=q
  obtain ⟨v,hv,hrv⟩:=Yr (P:=P) ht r1 r2 q1
  exact ⟨r2.defers,v,hv,v,_,S',m',β',rfl,q2,hrv,r1,back r3⟩
 | _=>exact q.elim
theorem qe {f:FuncId} {fn:Func} {c:Code} {rs:List (Nat × Option (Option Nat))} {args:List V} {R:V→Store→Prop} (hf:P.funcs[f]? = some fn) (hb:fn.body=some c) (ht:resC P fn=some rs) (hn:args.length≤fn.ntmps)
  (h:S.Wf→VWp P fn.ntmps S.nx c (bodyC rs (Yk S.nx R)) (Ky 0 args) (St S [] [])):VCalls P f args S R:=by
 refine zZ fun hwf=>qQ (vcalls_bodyC hf hb ht hn ?_)
 have:=h hwf
 rw [jQ hwf] at this
 exact this
theorem YI {rs:List (Nat × Option (Option Nat))} {R:V→Store→Prop} {xs:List V} (h:resL S σ rs=some xs) (hR:R (tupV xs) S) : ∃ xs,resL S σ rs=some xs∧R (tupV xs) S:=⟨xs,h,hR⟩
end
theorem resL_nil (S:Store) (σ:Fr):resL S σ []=some []:=nr rfl
def consO:Option V→Option (List V)→Option (List V)
 | some x,some xs=>some (x::xs)
 | _,_=>none
theorem resL_cons (S:Store) (σ:Fr) (r) (rs):resL S σ (r::rs)=consO (resL1 S σ r) (resL S σ rs):=nr rfl
theorem consO_some (x:V) (xs:List V):consO (some x) (some xs)=some (x::xs):=nr rfl
theorem resL1_t (S:Store) (σ:Fr) (t:Nat):resL1 S σ (t,none)=some (σ.look t):=nr rfl
theorem resL1_c (S:Store) (σ:Fr) (t:Nat) (sz:Option Nat):resL1 S σ (t,some sz)=Jq sz S (σ.look t):=nr rfl
theorem jaA (x:V):tupV [x]=x:=nr rfl
theorem tupV_2 (x y:V) (r:List V):tupV (x::y::r) = .tuple (x::y::r):=nr rfl
attribute [simp] resL_nil resL_cons consO_some resL1_t resL1_c jaA tupV_2
theorem Ghost.refS {S:Store} {o s:Nat} {cs:List V} (hc:S.get o=some (s,cs)) (h1:cs.all V.closed1=true) (hne:cs≠[]):Ghost (.ptr o 0) S (.ref (.agg cs)) (S.del o):=by
 intro m β w v hS hr
 obtain ⟨b,base,s',n,hob,rfl⟩:=hr.inv_ptr (hS.alive hc)
 obtain ⟨_,arr,T,e1,e2,e3,e4⟩:=hS.cells_at hc hob
 obtain ⟨k1,k2⟩:=hS.freeze hc hob e1
 obtain ⟨vs,hl,hcs,hrl,hone⟩:=JT e4 0 cs.length (by simp)
 simp only [List.drop_zero,List.take_length] at hrl
 have hall : ∀ x∈cs,x.closed1=true:=by simpa using h1
 refine ⟨_,_,k1,k2, .imm (.ref (.agg cs) (.agg vs.toArray) b (base+0) arr T (0,0) (by simp [Imm.set]) (.agg cs vs hrl.1 (fun i x u hx hu=>((hrl.2 i x u hx hu).closed1 (hall x (List.mem_of_getElem? hx))).mono k2.imm) hone) fun j c hj => ?_)⟩
 exact hcs j c (by simpa [Value.cells] using hj)
theorem qS {B:Store} {u:Upds} {l:List (Option (Nat × List V))} {k s:Nat} {cs:List V} (hk:k<l.length) (hc:(l[k]?).join=some (s,cs)) (hcl:cs.all V.closed1=true) (hne:cs≠[]) :
  Ghost (.ptr (lid B.nx k) 0) (St B u l) (.ref (.agg cs)) (St B u (l.set k none)):=by
 rw [←jba hk]
 exact Ghost.refS (by rw [jv]; exact hc) hcl hne
end Go.Vw

namespace Ss
def isKind (t:Int):Bool:=decide (t=127)||decide (t=126)
def kinds (most:Nat) (l:List Int):Bool:=decide (l.length≤most)&&l.all isKind
def Sig.right (s:Sig):Bool:=kinds 8 s.inn&&kinds 8 s.out
def Env.right (e:Env):Bool:=decide (0≤e.imports)&&decide (e.imports≤e.sigs.length)&&decide (e.sigs.length≤64)&&decide (e.muts.length=e.globals.length)&&kinds 32 e.globals&&e.sigs.all Sig.right
end Ss
namespace Go.Vw
open Go.Proofs Go.RowKit
set_option maxRecDepth 10000
set_option maxHeartbeats 1000000
theorem isKind_v (t:Int):VPure Tryz.prog 96 [vint t] (.bool (Ss.isKind t)):=by
 intro S
 refine jb (c:=jg Tryz.f96) Tryz.func96 rfl rfl (by simp [Tryz.ntmps96]) ?_
 rw [Tryz.ntmps96]
 intro hwf
 by_cases h:t=127
 ·repeat (first|refine QG ?_|refine QY ?_ (r:=by conv=>lhs;simp[-List.map_set,QV,h]))
  exact ja hwf (by simp [Ss.isKind,h]) rfl
 ·repeat (first|refine QG ?_|refine QY ?_ (r:=by conv=>lhs;simp[-List.map_set,QV,h]))
  exact ja hwf (by simp [Ss.isKind,h]) rfl
theorem kinds1_v (t:Int):VPure Tryz.prog 95 ([vint t]++[]) (.bool (!Ss.isKind t)):=by
 intro S
 refine jb (c:=jg Tryz.f95) Tryz.func95 rfl rfl (by simp [Tryz.ntmps95]) ?_
 rw [Tryz.ntmps95]
 intro hwf
 repeat (first|refine QG ?_|refine QY ?_)
 repeat refine QS ?_
 refine QP ?_
 refine jd (isKind_v t) (by rfl) ?_
 refine QM (by conv=>lhs;simp[-List.map_set,QV]) ?_
 refine QN ?_
 repeat (first|refine QG ?_|refine QY ?_)
 exact ja hwf rfl rfl
theorem jbw (most:Nat) (l:List Int) (hl:l.length<2^63):VPure Tryz.prog 59 [vnat most,vl vint l] (.bool (Ss.kinds most l)):=by
 intro S
 have e:(!l.any fun t => !Ss.isKind t)=l.all Ss.isKind:=by
  rw [List.not_any_eq_all_not]; congr 1; funext t; simp
 by_cases h:l.length≤most
 ·have h':(l.length:Int)≤(most:Int):=by omega
  have hX:Ss.kinds most l = !l.any fun t => !Ss.isKind t:=by rw [e]; simp [Ss.kinds,h]
  rw [hX]
  refine jb (c:=jg Tryz.f59) Tryz.func59 rfl rfl (by simp [Tryz.ntmps59]) ?_
  rw [Tryz.ntmps59]
  intro hwf
  repeat (first|refine QG ?_|refine QY ?_ (r:=by conv=>lhs;simp[-List.map_set,QV,h,h']))
  repeat refine QS ?_
  refine QP ?_ (r:=by conv=>lhs;simp[-List.map_set,QV,h,h'])
  refine jd (AnyI_v l (fun t => !Ss.isKind t) _ [] rfl hl (fun t _=>kinds1_v t)) (by rfl) ?_
  refine QM (by conv=>lhs;simp[-List.map_set,QV]) ?_
  refine QN ?_
  repeat (first|refine QG ?_|refine QY ?_)
  exact ja hwf (by simp) rfl
 ·have h' : ¬ (l.length:Int)≤(most:Int):=by omega
  have hX:Ss.kinds most l=false:=by simp [Ss.kinds,h]
  rw [hX]
  refine jb (c:=jg Tryz.f59) Tryz.func59 rfl rfl (by simp [Tryz.ntmps59]) ?_
  rw [Tryz.ntmps59]
  intro hwf
  repeat (first|refine QG ?_|refine QY ?_ (r:=by conv=>lhs;simp[-List.map_set,QV,h,h']))
  exact ja hwf rfl rfl
theorem jaB (s:Ss.Sig) (hs:s.Fits):VPure Tryz.prog 60 [jC s] (.bool s.right):=by
 intro S
 obtain ⟨⟨h1,_⟩,⟨h2,_⟩⟩:=hs
 obtain ⟨a,b⟩:=s
 simp only at h1 h2
 have hX:Ss.Sig.right ⟨a,b⟩=(Ss.kinds 8 a&&Ss.kinds 8 b):=rfl
 rw [hX]
 have c1:VPure Tryz.prog 59 [.int .i64 8,vl vint a] (.bool (Ss.kinds 8 a)):=jbw 8 a (by omega)
 have c2:VPure Tryz.prog 59 [.int .i64 8,vl vint b] (.bool (Ss.kinds 8 b)):=jbw 8 b (by omega)
 generalize Ss.kinds 8 a=x at *
 generalize Ss.kinds 8 b=y at *
 refine jb (c:=jg Tryz.f60) Tryz.func60 rfl rfl (by simp [Tryz.ntmps60]) ?_
 rw [Tryz.ntmps60]
 intro hwf
 repeat (first|refine QG ?_|refine QY ?_)
 repeat refine QS ?_
 refine QP ?_
 refine jd (c1) (by rfl) ?_
 by_cases hx:x=true
 ·refine QM (by conv=>lhs;simp[-List.map_set,QV,hx]) ?_
  refine jd (c2) (by rfl) ?_
  refine QM (by conv=>lhs;simp[-List.map_set,QV]) ?_
  refine QN ?_
  repeat (first|refine QG ?_|refine QY ?_)
  exact ja hwf (by simp [hx]) rfl
 ·have hx':x=false:=by simpa using hx
  refine QM (by conv=>lhs;simp[-List.map_set,QV,hx']) ?_
  refine QN ?_
  repeat (first|refine QG ?_|refine QY ?_)
  exact ja hwf (by simp [hx']) rfl
theorem envRight1_v (s:Ss.Sig) (hs:s.Fits):VPure Tryz.prog 92 ([jC s]++[]) (.bool (!s.right)):=by
 intro S
 have c1:=jaB s hs
 obtain ⟨a,b⟩:=s
 have c1':VPure Tryz.prog 60 [.agg [vl vint a,vl vint b]] (.bool (Ss.Sig.right ⟨a,b⟩)):=c1
 refine jb (c:=jg Tryz.f92) Tryz.func92 rfl rfl (by simp [Tryz.ntmps92]) ?_
 rw [Tryz.ntmps92]
 intro hwf
 repeat (first|refine QG ?_|refine QY ?_)
 repeat refine QS ?_
 refine QP ?_
 refine jd (c1') (by rfl) ?_
 refine QM (by conv=>lhs;simp[-List.map_set,QV]) ?_
 refine QN ?_
 repeat (first|refine QG ?_|refine QY ?_)
 exact ja hwf rfl rfl
theorem EnvRight_v (e:Ss.Env) (he:e.Fits):VPure Tryz.prog 57 [zh e] (.bool e.right):=by
 intro S
 obtain ⟨⟨h1,h2⟩,_,⟨h4,_⟩,h5⟩:=he
 obtain ⟨sg,im,gl,mu,me⟩:=e
 simp only at h1 h2 h4 h5
 have ea:(!sg.any fun s => !s.right)=sg.all Ss.Sig.right:=by
  rw [List.not_any_eq_all_not]; congr 1; funext t; simp
 have hX:Ss.Env.right ⟨sg,im,gl,mu,me⟩=(decide (0≤im)&&decide (im≤sg.length)&&decide (sg.length≤64)&&decide (mu.length=gl.length)&&Ss.kinds 32 gl && !sg.any fun s => !s.right):=by rw [ea]; rfl
 rw [hX]
 have c1:VPure Tryz.prog 59 [.int .i64 32,vl vint gl] (.bool (Ss.kinds 32 gl)):=jbw 32 gl (by omega)
 have c2:=AnyS_v sg (fun s => !s.right) 92 [] rfl (by omega) (fun s hs=>envRight1_v s (h2 s hs))
 generalize Ss.kinds 32 gl=x at *
 generalize (sg.any fun s => !s.right)=y at *
 refine jb (c:=jg Tryz.f57) Tryz.func57 rfl rfl (by simp [Tryz.ntmps57]) ?_
 rw [Tryz.ntmps57]
 intro hwf
 by_cases k1:im<0
 ·repeat (first|refine QG ?_|refine QY ?_ (r:=by conv=>lhs;simp[-List.map_set,QV,k1]))
  exact ja hwf (by simp; omega) rfl
 by_cases k2:(sg.length:Int)<im
 ·repeat (first|refine QG ?_|refine QY ?_ (r:=by conv=>lhs;simp[-List.map_set,QV,k1,k2]))
  exact ja hwf (by simp; omega) rfl
 by_cases k3:(64:Int)<(sg.length:Int)
 ·repeat (first|refine QG ?_|refine QY ?_ (r:=by conv=>lhs;simp[-List.map_set,QV,k1,k2,k3]))
  exact ja hwf (by simp; omega) rfl
 by_cases k4:mu.length=gl.length
 case neg =>
  have k4' : ¬ (mu.length:Int)=(gl.length:Int):=by omega
  repeat (first|refine QG ?_|refine QY ?_ (r:=by conv=>lhs;simp[-List.map_set,QV,k1,k2,k3,k4,k4']))
  exact ja hwf (by simp [k4]) rfl
 have k4':(mu.length:Int)=(gl.length:Int):=by omega
 have hp:(decide (0≤im)&&decide (im≤sg.length)&&decide (sg.length≤64)&&decide (mu.length=gl.length))=true:=by simp [k4]; omega
 rw [hp]
 repeat (first|refine QG ?_|refine QY ?_ (r:=by conv=>lhs;simp[-List.map_set,QV,k1,k2,k3,k4,k4']))
 repeat refine QS ?_
 refine QP ?_
 refine jd (c1) (by rfl) ?_
 by_cases hx:x=true
 ·refine QM (by conv=>lhs;simp[-List.map_set,QV,hx]) ?_
  refine jd (c2) (by rfl) ?_
  refine QM (by conv=>lhs;simp[-List.map_set,QV]) ?_
  refine QN ?_
  repeat (first|refine QG ?_|refine QY ?_)
  exact ja hwf (by simp [hx]) rfl
 ·have hx':x=false:=by simpa using hx
  refine QM (by conv=>lhs;simp[-List.map_set,QV,hx']) ?_
  refine QN ?_
  repeat (first|refine QG ?_|refine QY ?_)
  exact ja hwf (by simp [hx']) rfl
theorem check1_v (b:Ss.Block):VPure Tryz.prog 62 ([jc b]++[]) (.bool (decide (256<b.params.length))):=by
 intro S
 obtain ⟨ps,c,t⟩:=b
 refine jb (c:=jg Tryz.f62) Tryz.func62 rfl rfl (by simp [Tryz.ntmps62]) ?_
 rw [Tryz.ntmps62]
 intro hwf
 repeat (first|refine QG ?_|refine QY ?_)
 exact ja hwf (by simp; omega) rfl
end Go.Vw

namespace Ss
def rowOf (b:Block):List Int:=b.term.to.map Edge.to
def succs (bs:List Block):List (List Int):=bs.map rowOf
end Ss
namespace Go.Vw
open Go.Proofs Go.RowKit
set_option maxRecDepth 10000
set_option maxHeartbeats 4000000
theorem Ju : ∀ {bs:List Ss.Block} {b:Ss.Block},b∈bs→b.code.length≤Ss.count bs
 | x::bs,b,h=>by
  simp only [Ss.count,List.map_cons,List.sum_cons]
  rcases List.mem_cons.1 h with rfl | h
  ·omega
  ·have:=Ju h
   simp only [Ss.count] at this
   omega
theorem zI {f:Ss.Fn} (h:f.small=true):f.types.length≤4096∧f.blocks.length≤4096∧(∀ b∈f.blocks,b.params.length≤4096∧b.term.to.length≤4096∧b.term.args.length≤4096∧b.code.length≤4096)∧Ss.count f.blocks≤4096:=by
 obtain ⟨h1,h2,h3⟩:=(Ss.small_iff f).1 h
 simp only [Ss.Fn.heads,Bool.and_eq_true,decide_eq_true_eq] at h1
 refine ⟨h1.1.1.1,h1.1.1.2,fun b hb => ?_,h3⟩
 have:=h2 b hb
 simp only [Ss.Block.small,Bool.and_eq_true,decide_eq_true_eq] at this
 refine ⟨this.1.1.1.1,this.1.1.1.2,this.1.1.2, ?_⟩
 exact Nat.le_trans (Ju hb) h3
theorem Succ_v (f:Ss.Fn) (hf:f.Fits):VPure Tryz.prog 99 [qx f] (vl (vl vint) (if f.small then Ss.succs f.blocks else [])):=by
 intro S
 have cs:=small_v f hf
 have hsb := @zI f
 generalize f.small=sm at *
 obtain ⟨⟨fi,fo⟩,ts,bs⟩:=f
 have cs':VPure Tryz.prog 58 [.agg [vl vint fi,vl vint fo,vl vint ts,vl jc bs]] (.bool sm):=cs
 by_cases hs:sm=true
 case neg =>
  rw [if_neg hs]
  have hs':sm=false:=by simpa using hs
  refine jb (c:=jg Tryz.f99) Tryz.func99 rfl rfl (by simp [Tryz.ntmps99]) ?_
  rw [Tryz.ntmps99]
  intro hwf
  repeat (first|refine QG ?_|refine QY ?_)
  repeat refine QS ?_
  refine QP ?_
  refine jd (cs') (by rfl) ?_
  refine QM (by conv=>lhs;simp[-List.map_set,QV,hs']) ?_
  refine QN ?_
  repeat (first|refine QG ?_|refine QY ?_)
  exact jn (l:=[_]) hwf (Ghost.toB (Ghost.nils_list _) _) rfl
 rw [if_pos hs]
 obtain ⟨_,hbl,hbf,_⟩:=hsb hs
 simp only at hbl hbf ⊢
 refine jb (c:=jg Tryz.f99) Tryz.func99 rfl rfl (by simp [Tryz.ntmps99]) ?_
 rw [Tryz.ntmps99]
 intro hwf
 repeat (first|refine QG ?_|refine QY ?_)
 repeat refine QS ?_
 refine QP ?_
 refine jd (cs') (by rfl) ?_
 refine QM (by conv=>lhs;simp[-List.map_set,QV,hs]) ?_
 refine QN ?_
 repeat refine QS ?_
 refine jW rfl rfl rfl ?_
 repeat refine QS ?_
 refine jX rfl ?_
 repeat refine QS ?_
 refine QP ?_
 refine QN ?_
 refine zA 3 1 rfl (by conv=>lhs; simp [Fr.set]) ?_
 repeat (first|refine QG ?_|refine QY ?_)
 refine js [3,13,14,15] (by conv=>lhs; simp [Fr.only,Fr.look]) ?_
 refine zL [1] hwf (by decide) (by simp [-List.map_set]) (by conv=>lhs; simp [-List.map_set]) (by conv=>lhs; simp [-List.map_set]) (by conv=>lhs; simp [-List.map_set]) ?_
 repeat refine QS ?_
 refine je [3,13,14,15] rfl (fun c σ S' => ∃ (k:Nat) (out:List (List Int)),k≤bs.length∧c=bs.length-k∧out.length=k∧out=(bs.take k).map Ss.rowOf∧σ=[(3, .slice (lid S.nx 0) 0 k),(13,vl jc bs),(14,vnat bs.length),(15,vnat k)]∧S'=St S [] [some (1,out.map (vl vint))]) bs.length ?_ ?_
 ·exact ⟨0,[],by omega,rfl,rfl,by simp,by simp [Fr.only],by simp⟩
 ·rintro c σ T ⟨k,out,hk,rfl,hol,ho,rfl,rfl⟩
  by_cases hkt:k<bs.length
  ·have hw:=jm hkt (by omega)
   obtain ⟨_,htl,_,_⟩:=hbf _ (List.getElem_mem hkt)
   obtain ⟨⟨ps,code,⟨tk,ta,to,az⟩⟩,hx⟩ : ∃ b,bs[k]=b:=⟨_,rfl⟩
   rw [hx] at htl
   simp only at htl
   have htk:bs.take (k+1)=bs.take k++[⟨ps,code,⟨tk,ta,to,az⟩⟩]:=by rw [List.take_add_one,List.getElem?_eq_getElem hkt,hx]; rfl
   repeat refine QS ?_
   refine QP ?_ (r:=by conv=>lhs;simp[-List.map_set,QV,hkt])
   refine QN ?_
   repeat refine QS ?_
   refine jR rfl rfl rfl ?_
   repeat refine QS ?_
   refine jX rfl ?_
   repeat refine QS ?_
   refine qi 1 rfl rfl ?_
   repeat refine QS ?_
   refine QP ?_ (r:=by conv=>lhs;simp[-List.map_set,QV,hkt,hx])
   refine QN ?_
   repeat refine QS ?_
   refine QP ?_
   refine QN ?_
   refine zA 6 1 rfl (by conv=>lhs; simp [Fr.set]) ?_
   repeat (first|refine QG ?_|refine QY ?_)
   refine js [3,6,13,14,15,21,22,23] (by conv=>lhs; simp [Fr.only,Fr.look]) ?_
   refine zL [0,2] hwf (by decide) (by simp [-List.map_set]) (by conv=>lhs; simp [-List.map_set]) (by conv=>lhs; simp [-List.map_set]) (by conv=>lhs; simp [-List.map_set]) ?_
   repeat refine QS ?_
   refine je [3,6,13,14,15,21,22,23] rfl (fun c σ S' => ∃ (j:Nat) (r:List Int),j≤to.length∧c=to.length-j∧r.length=j∧r=(to.take j).map Ss.Edge.to∧σ=[(3, .slice (lid S.nx 0) 0 k),(6, .slice (lid S.nx 1) 0 j),(13,vl jc bs),(14,vnat bs.length),(15,vnat k),(21,vl jh to),(22,vnat to.length),(23,vnat j)]∧S'=St S [] [some (1,out.map (vl vint)),some (1,r.map vint)]) to.length ?_ ?_
   ·exact ⟨0,[],by omega,rfl,rfl,by simp,by simp [Fr.only],by simp⟩
   ·rintro c σ T ⟨j,r,hj,rfl,hrl,hr,rfl,rfl⟩
    by_cases hjt:j<to.length
    ·have hwj:=jm hjt (by omega)
     have hb:(j+1)*8≤140737488355328:=by omega
     have hb':j+1≤140737488355328:=by omega
     obtain ⟨⟨xt,xa⟩,hx2⟩ : ∃ b,to[j]=b:=⟨_,rfl⟩
     have htj:to.take (j+1)=to.take j++[⟨xt,xa⟩]:=by rw [List.take_add_one,List.getElem?_eq_getElem hjt,hx2]; rfl
     repeat (first|refine QG ?_|refine QY ?_ (r:=by conv=>lhs;simp[-List.map_set,QV,hjt,hx2,hb,hb',hrl]))
     refine QA [0,4] (h:=⟨?_,j+1,r++[xt],hjt,rfl,by simp [hrl],by rw [htj,List.map_append,hr]; rfl,by simp [hwj],by simp⟩)
     omega
    ·have hje:j=to.length:=by omega
     subst hje
     rw [List.take_length] at hr
     have hb:(k+1)*24≤140737488355328:=by omega
     have hb':k+1≤140737488355328:=by omega
     repeat refine QS ?_
     refine QP ?_ (r:=by conv=>lhs;simp[-List.map_set,QV,hjt])
     refine QN ?_
     repeat refine QS ?_
     refine jW rfl rfl rfl ?_
     repeat refine QS ?_
     refine qo 2 rfl rfl ?_
     refine ji 6 rfl ((frz1 (k:=1) (len:=to.length) (by simp) (by rfl) (jJ vint (fun _=>rfl) _) (by simpa using hrl))) (by conv=>lhs; simp [Fr.set]) ?_
     simp only [List.set_cons_succ,List.set_cons_zero]
     repeat (first|refine QG ?_|refine QY ?_ (r:=by conv=>lhs;simp[-List.map_set,QV,hb,hb',hol]))
     refine QA [3] (h:=⟨?_,k+1,out++[r],hkt,rfl,by simp [hol],by rw [htk,List.map_append, ←ho,hr]; rfl,by simp [hw],by simp [vl]⟩)
     omega
  ·have hke:k=bs.length:=by omega
   subst hke
   rw [List.take_length] at ho
   repeat (first|refine QG ?_|refine QY ?_ (r:=by conv=>lhs;simp[-List.map_set,QV,hkt]))
   rw [Ss.succs, ←ho]
   exact jn hwf ((frz1 (by simp) (by rfl) (jJ (vl vint) (fun _=>rfl) _) (by simpa using hol)).toB _) rfl
end Go.Vw
