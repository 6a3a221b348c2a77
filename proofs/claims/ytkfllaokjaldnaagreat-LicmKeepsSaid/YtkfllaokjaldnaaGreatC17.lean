import Derived.Test.YtkfllaokjaldnaaGreatC16
import Derived.Test.YtkfllaokjaldnaaGreatProg
import Derived.Test.YtkfllaokjaldnaaGreatC12
/-
  Part of the proof (texts VCell, SKinds, SEqF, SAsk, SDef).
-/
set_option linter.unusedVariables false
set_option linter.unusedSimpArgs false
/-
 Functions whose results lie in cells; objects of one's own that become immutable.
-/
namespace Go.Vw
open Go.RowKit
section
variable {P:Program} {N:Nat} {S:Store} {m:Imm} {β:Objs} {w:World} {σ:Fr} {a:Act}
theorem load_run {t:TypeId} {q:Nat} {sz:Option Nat} {x:V} (hsz:Program.szOf P t=some sz) (hS:Holds S m β w) (hF:FrameRep N m β σ a) (he:Jy sz S (σ.look q)=some x) :
  ∃ ad u,a.tmps.getD q undef = .pointer (some ad)∧(loadVar t ad).run P w = .ok u w∧Rep m β x u:=by
 have hr:=hF.rep q;generalize σ.look q=p at he hr
 cases p with
 | ref x' =>
  simp only [Jy] at he;split at he
  ·rename_i hok
   cases he
   obtain ⟨u,b,off,arr,T,fz,e,hm,hu,hc⟩:=hr.inv_ref;refine ⟨_,u,e,qy hsz (hS.imm _ _ hm) u ?_ hc, .imm hu⟩;refine ⟨fun n hn => ?_,fun hn => ?_⟩
   ·subst hn
    cases x<;>simp [okSz] at hok
    cases hu with | agg xs vs hl _ _=>exact ⟨vs,rfl,by omega⟩
   ·subst hn;simp only [okSz] at hok;have:=(Rep.imm (β:=β) hu).oneCell hok
    cases u<;>first | rfl | simp [Value.oneCell'] at this
  ·cases he
 | ptr o' off =>
  simp only [Jy] at he
  cases hc:S.get o' with
  | none=>simp [hc] at he
  | some c =>
   simp only [hc] at he;obtain ⟨b,base,s,n,hob,e⟩:=hr.inv_ptr (hS.alive hc);obtain ⟨_,arr,T,h1,h2,h3,h4⟩:=hS.cells_at hc hob
   cases sz with
   | none =>
    simp only [WE] at he;obtain ⟨v,hv,hrv,hone⟩:=h4 off x he;have ec:v.cells = #[v]:=by cases v<;>first | rfl | simp [Value.oneCell'] at hone
    refine ⟨_,v,e,qy hsz h1 v ⟨(by intro n hn; cases hn),fun _=>ec⟩ fun j c' hj => ?_,hrv⟩;rw [ec] at hj
    cases j with
    | zero=>simp at hj; subst hj; simpa using hv
    | succ j=>simp at hj
   | some k =>
    simp only [WE] at he;split at he
    ·rename_i hle
     cases he
     obtain ⟨vs,hl,hcs,hrl,hone⟩:=Jq h4 off k hle;refine ⟨_, .agg vs.toArray,e,qy hsz h1 _ ⟨(by intro n hn; cases hn; exact ⟨vs,rfl,hl⟩),(by intro hn; cases hn)⟩ fun j c' hj => ?_, .agg _ vs hrl.1 hrl.2 hone⟩;exact hcs j c' (by simpa [Value.cells] using hj)
    ·cases he
 | _=>simp [Jy] at he
def resC1 (P:Program):ResultVar→Option (Nat × Option (Option Nat))
 | .tmp t=>some (t,none)
 | .cell q t=>(Program.szOf P t).map fun sz=>(q,some sz)
def resC (P:Program) (fn:Func):Option (List (Nat × Option (Option Nat))):=fn.results.toList.mapM (resC1 P)
def resL1 (S:Store) (σ:Fr):Nat × Option (Option Nat)→Option V
 | (t,none)=>some (σ.look t)
 | (t,some sz)=>Jy sz S (σ.look t)
def resL (S:Store) (σ:Fr):List (Nat × Option (Option Nat))→Option (List V)
 | []=>some []
 | r::rs=>match resL1 S σ r,resL S σ rs with
  | some x,some xs=>some (x::xs)
  | _,_=>none
def tupV:List V→V
 | [x]=>x
 | xs => .tuple xs
def bodyC (rs:List (Nat × Option (Option Nat))) (R:V→Store→Prop):Exit→Fr→Store→Prop
 | .normal,σ,S => ∃ xs,resL S σ rs=some xs∧R (tupV xs) S
 | .ret,σ,S => ∃ xs,resL S σ rs=some xs∧R (tupV xs) S
 | _,_,_=>False
theorem YG {fn:Func} {rs:List (Nat × Option (Option Nat))} (h:resC P fn=some rs) (hS:Holds S m β w) (hF:FrameRep N m β σ a) {xs:List V} (hx:resL S σ rs=some xs) : ∃ v,(results fn a.tmps).run P w = .ok v w∧Rep m β (tupV xs) v:=by
 have gen : ∀ (l:List ResultVar) (rs:List (Nat × Option (Option Nat))) (xs:List V),l.mapM (resC1 P)=some rs→resL S σ rs=some xs →
   ∃ vs:List Value,(l.mapM fun r=>(match r with
    | .tmp t=>pure (a.tmps.getD t undef)
    | .cell q t=>do loadVar t (←asAddr (a.tmps.getD q undef)):Sem Value)).run P w = .ok vs w∧RepL m β xs vs:=by
  intro l
  induction l with
  | nil=>intro rs xs h hx; simp at h; subst h; simp only [resL,Option.some.injEq] at hx; subst hx; exact ⟨[],rfl,RepL.nil _ _⟩
  | cons r l ih =>
   intro rs xs h hx;simp only [List.mapM_cons,Option.bind_eq_bind,Option.bind_eq_some_iff] at h;obtain ⟨b,hb,r',hr',h⟩:=h;simp at h; subst h;simp only [resL] at hx;split at hx
   ·rename_i x xs' h1 h2
    cases hx
    obtain ⟨vs,k1,k2⟩:=ih r' xs' hr' h2
    cases r with
    | tmp t =>
     simp only [resC1,Option.some.injEq] at hb;subst hb;simp only [resL1,Option.some.injEq] at h1;subst h1;refine ⟨a.tmps.getD t undef::vs, ?_, .cons (hF.rep t) k2⟩;rw [List.mapM_cons,Sem.run_bind,Sem.run_pure,Result.andThen_ok,Sem.run_bind,k1]
     rfl
    | cell q t =>
     simp only [resC1] at hb;obtain ⟨sz,hsz,e⟩:=Option.map_eq_some_iff.1 hb;subst e;simp only [resL1] at h1;obtain ⟨ad,u,e1,e2,e3⟩:=load_run hsz hS hF h1;refine ⟨u::vs, ?_, .cons e3 k2⟩;have e4:((do loadVar t (←asAddr (a.tmps.getD q undef))):Sem Value).run P w = .ok u w:=by
      rw [e1,show asAddr (.pointer (some ad))=pure ad from rfl,pure_bind,e2]
     rw [List.mapM_cons,Sem.run_bind,e4,Result.andThen_ok,Sem.run_bind,k1]
     rfl
   ·cases hx
 obtain ⟨vs,h1,hl,h2⟩:=gen fn.results.toList rs xs h hx;have hrun:(results fn a.tmps).run P w = .ok (if h:vs.toArray.size=1 then vs.toArray[0] else .tuple vs.toArray) w:=by
  unfold results;rw [Sem.run_bind,Array.mapM_eq_mapM_toList,Sem.run_map]
  erw [h1]
  rfl
 refine ⟨_,hrun, ?_⟩
 match xs,vs,hl,h2 with
 | [x],[v],_,h2=>exact h2 0 x v rfl rfl
 | [],[],_,_=>exact zK m β
 | x::y::xs,u::v::vs,hl,h2 =>
  rw [dif_neg (by simp)];exact .tuple _ _ hl h2
theorem vcalls_bodyC {f:FuncId} {fn:Func} {c:Code} {rs:List (Nat × Option (Option Nat))} {args:List V} {R:V→Store→Prop} (hf:P.funcs[f]? = some fn) (hb:fn.body=some c) (ht:resC P fn=some rs) (hn:args.length≤fn.ntmps)
  (h:VWp P fn.ntmps S.nx c (bodyC rs R) (KA 0 args) S):VCalls P f args S R:=by
 intro m β w vs hS hr;refine calls_of_wp hf hb ?_;have hF:FrameRep fn.ntmps m β (KA 0 args) { tmps:=vs.toArray++Array.replicate (fn.ntmps-vs.toArray.size) undef,defers:=[] }:=by
  have hl:=hr.1;refine ⟨by simp; omega,rfl,fun t => ?_⟩;rw [Wj];simp only [Nat.zero_le,if_true,Nat.sub_zero]
  cases hx:args[t]? with
  | none=>exact .junk _
  | some x =>
   have hlt:t<vs.length:=by rw [←hl]; exact (List.getElem?_eq_some_iff.1 hx).1
   have:(vs.toArray++Array.replicate (fn.ntmps-vs.toArray.size) undef).getD t undef=vs[t]:=by
    simp [Array.getD_eq_getD_getElem?,Array.getElem?_append,hlt]
   simp only [this,Option.getD_some];exact hr.2 t x _ hx (List.getElem?_eq_getElem hlt)
 refine wp_mono (h m β w _ hS hF) ?_;rintro e a' w' ⟨σ',S',m',β',q,r1,r2,r3⟩;have back:ExtB S.nx m β w m' β' w'→Ext m β w m' β' w':=fun h=>⟨h.imm,fun o ho=>h.step o (by
  rcases Nat.lt_or_ge o S.nx with hl | hl
  ·exact hl
  ·exact absurd ((hS.fresh o).2 hl) ho) ho,h.size,h.keep,h.os,h.tape,h.output⟩
 cases e with
 | normal =>
  obtain ⟨xs,q1,q2⟩:=q;obtain ⟨v,hv,hrv⟩:=YG (P:=P) ht r1 r2 q1;exact ⟨r2.defers,v,hv,v,_,S',m',β',rfl,q2,hrv,r1,back r3⟩
 | ret =>
  obtain ⟨xs,q1,q2⟩:=q;obtain ⟨v,hv,hrv⟩:=YG (P:=P) ht r1 r2 q1;exact ⟨r2.defers,v,hv,v,_,S',m',β',rfl,q2,hrv,r1,back r3⟩
 | _=>exact q.elim
theorem qY {f:FuncId} {fn:Func} {c:Code} {rs:List (Nat × Option (Option Nat))} {args:List V} {R:V→Store→Prop} (hf:P.funcs[f]? = some fn) (hb:fn.body=some c) (ht:resC P fn=some rs) (hn:args.length≤fn.ntmps)
  (h:S.Wf→VWp P fn.ntmps S.nx c (bodyC rs (YX S.nx R)) (KA 0 args) (St S [] [])):VCalls P f args S R:=by
 refine Js fun hwf=>zC (vcalls_bodyC hf hb ht hn ?_)
 have:=h hwf;rw [qQ hwf] at this;exact this
theorem doneC {rs:List (Nat × Option (Option Nat))} {R:V→Store→Prop} {xs:List V} (h:resL S σ rs=some xs) (hR:R (tupV xs) S) : ∃ xs,resL S σ rs=some xs∧R (tupV xs) S:=⟨xs,h,hR⟩
end
theorem resL_nil (S:Store) (σ:Fr):resL S σ []=some []:=nr rfl
def consO:Option V→Option (List V)→Option (List V)
 | some x,some xs=>some (x::xs)
 | _,_=>none
theorem resL_cons (S:Store) (σ:Fr) (r) (rs):resL S σ (r::rs)=consO (resL1 S σ r) (resL S σ rs):=nr rfl
theorem consO_some (x:V) (xs:List V):consO (some x) (some xs)=some (x::xs):=nr rfl
theorem resL1_t (S:Store) (σ:Fr) (t:Nat):resL1 S σ (t,none)=some (σ.look t):=nr rfl
theorem resL1_c (S:Store) (σ:Fr) (t:Nat) (sz:Option Nat):resL1 S σ (t,some sz)=Jy sz S (σ.look t):=nr rfl
theorem tupV_1 (x:V):tupV [x]=x:=nr rfl
theorem tupV_2 (x y:V) (r:List V):tupV (x::y::r) = .tuple (x::y::r):=nr rfl
attribute [simp] resL_nil resL_cons consO_some resL1_t resL1_c tupV_1 tupV_2
theorem Ghost.refS {S:Store} {o s:Nat} {cs:List V} (hc:S.get o=some (s,cs)) (h1:cs.all V.closed1=true) (hne:cs≠[]):Ghost (.ptr o 0) S (.ref (.agg cs)) (S.del o):=by
 intro m β w v hS hr;obtain ⟨b,base,s',n,hob,rfl⟩:=hr.inv_ptr (hS.alive hc);obtain ⟨_,arr,T,e1,e2,e3,e4⟩:=hS.cells_at hc hob;obtain ⟨k1,k2⟩:=hS.freeze hc hob e1;obtain ⟨vs,hl,hcs,hrl,hone⟩:=Jq e4 0 cs.length (by simp);simp only [List.drop_zero,List.take_length] at hrl;have hall : ∀ x∈cs,x.closed1=true:=by simpa using h1
 refine ⟨_,_,k1,k2, .imm (.ref (.agg cs) (.agg vs.toArray) b (base+0) arr T (0,0) (by simp [Imm.set]) (.agg cs vs hrl.1 (fun i x u hx hu=>((hrl.2 i x u hx hu).closed1 (hall x (List.mem_of_getElem? hx))).mono k2.imm) hone) fun j c hj => ?_)⟩;exact hcs j c (by simpa [Value.cells] using hj)
theorem refSt {B:Store} {u:Upds} {l:List (Option (Nat × List V))} {k s:Nat} {cs:List V} (hk:k<l.length) (hc:(l[k]?).join=some (s,cs)) (hcl:cs.all V.closed1=true) (hne:cs≠[]) :
  Ghost (.ptr (lid B.nx k) 0) (St B u l) (.ref (.agg cs)) (St B u (l.set k none)):=by
 rw [←jaA hk];exact Ghost.refS (by rw [jT]; exact hc) hcl hne
theorem QH {P:Program} {N b:Nat} {Q:Exit→Fr→Store→Prop} {σ σ':Fr} {B:Store} {u:Upds} {l l':List (Option (Nat × List V))} {c:Code} {s:Nat} {cs:List V} (t k:Nat) (H:VWp P N b c Q σ' (St B u l')) (hx:σ.look t=.ptr (lid B.nx k) 0:=by exact rfl) (hk:k<l.length:=by simp) (hc:(l[k]?).join=some (s,cs):=by exact rfl) (hcl:cs.all V.closed1=true:=by exact rfl) (hne:cs≠[]:=by simp) (hs:σ.set t (.ref (.agg cs))=σ':=by conv=>lhs; simp [Fr.set]) (hl:l.set k none=l':=by conv=>lhs; simp only [List.set_cons_succ,List.set_cons_zero]):VWp P N b c Q σ (St B u l):=jv t hx (refSt hk hc hcl hne) hs (by rw [hl]; exact H)
end Go.Vw

namespace Ss
def isKind (t:Int):Bool:=decide (t=127)||decide (t=126)
def kinds (most:Nat) (l:List Int):Bool:=decide (l.length≤most)&&l.all isKind
def Sig.right (s:Sig):Bool:=kinds 8 s.inn&&kinds 8 s.out
def Env.right (e:Env):Bool:=decide (0≤e.imports)&&decide (e.imports≤e.sigs.length)&&decide (e.sigs.length≤64)&&decide (e.muts.length=e.globals.length)&&kinds 32 e.globals&&e.sigs.all Sig.right
end Ss
namespace Go.Vw
open Go.Proofs Go.RowKit
set_option maxRecDepth 10000
set_option maxHeartbeats 1000000
theorem isKind_v (t:Int):VPure Tryz.prog 101 [vint t] (.bool (Ss.isKind t)):=by
 intro S;refine jb (c:=jg Tryz.f101) Tryz.func101 rfl rfl (by simp [Tryz.ntmps101]) ?_;rw [Tryz.ntmps101];intro hwf
 by_cases h:t=127
 ·repeat first|refine QG ?_|refine QY ?_ (r:=by conv=>lhs;simp[-List.map_set,QV,h])
  exact ja hwf (by simp [Ss.isKind,h]) rfl
 ·repeat first|refine QG ?_|refine QY ?_ (r:=by conv=>lhs;simp[-List.map_set,QV,h])
  exact ja hwf (by simp [Ss.isKind,h]) rfl
theorem kinds1_v (t:Int):VPure Tryz.prog 100 ([vint t]++[]) (.bool (!Ss.isKind t)):=by
 intro S;refine jb (c:=jg Tryz.f100) Tryz.func100 rfl rfl (by simp [Tryz.ntmps100]) ?_;rw [Tryz.ntmps100];intro hwf
 repeat first|refine QG ?_|refine QY ?_
 repeat refine QS ?_
 refine QP ?_;refine jc (isKind_v t) (by rfl) ?_;refine QW ?_
 repeat first|refine QG ?_|refine QY ?_
 exact ja hwf rfl rfl
theorem jbW (most:Nat) (l:List Int) (hl:l.length<2^63):VPure Tryz.prog 65 [vnat most,vl vint l] (.bool (Ss.kinds most l)):=by
 intro S;have e:(!l.any fun t => !Ss.isKind t)=l.all Ss.isKind:=by
  rw [List.not_any_eq_all_not]; congr 1; funext t; simp
 by_cases h:l.length≤most
 ·have h':(l.length:Int)≤(most:Int):=by omega
  have hX:Ss.kinds most l = !l.any fun t => !Ss.isKind t:=by rw [e]; simp [Ss.kinds,h]
  rw [hX];refine jb (c:=jg Tryz.f65) Tryz.func65 rfl rfl (by simp [Tryz.ntmps65]) ?_;rw [Tryz.ntmps65];intro hwf
  repeat first|refine QG ?_|refine QY ?_ (r:=by conv=>lhs;simp[-List.map_set,QV,h,h'])
  repeat refine QS ?_
  refine QP ?_ (r:=by conv=>lhs;simp[-List.map_set,QV,h,h']);refine jc (AnyI_v l (fun t => !Ss.isKind t) _ [] rfl hl (fun t _=>kinds1_v t)) (by rfl) ?_;refine QW ?_
  repeat first|refine QG ?_|refine QY ?_
  exact ja hwf (by simp) rfl
 ·have h' : ¬ (l.length:Int)≤(most:Int):=by omega
  have hX:Ss.kinds most l=false:=by simp [Ss.kinds,h]
  rw [hX];refine jb (c:=jg Tryz.f65) Tryz.func65 rfl rfl (by simp [Tryz.ntmps65]) ?_;rw [Tryz.ntmps65];intro hwf
  repeat first|refine QG ?_|refine QY ?_ (r:=by conv=>lhs;simp[-List.map_set,QV,h,h'])
  exact ja hwf rfl rfl
theorem jaS (s:Ss.Sig) (hs:s.Fits):VPure Tryz.prog 66 [jS s] (.bool s.right):=by
 intro S;obtain ⟨⟨h1,_⟩,⟨h2,_⟩⟩:=hs;obtain ⟨a,b⟩:=s;simp only at h1 h2;have hX:Ss.Sig.right ⟨a,b⟩=(Ss.kinds 8 a&&Ss.kinds 8 b):=rfl;rw [hX];have c1:VPure Tryz.prog 65 [.int .i64 8,vl vint a] (.bool (Ss.kinds 8 a)):=jbW 8 a (by omega);have c2:VPure Tryz.prog 65 [.int .i64 8,vl vint b] (.bool (Ss.kinds 8 b)):=jbW 8 b (by omega);generalize Ss.kinds 8 a=x at *
 generalize Ss.kinds 8 b=y at *
 refine jb (c:=jg Tryz.f66) Tryz.func66 rfl rfl (by simp [Tryz.ntmps66]) ?_;rw [Tryz.ntmps66];intro hwf
 repeat first|refine QG ?_|refine QY ?_
 repeat refine QS ?_
 refine QP ?_;refine jc (c1) (by rfl) ?_
 by_cases hx:x=true
 ·refine QM (by conv=>lhs;simp[-List.map_set,QV,hx]) ?_;refine jc (c2) (by rfl) ?_;refine QW ?_
  repeat first|refine QG ?_|refine QY ?_
  exact ja hwf (by simp [hx]) rfl
 ·have hx':x=false:=by simpa using hx
  refine QM (by conv=>lhs;simp[-List.map_set,QV,hx']) ?_;refine QN ?_
  repeat first|refine QG ?_|refine QY ?_
  exact ja hwf (by simp [hx']) rfl
theorem envRight1_v (s:Ss.Sig) (hs:s.Fits):VPure Tryz.prog 98 ([jS s]++[]) (.bool (!s.right)):=by
 intro S;have c1:=jaS s hs;obtain ⟨a,b⟩:=s;have c1':VPure Tryz.prog 66 [.agg [vl vint a,vl vint b]] (.bool (Ss.Sig.right ⟨a,b⟩)):=c1;refine jb (c:=jg Tryz.f98) Tryz.func98 rfl rfl (by simp [Tryz.ntmps98]) ?_;rw [Tryz.ntmps98];intro hwf
 repeat first|refine QG ?_|refine QY ?_
 repeat refine QS ?_
 refine QP ?_;refine jc (c1') (by rfl) ?_;refine QW ?_
 repeat first|refine QG ?_|refine QY ?_
 exact ja hwf rfl rfl
theorem EnvRight_v (e:Ss.Env) (he:e.Fits):VPure Tryz.prog 63 [zG e] (.bool e.right):=by
 intro S;obtain ⟨⟨h1,h2⟩,_,⟨h4,_⟩,h5⟩:=he;obtain ⟨sg,im,gl,mu,me⟩:=e;simp only at h1 h2 h4 h5;have ea:(!sg.any fun s => !s.right)=sg.all Ss.Sig.right:=by
  rw [List.not_any_eq_all_not]; congr 1; funext t; simp
 have hX:Ss.Env.right ⟨sg,im,gl,mu,me⟩=(decide (0≤im)&&decide (im≤sg.length)&&decide (sg.length≤64)&&decide (mu.length=gl.length)&&Ss.kinds 32 gl && !sg.any fun s => !s.right):=by rw [ea]; rfl
 rw [hX];have c1:VPure Tryz.prog 65 [.int .i64 32,vl vint gl] (.bool (Ss.kinds 32 gl)):=jbW 32 gl (by omega);have c2:=AnyS_v sg (fun s => !s.right) 98 [] rfl (by omega) (fun s hs=>envRight1_v s (h2 s hs));generalize Ss.kinds 32 gl=x at *
 generalize (sg.any fun s => !s.right)=y at *
 refine jb (c:=jg Tryz.f63) Tryz.func63 rfl rfl (by simp [Tryz.ntmps63]) ?_;rw [Tryz.ntmps63];intro hwf
 by_cases k1:im<0
 ·repeat first|refine QG ?_|refine QY ?_ (r:=by conv=>lhs;simp[-List.map_set,QV,k1])
  exact ja hwf (by simp; omega) rfl
 by_cases k2:(sg.length:Int)<im
 ·repeat first|refine QG ?_|refine QY ?_ (r:=by conv=>lhs;simp[-List.map_set,QV,k1,k2])
  exact ja hwf (by simp; omega) rfl
 by_cases k3:(64:Int)<(sg.length:Int)
 ·repeat first|refine QG ?_|refine QY ?_ (r:=by conv=>lhs;simp[-List.map_set,QV,k1,k2,k3])
  exact ja hwf (by simp; omega) rfl
 by_cases k4:mu.length=gl.length
 case neg =>
  have k4' : ¬ (mu.length:Int)=(gl.length:Int):=by omega
  repeat first|refine QG ?_|refine QY ?_ (r:=by conv=>lhs;simp[-List.map_set,QV,k1,k2,k3,k4,k4'])
  exact ja hwf (by simp [k4]) rfl
 have k4':(mu.length:Int)=(gl.length:Int):=by omega
 have hp:(decide (0≤im)&&decide (im≤sg.length)&&decide (sg.length≤64)&&decide (mu.length=gl.length))=true:=by simp [k4]; omega
 rw [hp]
 repeat first|refine QG ?_|refine QY ?_ (r:=by conv=>lhs;simp[-List.map_set,QV,k1,k2,k3,k4,k4'])
 repeat refine QS ?_
 refine QP ?_;refine jc (c1) (by rfl) ?_
 by_cases hx:x=true
 ·refine QM (by conv=>lhs;simp[-List.map_set,QV,hx]) ?_;refine jc (c2) (by rfl) ?_;refine QW ?_
  repeat first|refine QG ?_|refine QY ?_
  exact ja hwf (by simp [hx]) rfl
 ·have hx':x=false:=by simpa using hx
  refine QM (by conv=>lhs;simp[-List.map_set,QV,hx']) ?_;refine QN ?_
  repeat first|refine QG ?_|refine QY ?_
  exact ja hwf (by simp [hx']) rfl
theorem check1_v (b:Ss.Block):VPure Tryz.prog 68 ([jd b]++[]) (.bool (decide (256<b.params.length))):=by
 intro S;obtain ⟨ps,c,t⟩:=b;refine jb (c:=jg Tryz.f68) Tryz.func68 rfl rfl (by simp [Tryz.ntmps68]) ?_;rw [Tryz.ntmps68];intro hwf
 repeat first|refine QG ?_|refine QY ?_
 exact ja hwf (by simp; omega) rfl
end Go.Vw

namespace Go.Vw
open Go.Proofs Go.RowKit
set_option maxRecDepth 10000
set_option maxHeartbeats 4000000
theorem EqFI_v (l m:List (Int)) (p:Int→Int→Bool) (fid:FuncId) (caps:List V) (hc:qb Tryz.prog fid=true) (hl:l.length<2^63) (h:l.length=m.length → ∀ (k:Nat) (h1:k<l.length) (h2:k<m.length),VPure Tryz.prog fid ([vint l[k],vint m[k]]++caps) (.bool (p l[k] m[k]))) :
  VPure Tryz.prog 135 [vl (vint) l,vl (vint) m, .func fid caps] (.bool (eqF p l m)):=by
 intro S
 by_cases hlm:l.length=m.length
 ·have hlm':(l.length:Int)=(m.length:Int):=by omega
  have h:=h hlm;refine jb (c:=jg Tryz.f135) Tryz.func135 rfl rfl (by simp [Tryz.ntmps135]) ?_;rw [Tryz.ntmps135];intro hwf
  repeat first|refine QG ?_|refine QY ?_ (r:=by conv=>lhs;simp[-List.map_set,QV,hlm,hlm'])
  repeat refine QS ?_
  refine je [1,2,15,16,17] rfl (fun c σ S' => ∃ (k:Nat),k≤l.length∧c=l.length-k∧eqF p (l.drop k) (m.drop k)=eqF p l m∧σ=[(1,vl (vint) m),(2, .func fid caps),(15,vl (vint) l),(16,vnat m.length),(17,vnat k)]∧S'=St S [] []) l.length ?_ ?_
  ·exact ⟨0,by omega,rfl,rfl,by simp [Fr.only,hlm],rfl⟩
  ·rintro c σ T ⟨k,hk,rfl,hd,rfl,rfl⟩
   by_cases hkt:k<l.length
   ·have hkm:k<m.length:=by omega
    have hw:=jn hkt hl;have hst:eqF p (l.drop k) (m.drop k)=(p l[k] m[k]&&eqF p (l.drop (k+1)) (m.drop (k+1))):=by rw [List.drop_eq_getElem_cons hkt,List.drop_eq_getElem_cons hkm,eqF]
    have hh:=h k hkt hkm;obtain ⟨x,hx⟩ : ∃ x,l[k]=x:=⟨_,rfl⟩
    obtain ⟨y,hy⟩ : ∃ y,m[k]=y:=⟨_,rfl⟩
    rw [hx,hy] at hst hh
    repeat first|refine QG ?_|refine QY ?_ (r:=by conv=>lhs;simp[-List.map_set,QV,hkt,hkm,hx,hy])
    repeat refine QS ?_
    refine QP ?_ (r:=by conv=>lhs;simp[-List.map_set,QV,hkt,hkm,hx,hy]);refine zi rfl hc rfl hh ?_;refine QW ?_
    cases hp:p x y with
    | false =>
     rw [hp] at hst
     repeat first|refine QG ?_|refine QY ?_ (r:=by conv=>lhs;simp[-List.map_set,QV,hp])
     exact ja hwf (by rw [←hd,hst]; rfl) rfl
    | true =>
     rw [hp] at hst
     repeat first|refine QG ?_|refine QY ?_ (r:=by conv=>lhs;simp[-List.map_set,QV,hp])
     show jz _ _ _ _ _ _ _;exact again ⟨Nat.sub_lt_sub_left hkt (Nat.lt_succ_self k),k+1,hkt,rfl,by rw [←hd,hst]; rfl,by simp [Fr.only,hw],rfl⟩
   ·have e:l.drop k=[]:=by rw [List.drop_eq_nil_iff]; omega
    have e':m.drop k=[]:=by rw [List.drop_eq_nil_iff]; omega
    rw [e,e'] at hd;have hkm : ¬ k<m.length:=by omega
    repeat first|refine QG ?_|refine QY ?_ (r:=by conv=>lhs;simp[-List.map_set,QV,hkt,hkm])
    exact ja hwf (by rw [←hd]; rfl) rfl
 ·have hlm' : ¬ (l.length:Int)=(m.length:Int):=by omega
  have e:eqF p l m=false:=eqF_len hlm;rw [e];refine jb (c:=jg Tryz.f135) Tryz.func135 rfl rfl (by simp [Tryz.ntmps135]) ?_;rw [Tryz.ntmps135];intro hwf
  repeat first|refine QG ?_|refine QY ?_ (r:=by conv=>lhs;simp[-List.map_set,QV,hlm,hlm'])
  exact ja hwf rfl rfl
end Go.Vw

namespace Ss
structure Def where
 made:Bool
 block:Int
 pos:Int
deriving DecidableEq,Inhabited
def askOk (ts:List Int) (ds:List Def) (near:List Int) (block pos v t:Int):Bool :=
 decide (0≤v)&&decide (v<ds.length)&&decide (ts.getD v.toNat 0=t)&&(ds.getD v.toNat default).made &&
  (if (ds.getD v.toNat default).block=block then decide ((ds.getD v.toNat default).pos<pos) else Go.Vw.G.dominates near (ds.getD v.toNat default).block block)
def asks (ts:List Int) (ds:List Def) (near:List Int) (block pos:Int) (l types:List Int):Bool:=Go.Vw.eqF (askOk ts ds near block pos) l types
def typesOf (ts:List Int) (l:List Int):List Int:=l.map fun v=>ts.getD v.toNat 0
def InTs (n:Nat) (l:List Int):Prop := ∀ v∈l,0≤v∧v<n
end Ss
namespace Go.Vw
open Go.Proofs Go.RowKit
set_option maxRecDepth 10000
set_option maxHeartbeats 2000000
def qX (d:Ss.Def):V := .agg [.bool d.made,vint d.block,vint d.pos]
theorem encDef_eq (d:Ss.Def):qX d = .agg [.bool d.made,vint d.block,vint d.pos]:=nr rfl
theorem encDef_nc (d:Ss.Def):(qX d).ncells=3:=nr rfl
theorem encDef_cells (d:Ss.Def):(qX d).cells=[.bool d.made,vint d.block,vint d.pos]:=nr rfl
theorem zM (d:Ss.Def):(qX d).closed=true:=rfl
attribute [simp] encDef_eq encDef_nc
def ckC (e:Ss.Env) (f:Ss.Fn) (ds near:V):List V:=[vl jS e.sigs,vint e.imports,vl vint e.globals,vl V.bool e.muts, .bool e.mem,vl vint f.sig.inn,vl vint f.sig.out,vl vint f.types,vl jd f.blocks,ds,near]
theorem ckC_eq (e:Ss.Env) (f:Ss.Fn) (ds near:V):ckC e f ds near=[vl jS e.sigs,vint e.imports,vl vint e.globals,vl V.bool e.muts, .bool e.mem,vl vint f.sig.inn,vl vint f.sig.out,vl vint f.types,vl jd f.blocks,ds,near]:=nr rfl
attribute [simp] ckC_eq
abbrev ckV (e:Ss.Env) (f:Ss.Fn) (ds:List Ss.Def) (near:List Int):V := .ref (.agg (ckC e f (vl qX ds) (vl vint near)))
theorem boxSt {B:Store} {u:Upds} {l:List (Option (Nat × List V))} {k s:Nat} {x:V} (hk:k<l.length) (hc:(l[k]?).join=some (s,[x])) (h1:x.closed1=true):Ghost (.ptr (lid B.nx k) 0) (St B u l) (.ref x) (St B u (l.set k none)):=by
 rw [←jaA hk];exact Ghost.box (by rw [jT]; exact hc) h1
theorem types_v (e:Ss.Env) (f:Ss.Fn) (ds:List Ss.Def) (near:List Int) (l:List Int) (hl:l.length≤1048576) (hv:Ss.InTs f.types.length l):VPure Tryz.prog 107 [ckV e f ds near,vl vint l] (vl vint (Ss.typesOf f.types l)):=by
 intro S;obtain ⟨⟨fi,fo⟩,ts,bs⟩:=f;simp only at hv;generalize hg:(fun v:Int=>ts.getD v.toNat 0)=g;have hX:Ss.typesOf ts l=l.map g:=by rw [Ss.typesOf,hg]
 simp only;rw [hX];refine jb (c:=jg Tryz.f107) Tryz.func107 rfl rfl (by simp [Tryz.ntmps107]) ?_;rw [Tryz.ntmps107];intro hwf
 repeat refine QS ?_
 refine QY ?_
 repeat refine QS ?_
 refine QY ?_;refine zr 5 1 rfl (by conv=>lhs; simp [Fr.set]) ?_
 repeat first|refine QG ?_|refine QY ?_
 repeat refine QS ?_
 refine je [0,5,8,9,10] rfl (fun c σ S' => ∃ (k:Nat) (out:List Int),k≤l.length∧c=l.length-k∧out=(l.take k).map g∧out.length=k∧σ=[(0,ckV e ⟨⟨fi,fo⟩,ts,bs⟩ ds near),(5, .slice (lid S.nx 0) 0 k),(8,vl vint l),(9,vnat l.length),(10,vnat k)]∧S'=St S [] [some (1,out.map vint)]) l.length ?_ ?_
 ·exact ⟨0,[],by omega,rfl,by simp,rfl,by simp [Fr.only],by simp⟩
 ·rintro c σ T ⟨k,out,hk,rfl,ho,hlen,rfl,rfl⟩
  by_cases hkt:k<l.length
  ·have hw:=jn hkt (by omega);obtain ⟨h0,h1⟩:=hv _ (List.getElem_mem hkt);obtain ⟨v,hx⟩ : ∃ v,l[k]=v:=⟨_,rfl⟩
   rw [hx] at h0 h1;obtain ⟨n,rfl⟩ : ∃ n:Nat,v=n:=⟨v.toNat,by omega⟩
   have hn:n<ts.length:=by omega
   have hgn:g (n:Int)=ts[n]:=by rw [←hg]; simp [hn]
   have htk:l.take (k+1)=l.take k++[(n:Int)]:=by rw [List.take_add_one,List.getElem?_eq_getElem hkt,hx]; rfl
   have hb:(k+1)*8≤140737488355328:=by omega
   have hb':k+1≤140737488355328:=by omega
   repeat first|refine QG ?_|refine QY ?_ (r:=by conv=>lhs;simp[-List.map_set,QV,hkt,hx,hn,hlen,hb,hb'])
   refine QA [2] (h:=⟨?_,k+1,out++[ts[n]],hkt,rfl,by rw [htk,List.map_append,ho]; simp [hgn],by simp [hlen],by simp [hw],by simp⟩);omega
  ·have hke:k=l.length:=by omega
   subst hke;rw [List.take_length] at ho
   repeat first|refine QG ?_|refine QY ?_ (r:=by conv=>lhs;simp[-List.map_set,QV,hkt])
   rw [←ho];exact ji hwf ((frz1 (by simp) (by rfl) (jL vint (fun _=>rfl) _) (by simpa using hlen)).toB _) rfl
theorem asks1_v (e:Ss.Env) (f:Ss.Fn) (ds:List Ss.Def) (near:List Int) (block pos v t:Int) (hds:ds.length=f.types.length) (htl:f.types.length<2^63) (hnl:near.length<2^63) :
  VPure Tryz.prog 136 ([vint v,vint t]++[.ref (ckV e f ds near), .ref (vint block), .ref (vint pos)]) (.bool (Ss.askOk f.types ds near block pos v t)):=by
 intro S;obtain ⟨⟨fi,fo⟩,ts,bs⟩:=f;simp only at hds htl ⊢
 by_cases h0:v<0
 ·have e:Ss.askOk ts ds near block pos v t=false:=by simp [Ss.askOk]; omega
  rw [e];refine jb (c:=jg Tryz.f136) Tryz.func136 rfl rfl (by simp [Tryz.ntmps136]) ?_;rw [Tryz.ntmps136];intro hwf
  repeat first|refine QG ?_|refine QY ?_ (r:=by conv=>lhs;simp[-List.map_set,QV,h0])
  exact ja hwf (by simp) rfl
 obtain ⟨n,rfl⟩ : ∃ n:Nat,v=n:=⟨v.toNat,by omega⟩
 by_cases h1:n<ds.length
 case neg =>
  have h1' : ¬ (n:Int)<(ds.length:Int):=by omega
  have h1'':(ds.length:Int)≤(n:Int):=by omega
  have e:Ss.askOk ts ds near block pos n t=false:=by simp [Ss.askOk]; omega
  rw [e];refine jb (c:=jg Tryz.f136) Tryz.func136 rfl rfl (by simp [Tryz.ntmps136]) ?_;rw [Tryz.ntmps136];intro hwf
  repeat first|refine QG ?_|refine QY ?_ (r:=by conv=>lhs;simp[-List.map_set,QV,h0,h1,h1',h1''])
  exact ja hwf (by simp) rfl
 have hnt:n<ts.length:=by omega
 have h1'' : ¬ (ds.length:Int)≤(n:Int):=by omega
 obtain ⟨tt,htt⟩ : ∃ x,ts[n]=x:=⟨_,rfl⟩
 obtain ⟨⟨dm,db,dp⟩,hd⟩ : ∃ x,ds[n]=x:=⟨_,rfl⟩
 have hX:Ss.askOk ts ds near block pos n t=(decide (tt=t)&&(dm&&(if db=block then decide (dp<pos) else G.dominates near db block))):=by
  simp [Ss.askOk,h1,hnt,htt,hd,Bool.and_assoc]
 rw [hX]
 by_cases h2:tt=t
 case neg =>
  refine jb (c:=jg Tryz.f136) Tryz.func136 rfl rfl (by simp [Tryz.ntmps136]) ?_;rw [Tryz.ntmps136];intro hwf
  repeat first|refine QG ?_|refine QY ?_ (r:=by conv=>lhs;simp[-List.map_set,QV,h0,h1,h1'',hnt,htt,h2])
  exact ja hwf (by simp [h2]) rfl
 cases dm with
 | false =>
  refine jb (c:=jg Tryz.f136) Tryz.func136 rfl rfl (by simp [Tryz.ntmps136]) ?_;rw [Tryz.ntmps136];intro hwf
  repeat first|refine QG ?_|refine QY ?_ (r:=by conv=>lhs;simp[-List.map_set,QV,h0,h1,h1'',hnt,htt,h2,hd])
  exact ja hwf (by simp) rfl
 | true =>
  by_cases h3:db=block
  ·refine jb (c:=jg Tryz.f136) Tryz.func136 rfl rfl (by simp [Tryz.ntmps136]) ?_;rw [Tryz.ntmps136];intro hwf
   repeat first|refine QG ?_|refine QY ?_ (r:=by conv=>lhs;simp[-List.map_set,QV,h0,h1,h1'',hnt,htt,h2,hd,h3])
   exact ja hwf (by simp [h2,h3]) rfl
  ·have cd:=jaC near db block hnl;generalize G.dominates near db block=y at *
   refine jb (c:=jg Tryz.f136) Tryz.func136 rfl rfl (by simp [Tryz.ntmps136]) ?_;rw [Tryz.ntmps136];intro hwf
   repeat first|refine QG ?_|refine QY ?_ (r:=by conv=>lhs;simp[-List.map_set,QV,h0,h1,h1'',hnt,htt,h2,hd,h3])
   repeat refine QS ?_
   refine QD (r:=by conv=>lhs;simp[-List.map_set,QV,h0,h1,h1'',hnt,htt,h2,hd,h3]) (k:=?_);refine jc (cd) (by rfl) ?_;refine QW ?_
   repeat first|refine QG ?_|refine QY ?_
   exact ja hwf (by simp [h2,h3]) rfl
theorem asks_v (e:Ss.Env) (f:Ss.Fn) (ds:List Ss.Def) (near:List Int) (block pos:Int) (l types:List Int) (hds:ds.length=f.types.length) (htl:f.types.length<2^63) (hnl:near.length<2^63) (hl:l.length<2^63) :
  VPure Tryz.prog 109 [ckV e f ds near,vint block,vint pos,vl vint l,vl vint types] (.bool (Ss.asks f.types ds near block pos l types)):=by
 intro S;refine jb (c:=jg Tryz.f109) Tryz.func109 rfl rfl (by simp [Tryz.ntmps109]) ?_;rw [Tryz.ntmps109];intro hwf
 repeat refine QS ?_
 refine QY ?_;refine jv 5 rfl ((boxSt (by simp) rfl rfl)) (by conv=>lhs; simp [Fr.set]) ?_;simp only [List.set_cons_succ,List.set_cons_zero];refine jv 6 rfl ((boxSt (by simp) rfl rfl)) (by conv=>lhs; simp [Fr.set]) ?_;simp only [List.set_cons_succ,List.set_cons_zero];refine jv 7 rfl ((boxSt (by simp) rfl rfl)) (by conv=>lhs; simp [Fr.set]) ?_;simp only [List.set_cons_succ,List.set_cons_zero]
 repeat refine QS ?_
 refine QP ?_;refine jc (EqFI_v l types (Ss.askOk f.types ds near block pos) 136 [.ref (ckV e f ds near), .ref (vint block), .ref (vint pos)] rfl hl (fun _ k h1 h2=>asks1_v e f ds near block pos _ _ hds htl hnl)) (by rfl) ?_;refine QW ?_
 repeat first|refine QG ?_|refine QY ?_
 exact ja hwf rfl rfl
end Go.Vw

namespace Ss
def put (block pos:Int):List Def→List Int→Option (List Def)
 | ds,[]=>some ds
 | ds,v::l=>if v<0∨(ds.length:Int)≤v∨(ds.getD v.toNat default).made=true then none else put block pos (ds.set v.toNat ⟨true,block,pos⟩) l
def putCode (i:Int):Nat→List Def→List Ins→Option (List Def)
 | _,ds,[]=>some ds
 | k,ds,x::r=>(put i k ds x.outs).bind fun d=>putCode i (k+1) d r
def putBlocks:Nat→List Def→List Block→Option (List Def)
 | _,ds,[]=>some ds
 | i,ds,b::bs=>((put i (-1) ds b.params).bind fun d=>putCode i 0 d b.code).bind fun d=>putBlocks (i+1) d bs
def defsOf (f:Fn):Option (List Def):=putBlocks 0 (List.replicate f.types.length ⟨false,0,0⟩) f.blocks
theorem Yk {block pos:Int} : ∀ {l:List Int} {ds d:List Def},put block pos ds l=some d→d.length=ds.length
 | [],ds,d,h=>by simp only [put,Option.some.injEq] at h; rw [h]
 | v::l,ds,d,h=>by
  simp only [put] at h;split at h
  ·cases h
  ·rw [Yk h]; simp
end Ss
namespace Go.Vw
open Go.Proofs Go.RowKit
set_option maxRecDepth 10000
set_option maxHeartbeats 4000000
theorem jai {α:Type} {enc:α→V} {s:Nat} (hs : ∀ a,(enc a).cells.length=s) (a:α) : ∀ (l:List α) (n:Nat),n<l.length→jo enc (l.set n a)=(jo enc l).take (n*s)++(enc a).cells++(jo enc l).drop (n*s+s)
 | [],n,h=>by simp at h
 | x::l,0,h=>by
  simp only [List.set_cons_zero,jo,List.flatMap_cons,Nat.zero_mul,List.take_zero,List.nil_append,Nat.zero_add];rw [←hs x,List.drop_left]
 | x::l,n+1,h=>by
  have ih:=jai hs a l n (by simpa using h);simp only [List.set_cons_succ,jo,List.flatMap_cons] at ih ⊢;have e1:(n+1)*s=(enc x).cells.length+n*s:=by rw [hs,Nat.add_mul]; omega
  have e2:(n+1)*s+s=(enc x).cells.length+(n*s+s):=by omega
  rw [ih,e2,e1,List.take_length_add_append,List.drop_length_add_append];simp [List.append_assoc]
theorem qd {S:Store} (hwf:S.Wf) {o:Nat} {c} (h:S.get o=some c):o<S.nx:=by
 rcases Nat.lt_or_ge o S.nx with h' | h'
 ·exact h'
 ·rw [hwf.gone o h'] at h; cases h
theorem define1_v (S:Store) (e:Ss.Env) (f:Ss.Fn) (nearV:V) (pc ck od:Nat) (ds:List Ss.Def) (l:List Int) (block pos:Int) (hl:l.length<2^63) (hn:ds.length<2^40) (hp:S.get pc=some (1,[.ptr ck 0]))
  (hc:S.get ck=some (11,ckC e f (.slice od 0 ds.length) nearV)) (hd:S.get od=some (3,jo qX ds)) (h1:pc≠od) (h2:ck≠od) :
  VCalls Tryz.prog 103 ([vl vint l,vint block,vint pos]++[.ptr pc 0]) S (fun r T => ∃ ds',ds'.length=ds.length∧r = .bool (Ss.put block pos ds l).isSome∧(∀ d,Ss.put block pos ds l=some d→ds'=d)∧T=S.upd od (3,jo qX ds')):=by
 obtain ⟨⟨fi,fo⟩,ts,bs⟩:=f;obtain ⟨sg,im,gl,mu,me⟩:=e;refine jb (c:=jg Tryz.f103) Tryz.func103 rfl rfl (by simp [Tryz.ntmps103]) ?_;rw [Tryz.ntmps103];intro hwf;have hpn:=qd hwf hp;have hcn:=qd hwf hc;have hdn:=qd hwf hd;have op:=fun u l => @jx S u l pc hpn
 have oc:=fun u l => @jx S u l ck hcn
 have od':=fun u l => @jx S u l od hdn
 have hupd:=fun u l c => @JD S u l c od hdn
 have fin : ∀ (X:Bool) (d:List Ss.Def),d.length=ds.length→(Ss.put block pos ds l).isSome=X→(∀ d',Ss.put block pos ds l=some d'→d=d') → ∀ r:V,r = .bool X →
   YX S.nx (fun r T => ∃ ds',ds'.length=ds.length∧r = .bool (Ss.put block pos ds l).isSome∧(∀ d,Ss.put block pos ds l=some d→ds'=d)∧T=S.upd od (3,jo qX ds')) r (St S [(od,some (3,jo qX d))] []):=by
  intro X d k1 k2 k3 r k4;refine Kd (X := .bool X) (S':=S.upd od (3,jo qX d)) hwf k4 rfl (by simp [Kz,jaJ,JB zM]) ?_ ⟨d,k1,by rw [k2],k3,rfl⟩;simp only [gcU,gcE,Option.map_some,JA zM];exact jck hwf hdn
 rw [WW hd]
 repeat first|refine QG ?_|refine QY ?_
 repeat refine QS ?_
 refine je [1,2,3,10,11,12] rfl (fun c σ S' => ∃ (k:Nat) (d:List Ss.Def),k≤l.length∧c=l.length-k∧d.length=ds.length∧Ss.put block pos d (l.drop k)=Ss.put block pos ds l∧σ=[(1,vint block),(2,vint pos),(3, .ptr pc 0),(10,vl vint l),(11,vnat l.length),(12,vnat k)]∧S'=St S [(od,some (3,jo qX d))] []) l.length ?_ ?_
 ·exact ⟨0,ds,by omega,rfl,rfl,rfl,by simp [Fr.only],rfl⟩
 ·rintro c σ T ⟨k,d,hk,rfl,hdl,hpd,rfl,rfl⟩
  by_cases hkt:k<l.length
  ·have hw:=jn hkt hl;have hst:Ss.put block pos d (l.drop k)=if l[k]<0∨(d.length:Int)≤l[k]∨(d.getD l[k].toNat default).made=true then none else Ss.put block pos (d.set l[k].toNat ⟨true,block,pos⟩) (l.drop (k+1)):=by rw [List.drop_eq_getElem_cons hkt,Ss.put]
   obtain ⟨v,hx⟩ : ∃ v,l[k]=v:=⟨_,rfl⟩
   rw [hx] at hst;have bad:(v<0∨(d.length:Int)≤v∨(d.getD v.toNat default).made=true)→Ss.put block pos ds l=none:=fun hb=>by rw [←hpd,hst,if_pos hb]
   by_cases q1:v<0
   ·repeat first|refine QG ?_|refine QY ?_ (r:=by conv=>lhs;simp[-List.map_set,QV,hkt,hx,q1])
    have hb:=bad (.inl q1);exact fin false d hdl (by rw [hb]; rfl) (by rw [hb]; simp) _ (by simp)
   obtain ⟨n,rfl⟩ : ∃ n:Nat,v=n:=⟨v.toNat,by omega⟩
   by_cases q2:n<d.length
   case neg =>
    have q2':(ds.length:Int)≤(n:Int):=by omega
    have hb:=bad (.inr (.inl (by omega)))
    repeat first|refine QG ?_|refine QY ?_ (r:=by conv=>lhs;simp[-List.map_set,QV,hkt,hx,q1,q2,q2',op,oc,od',hp,hc,h1,h2])
    exact fin false d hdl (by rw [hb]; rfl) (by rw [hb]; simp) _ (by simp)
   have q2' : ¬ (ds.length:Int)≤(n:Int):=by omega
   obtain ⟨⟨dm,db,dp⟩,hdx⟩ : ∃ x,d[n]=x:=⟨_,rfl⟩
   have hdg:d.getD (n:Int).toNat default=⟨dm,db,dp⟩:=by simp [q2,hdx]
   have hcell:(jo qX d)[n*3]? = some (.bool dm):=WL (enc:=qX) (s:=3) (fun _=>rfl) d n 0 ⟨dm,db,dp⟩ (.bool dm) (by rw [←hdx]; exact List.getElem?_eq_getElem q2) rfl;have hfl:(jo qX d).length=d.length*3:=Jc (enc:=qX) (s:=3) (fun _=>rfl) d;have hn2:n<ds.length:=by omega
   by_cases q3:dm=true
   ·have hb:=bad (.inr (.inr (by rw [hdg]; exact q3)))
    repeat first|refine QG ?_|refine QY ?_ (r:=by conv=>lhs;simp[-List.map_set,QV,hkt,hx,q1,q2,q2',op,oc,od',hp,hc,h1,h2,hcell,hn2,q3])
    exact fin false d hdl (by rw [hb]; rfl) (by rw [hb]; simp) _ (by simp)
   ·have q3':dm=false:=by simpa using q3
    have hfit:n*3+3≤(jo qX d).length:=by omega
    rw [if_neg (by rw [hdg]; rintro (h | h | h)<;>first | exact q1 h | exact q3 h | omega)] at hst;have hfs:=jai (enc:=qX) (s:=3) (fun _=>rfl) ⟨true,block,pos⟩ d n q2
    repeat first|refine QG ?_|refine QY ?_ (r:=by conv=>lhs;simp[-List.map_set,QV,hkt,hx,q1,q2,q2',op,oc,od',hp,hc,h1,h2,hcell,hn2,q3',hfit,hupd])
    show jz _ _ _ _ _ _ _;exact again ⟨Nat.sub_lt_sub_left hkt (Nat.lt_succ_self k),k+1,d.set n ⟨true,block,pos⟩,hkt,rfl,by simp [hdl],by rw [←hpd,hst]; rfl,by simp [Fr.only,hw],by rw [hfs]; simp [encDef_cells]⟩
  ·have e1:l.drop k=[]:=by rw [List.drop_eq_nil_iff]; omega
   rw [e1] at hpd;have hpe:Ss.put block pos ds l=some d:=by rw [←hpd]; rfl
   repeat first|refine QG ?_|refine QY ?_ (r:=by conv=>lhs;simp[-List.map_set,QV,hkt])
   exact fin true d hdl (by rw [hpe]; rfl) (by rw [hpe]; simp) _ (by simp)
end Go.Vw
