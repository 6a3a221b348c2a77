import Derived.Test.YtenhhokhkkfgbaaGreatC7
import Derived.Test.YtenhhokhkkfgbaaGreatC8
/- Part of the proof. -/
set_option linter.unusedVariables false
set_option linter.unusedSimpArgs false
/-
 The calculus in the form that a walk uses: paths into a body, operations one by one.
-/
namespace Go.Vw
open Go.RowKit
def jc (f:Func):Code:=f.body.getD .skip
def Code.fst:Code->Code | .seq a _=>a | c=>c
def Code.snd:Code->Code | .seq _ b=>b | c=>c
def Code.inner:Code->Code | .block _ c=>c | .loop c=>c | .scope c=>c | c=>c
def Code.thn:Code->Code | .cond _ a _=>a | c=>c
def Code.els:Code->Code | .cond _ _ b=>b | c=>c
def Code.test:Code->Operand | .cond c _ _=>c | _ => .func 0
def Code.ops:Code->Array Oper | .region _ ops _=>ops | _ => #[]
def Code.kind:Code->Nat
 | .skip=>0 | .region _ _ false=>1 | .region _ _ true=>2 | .seq _ _=>3 | .cond _ _ _=>4 | .block _ _=>5 | .loop _=>6 | .exit _=>7 | .ret=>8 | .scope _=>9 | .label _=>10 | _=>11
def Code.id:Code->Nat | .block i _=>i | .exit i=>i | _=>0
def vsegO (P:Program) (z:Option ZZ) (o:Option (List CO)) (K:Fr->Store->Prop) (σ:Fr) (S:Store):Prop :=
 match o with
 | some cs=>jz P z cs K σ S
 | none=>False
section
variable {P:Program} {N b:Nat} {Q:Exit->Fr->Store->Prop} {σ:Fr} {S:Store} {c:Code}
theorem JQ (h:Code.kind c=3) (H:VWp P N b (Code.fst c) (Kq (VWp P N b (Code.snd c) Q) Q) σ S):VWp P N b c Q σ S:=by
 cases c<;>first | exact vw_seq H | (simp [Code.kind] at h; done) | (rename_i d; cases d<;>simp [Code.kind] at h)
theorem jV (id:Nat) (h:Code.kind c=5) (hi:Code.id c=id) (H:VWp P N b (Code.inner c) (ZD id Q) σ S):VWp P N b c Q σ S:=by
 cases c<;>first | (simp only [Code.id] at hi; subst hi; exact vw_block H) | (simp [Code.kind] at h; done) | (rename_i d; cases d<;>simp [Code.kind] at h)
theorem qb (id:Nat) (h:Code.kind c=7) (hi:Code.id c=id) (H:Q (.exit id) σ S):VWp P N b c Q σ S:=by
 cases c<;>first | (simp only [Code.id] at hi; subst hi; exact vw_exit H) | (simp [Code.kind] at h; done) | (rename_i d; cases d<;>simp [Code.kind] at h)
theorem jC (h:Code.kind c=8) (H:Q .ret σ S):VWp P N b c Q σ S:=by
 cases c<;>first | exact vw_ret H | (simp [Code.kind] at h; done) | (rename_i d; cases d<;>simp [Code.kind] at h)
def noGotoV (Q:Exit->Fr->Store->Prop):Exit->Fr->Store->Prop
 | .goto _=>fun _ _=>False
 | e=>Q e
theorem vw_scopeAt (h:Code.kind c=9) (H:VWp P N b (Code.inner c) (noGotoV Q) σ S):VWp P N b c Q σ S:=by
 cases c with
 | scope x =>
  intro m β w a hS hF;refine wp_scope_straight (wp_mono (H m β w a hS hF) ?_);rintro e a' w' ⟨σ',S',m',β',q,r1,r2,r3⟩
  cases e with
  | goto l=>exact q.elim
  | _=>exact ⟨σ',S',m',β',q,r1,r2,r3⟩
 | region id ops d=>cases d<;>simp [Code.kind] at h
 | _=>simp [Code.kind] at h
theorem vw_labelAt (h:Code.kind c=10) (H:Q .normal σ S):VWp P N b c Q σ S:=by
 cases c with
 | label l=>exact fun m β w a hS hF=>wp_label ⟨σ,S,m,β,H,hS,hF,ExtB.refl _ _ _ _⟩
 | region id ops d=>cases d<;>simp [Code.kind] at h
 | _=>simp [Code.kind] at h
theorem jF (h:Code.kind c=0) (H:Q .normal σ S):VWp P N b c Q σ S:=by
 cases c<;>first | exact vw_skip H | (simp [Code.kind] at h; done) | (rename_i d; cases d<;>simp [Code.kind] at h)
theorem vw_regionAt (h:Code.kind c=1) (H:vsegO P none (qh P N (Code.ops c)) (Q .normal) σ S):VWp P N b c Q σ S:=by
 cases c with
 | region id ops d =>
  cases d
  ·simp only [Code.ops] at H
   cases hc:qh P N ops with
   | none=>rw [hc] at H; exact H.elim
   | some cs=>rw [hc] at H; exact vw_region hc (JG cs σ S H)
  ·simp [Code.kind] at h
 | _=>simp [Code.kind] at h
theorem vw_drawAt (Z:ZZ) (h:Code.kind c=2) (hm:P.follows .mixedOrders=true) (hB:lexW Z.es (qJ (Code.ops c)) (Code.ops c) ((qh P N (Code.ops c)).getD []) ((qh P N (Code.ops c)).getD []).length 0 (Array.replicate (Code.ops c).size false)=true)
  (hE:zh (qJ (Code.ops c)) ((qh P N (Code.ops c)).getD []) Z.es=true) (hz:Z.ok S) (h0:Z.z0.Sub S) (H:vsegO P (some Z) (qh P N (Code.ops c)) (Q .normal) σ S):VWp P N b c Q σ S:=by
 cases c with
 | region id ops d =>
  cases d
  ·simp [Code.kind] at h
  ·simp only [Code.ops] at H hB hE
   cases hc:qh P N ops with
   | none=>rw [hc] at H; exact H.elim
   | some cs =>
    rw [hc] at H hB hE;exact jbf hm hc hB hE hz h0 (qT cs σ S H)
 | _=>simp [Code.kind] at h
theorem Store.sub_refl (S:Store):S.Sub S:=fun _ _ h=>h
theorem ZZ.plain_ok (S:Store):(ZZ.plain S).ok S:=⟨S.sub_refl,S.sub_refl.shp⟩
theorem nr {α:Sort _} {a b:α} (h:a=b):a=b:=by cases h; rfl
def vcond (v:V) (A B:Prop):Prop :=
 match v with
 | .bool t=>(t=true->A)/\(t=false->B)
 | _=>False
theorem ZS (h:Code.kind c=4) {z:Arg} (hz:jr (Code.test c)=some z) (H:vcond (ev σ z) (VWp P N b (Code.thn c) Q σ S) (VWp P N b (Code.els c) Q σ S)):VWp P N b c Q σ S:=by
 cases c with
 | cond t x y =>
  simp only [vcond] at H;split at H
  ·rename_i b hb; exact vw_cond hz hb H.1 H.2
  ·exact H.elim
 | region id ops d=>cases d<;>simp [Code.kind] at h
 | _=>simp [Code.kind] at h
def js (N b:Nat) (I:Nat->Fr->Store->Prop) (ks:List Nat) (n:Nat) (σ:Fr) (S:Store):Prop := ∃ n',n'<n /\ ∃ σc Sc,Reach N b (σ.only ks) S σc Sc/\I n' σc Sc
theorem again {N b:Nat} {I:Nat->Fr->Store->Prop} {ks:List Nat} {n n':Nat} {σ:Fr} {S:Store} (h:n'<n/\I n' (σ.only ks) S):js N b I ks n σ S:=⟨n',h.1,_,_,Reach.refl _ _,h.2⟩
theorem jd (ks:List Nat) (h:Code.kind c=6) (I:Nat->Fr->Store->Prop) (n0:Nat) (h0:I n0 (σ.only ks) S)
  (round : ∀ n σ S,I n σ S->VWp P N b (Code.inner c) (Kq (js N b I ks n) Q) σ S):VWp P N b c Q σ S:=by
 cases c with
 | loop x=>exact vw_loop ks I n0 h0 round
 | region id ops d=>cases d<;>simp [Code.kind] at h
 | _=>simp [Code.kind] at h
end
section
variable (K:Fr->Store->Prop) (Q:Exit->Fr->Store->Prop) (i j:Nat) (σ:Fr) (S:Store)
end
/-! ### Operations one by one -/
def opPick:V->V->V->Option V
 | .bool t,x,y=>some (if t then x else y)
 | _,_,_=>none
def opBox (S:Store) (x:V):Option (V × Store):=if x.cells.all V.one then some (.ptr S.nx 0,S.add (x.ncells,x.cells)) else none
def opNil (S:Store):V->Option V
 | .ptr o p=>if (S.get o).isSome=true then some (.ptr o p) else none
 | .ref y=>some (.ref y)
 | _=>none
def opConv (k:IntKind):V->Option V
 | .int _ n=>some (.int k (k.wrap n))
 | _=>none
def opLenS:V->Option V
 | .str s=>some (.int .i64 s.size)
 | _=>none
def opExtract (i:Nat):V->Option V
 | .tuple xs=>xs[i]?
 | _=>none
section
variable (P:Program) (z:Option ZZ) (r:List CO) (K:Fr->Store->Prop) (σ:Fr) (S:Store) (d:Option Nat)
def vcall (P:Program) (z:Option ZZ) (f:FuncId) (args:List V) (S:Store) (r:List CO) (K:Fr->Store->Prop) (σ:Fr) (d:Option Nat):Prop:=zy P z d f args S fun v S'=>jz P z r K (σ.put d v) S'
theorem Wj (f:FuncId) (args:List Arg):jz P z (⟨d,none, .call f args⟩::r) K σ S=vcall P z f (args.map (ev σ)) S r K σ d:=nr rfl
def jbu (P:Program) (z:Option ZZ) (f:V) (args:List V) (S:Store) (r:List CO) (K:Fr->Store->Prop) (σ:Fr) (d:Option Nat):Prop :=
 match f with
 | .func g caps=>jH P g=true/\vcall P z g (args++caps) S r K σ d
 | _=>False
theorem Zt (f:Arg) (args:List Arg):jz P z (⟨d,none, .callv f args⟩::r) K σ S=jbu P z (ev σ f) (args.map (ev σ)) S r K σ d:=by
 simp only [jz,vopG,jbu]
 cases ev σ f<;>rfl
def vguard (v:V) (want:Bool) (A B:Prop):Prop :=
 match v with
 | .bool b=>if b=want then A else B
 | .tuple []=>B
 | _=>False
variable {P} {z} {r} {K} {σ} {S} {d}
def noW:Option ZZ->Option Nat->Bool
 | none,_=>true
 | some z,d => !wrcL z.es d
theorem VPure.call {f:FuncId} {args:List V} {X:V} (h:VPure P f args X) (hk:jz P z r K (σ.put d X) S) (hz:noW z d=true):vcall P z f args S r K σ d:=by
 cases z with
 | none=>exact h.use hk
 | some Z =>
  have hw : ¬ wrcL Z.es d=true:=by simpa [noW] using hz
  show zy P (some Z) d f args S _;simp only [zy];rw [if_neg hw];exact ⟨X,h.toZ _,hk⟩
end
/-! ### Runs of operations, the state alone -/
def COp.isCall:COp->Bool
 | .call _ _ | .callv _ _=>true
 | _=>false
def runV (z:Option ZZ):List CO->Fr->Store->Option (List CO × Fr × Store)
 | [],σ,S=>some ([],σ,S)
 | o::r,σ,S=>match o.guard with
  | some (t,want)=>match σ.look t with
   | .bool b=>if b=want then
     (if o.op.isCall=true\/(o.op.reader=false/\z.isSome=true) then some (⟨o.dst,none,o.op⟩::r,σ,S) else match ji (ev σ) (if o.op.reader=true then rd z o.dst o.op S else S) o.op with
      | some (v,S')=>runV z r (σ.put o.dst v) (if o.op.reader=true then S else S')
      | none=>none)
    else runV z r (σ.put o.dst (.tuple [])) S
   | .tuple []=>runV z r (σ.put o.dst (.tuple [])) S
   | _=>none
  | none=>if o.op.isCall=true\/(o.op.reader=false/\z.isSome=true) then some (⟨o.dst,none,o.op⟩::r,σ,S) else match ji (ev σ) (if o.op.reader=true then rd z o.dst o.op S else S) o.op with
   | some (v,S')=>runV z r (σ.put o.dst v) (if o.op.reader=true then S else S')
   | none=>none
theorem vopG_run {P:Program} {z:Option ZZ} {σ:Fr} {S:Store} {d:Option Nat} {op:COp} {k:V->Store->Prop} {v:V} {S':Store} (hc : ¬ (op.isCall=true\/(op.reader=false/\z.isSome=true)))
  (he:ji (ev σ) (if op.reader=true then rd z d op S else S) op=some (v,S')) (hk:k v (if op.reader=true then S else S')):vopG P z σ S d op k:=by
 have h1:op.isCall=false:=by cases h:op.isCall<;>simp_all
 by_cases hr:op.reader=true
 ·rw [if_pos hr] at he hk
  cases op<;>first | (simp [COp.isCall] at h1; done) | (simp [COp.reader] at hr; done) | (simp only [vopG,COp.reader,if_true,he]; exact hk)
 ·have hz:z=none:=by
   cases z with
   | none=>rfl
   | some Z=>exact absurd (.inr ⟨by simpa using hr,rfl⟩) hc
  subst hz;rw [if_neg hr] at he hk
  cases op<;>first | (simp [COp.isCall] at h1; done) | (simp [COp.reader] at hr; done) | (simp only [vopG,COp.reader,aF,if_false,he]; exact ⟨trivial,hk⟩)
theorem zL {P:Program} {z:Option ZZ} {K:Fr->Store->Prop} {rest:List CO} {σ':Fr} {S':Store} : ∀ (cs:List CO) (σ:Fr) (S:Store),runV z cs σ S=some (rest,σ',S')->jz P z rest K σ' S'->jz P z cs K σ S
 | [],σ,S,h,hk=>by simp only [runV,ay,Prod.mk.injEq] at h; obtain ⟨rfl,rfl,rfl⟩:=h; exact hk
 | o::r,σ,S,h,hk=>by
  have go:(if o.op.isCall=true\/(o.op.reader=false/\z.isSome=true) then some (⟨o.dst,none,o.op⟩::r,σ,S) else match ji (ev σ) (if o.op.reader=true then rd z o.dst o.op S else S) o.op with
      | some (v,S')=>runV z r (σ.put o.dst v) (if o.op.reader=true then S else S')
      | none=>none)=some (rest,σ',S')->vopG P z σ S o.dst o.op fun v S'=>jz P z r K (σ.put o.dst v) S':=by
   intro h;split at h
   ·simp only [ay,Prod.mk.injEq] at h;obtain ⟨rfl,rfl,rfl⟩:=h;simpa only [jz] using hk
   ·rename_i hc;split at h
    ·rename_i v S1 hv;exact vopG_run hc hv (zL r _ _ h hk)
    ·cases h
  simp only [runV] at h;simp only [jz]
  cases hg:o.guard with
  | none=>simp only [hg] at h; exact go h
  | some tw =>
   obtain ⟨t,want⟩:=tw;simp only [hg] at h;simp only
   cases hv:σ.look t with
   | bool b =>
    simp only [hv] at h;simp only;split at h
    ·rename_i hb; rw [if_pos hb]; exact go h
    ·rename_i hb; rw [if_neg hb]; exact zL r _ _ h hk
   | tuple xs =>
    cases xs with
    | nil=>simp only [hv] at h; exact zL r _ _ h hk
    | cons=>simp [hv] at h
   | _=>simp [hv] at h
section
variable {P:Program} {N b:Nat} {Q:Exit->Fr->Store->Prop} {σ σ':Fr} {S S':Store} {c:Code} {cs rest:List CO}
theorem qg (h:Code.kind c=1) (hc:qh P N (Code.ops c)=some cs) (hr:runV none cs σ S=some (rest,σ',S')) (H:jz P none rest (Q .normal) σ' S'):VWp P N b c Q σ S :=
 vw_regionAt h (by rw [hc]; exact zL cs σ S hr H)
theorem vw_drawFrz (Z:ZZ) (fs:List Nat) (h:Code.kind c=2) (hm:P.follows .mixedOrders=true) {cs0:List CO} {ms:List Nat} (hM:qJ (Code.ops c)=ms) (hc:qh P N (Code.ops c)=some cs0) (hcs:Zb fs cs0=cs) (hB:lexW Z.es ms (Code.ops c) cs cs.length 0 (Array.replicate (Code.ops c).size false)=true)
  (hE:zh ms cs Z.es=true) (hz:Z.ok S) (h0:Z.z0.Sub S) (hr:runV (some Z) cs σ S=some (rest,σ',S')) (H:jz P (some Z) rest (Q .normal) σ' S'):VWp P N b c Q σ S:=by
 cases c with
 | region id ops d =>
  cases d
  ·simp [Code.kind] at h
  ·simp only [Code.ops] at hM hc hB;subst hM;exact ZP fs hm hc hcs hB hE hz h0 (qT cs σ S (zL cs σ S hr H))
 | _=>simp [Code.kind] at h
theorem jbs (Z:ZZ) (h:Code.kind c=2) (hm:P.follows .mixedOrders=true) {ms:List Nat} (hM:qJ (Code.ops c)=ms) (hc:qh P N (Code.ops c)=some cs) (hB:lexW Z.es ms (Code.ops c) cs cs.length 0 (Array.replicate (Code.ops c).size false)=true)
  (hE:zh ms cs Z.es=true) (hz:Z.ok S) (h0:Z.z0.Sub S) (hr:runV (some Z) cs σ S=some (rest,σ',S')) (H:jz P (some Z) rest (Q .normal) σ' S'):VWp P N b c Q σ S :=
 vw_drawAt Z h hm (by rw [hc,hM]; exact hB) (by rw [hc,hM]; exact hE) hz h0 (by rw [hc]; exact zL cs σ S hr H)
theorem jaP (ms:List Nat) (cs:List CO):zh ms cs []=true:=by
 simp only [zh,aD];intro i _;split
 ·rename_i oi _; cases oi.dst<;>simp
 ·rfl
theorem Ko (h:Code.kind c=2) (hm:P.follows .mixedOrders=true) {ms:List Nat} (hM:qJ (Code.ops c)=ms) (hc:qh P N (Code.ops c)=some cs) (hB:lexZ ms (Code.ops c) cs cs.length 0 (Array.replicate (Code.ops c).size false)=true)
  (hr:runV (some (ZZ.plain S)) cs σ S=some (rest,σ',S')) (H:jz P (some (ZZ.plain S)) rest (Q .normal) σ' S'):VWp P N b c Q σ S :=
 jbs _ h hm hM hc hB (jaP _ _) (ZZ.plain_ok S) S.sub_refl hr H
theorem zr {Z:ZZ} {K:Fr->Store->Prop} {d:Option Nat} {op:COp} (hk:(op.isCall||op.reader)=false) (hr:runV none [⟨d,none,op⟩] σ S=some ([],σ',S')) (hz:Z.ok S') (H:jz P (some Z) rest K σ' S'):jz P (some Z) (⟨d,none,op⟩::rest) K σ S:=by
 have h1:op.isCall=false:=by cases h:op.isCall<;>simp_all
 have h2:op.reader=false:=by cases h:op.reader<;>simp_all
 simp only [runV,h1,h2,aF,Option.isSome_none,and_false,or_false,if_false] at hr;split at hr
 ·rename_i v S1 hv;simp only [ay,Prod.mk.injEq,true_and] at hr;obtain ⟨rfl,rfl⟩:=hr;simp only [jz]
  cases op<;>first | (simp [COp.isCall] at h1; done) | (simp [COp.reader] at h2; done) | (simp only [vopG,COp.reader,aF,if_false,hv]; exact ⟨hz,H⟩)
 ·cases hr
theorem vseg_done {z:Option ZZ} {K:Fr->Store->Prop} (h:K σ S):jz P z [] K σ S:=h
theorem Wz {z:Option ZZ} {K:Fr->Store->Prop} (hr:runV z cs σ S=some (rest,σ',S')) (H:jz P z rest K σ' S'):jz P z cs K σ S:=zL cs σ S hr H
theorem Yk (h:Code.kind c=4) {t:Bool} {z:Arg} (hz:jr (Code.test c)=some z) (hv:ev σ z = .bool t) (p:Prop) (hp:t=true↔p) (hx:p->VWp P N b (Code.thn c) Q σ S) (hy : ¬ p->VWp P N b (Code.els c) Q σ S):VWp P N b c Q σ S :=
 ZS h hz (by rw [hv]; exact ⟨fun ht=>hx (hp.1 ht),fun ht=>hy fun hp'=>by rw [hp.2 hp'] at ht; cases ht⟩)
theorem jJ (h:Code.kind c=4) {z:Arg} (hz:jr (Code.test c)=some z) (hv:ev σ z = .bool true) (hx:VWp P N b (Code.thn c) Q σ S):VWp P N b c Q σ S :=
 ZS h hz (by rw [hv]; exact ⟨fun _=>hx,(fun ht=>by cases ht)⟩)
theorem jG (h:Code.kind c=4) {z:Arg} (hz:jr (Code.test c)=some z) (hv:ev σ z = .bool false) (hx:VWp P N b (Code.els c) Q σ S):VWp P N b c Q σ S :=
 ZS h hz (by rw [hv]; exact ⟨(fun ht=>by cases ht),fun _=>hx⟩)
theorem vw_only' (ks:List Nat) (hk:σ.only ks=σ') (H:VWp P N b c Q σ' S):VWp P N b c Q σ S:=vw_only ks (by rw [hk]; exact H)
theorem jb {z:Option ZZ} {K:Fr->Store->Prop} {d:Option Nat} {f:FuncId} {args:List Arg} {xs:List V} {r:List CO} {X:V} (ha:args.map (ev σ)=xs) (h:VPure P f xs X) (H:jz P z r K (σ.put d X) S) (hz:noW z d=true:=by rfl):jz P z (⟨d,none, .call f args⟩::r) K σ S:=by
 rw [Wj,ha]; exact h.call H hz
theorem Kp {Z:ZZ} {K:Fr->Store->Prop} {d:Option Nat} {f:FuncId} {args:List Arg} {xs:List V} {r:List CO} {X:V} {S S':Store} (ha:args.map (ev σ)=xs) (h:VCalls P f xs S fun r T=>r=X/\T=S') (hw:wrcL Z.es d=true) (hsub:S.Sub S') (hz:Z.ok S') (H:jz P (some Z) r K (σ.put d X) S'):jz P (some Z) (⟨d,none, .call f args⟩::r) K σ S:=by
 rw [Wj,ha];show zy P (some Z) d f xs S _;simp only [zy];rw [if_pos hw];exact ⟨X,S', .inr hsub,h,hz,H⟩
theorem vcall_t {Z:ZZ} {K:Fr->Store->Prop} {d:Option Nat} {f:FuncId} {args:List Arg} {xs:List V} {r:List CO} {X:V} {S S':Store} (ha:args.map (ev σ)=xs) (h:VCalls P f xs S fun r T=>r=X/\T=S') (hw:wrcL Z.es d=true) (ht:trnL Z.es d=true) (hz:Z.ok S') (H:jz P (some Z) r K (σ.put d X) S'):jz P (some Z) (⟨d,none, .call f args⟩::r) K σ S:=by
 rw [Wj,ha];show zy P (some Z) d f xs S _;simp only [zy];rw [if_pos hw];exact ⟨X,S', .inl ht,h,hz,H⟩
theorem qx {z:Option ZZ} {K:Fr->Store->Prop} {d:Option Nat} {g:FuncId} {caps:List V} {fz:Arg} {args:List Arg} {xs:List V} {r:List CO} {X:V} (hf:ev σ fz = .func g caps) (hc:jH P g=true) (ha:args.map (ev σ)++caps=xs) (h:VPure P g xs X) (H:jz P z r K (σ.put d X) S) (hz:noW z d=true:=by rfl):jz P z (⟨d,none, .callv fz args⟩::r) K σ S:=by
 rw [Zt,hf]; simp only [jbu]; rw [ha]; exact ⟨hc,h.call H hz⟩
theorem vcallv_w {Z:ZZ} {K:Fr->Store->Prop} {d:Option Nat} {g:FuncId} {caps:List V} {fz:Arg} {args:List Arg} {xs:List V} {r:List CO} {X:V} {S S':Store} (hf:ev σ fz = .func g caps) (hc:jH P g=true) (ha:args.map (ev σ)++caps=xs) (h:VCalls P g xs S fun r T=>r=X/\T=S') (hw:wrcL Z.es d=true) (hsub:S.Sub S') (hz:Z.ok S') (H:jz P (some Z) r K (σ.put d X) S'):jz P (some Z) (⟨d,none, .callv fz args⟩::r) K σ S:=by
 rw [Zt,hf]; simp only [jbu]; rw [ha];refine ⟨hc, ?_⟩;show zy P (some Z) d g xs S _;simp only [zy];rw [if_pos hw];exact ⟨X,S', .inr hsub,h,hz,H⟩
end
section
variable (z:Option ZZ) (r:List CO) (σ:Fr) (S:Store) (d:Option Nat)
def rval (z:Option ZZ) (v:Option V) (r:List CO) (σ:Fr) (S:Store) (d:Option Nat):Option (List CO × Fr × Store) :=
 match v with
 | some v=>runV z r (σ.put d v) S
 | none=>none
def rnew (v:Option (V × Store)) (r:List CO) (σ:Fr) (d:Option Nat):Option (List CO × Fr × Store) :=
 match v with
 | some (v,S')=>runV none r (σ.put d v) S'
 | none=>none
theorem rval_some (v:V):rval z (some v) r σ S d=runV z r (σ.put d v) S:=nr rfl
theorem rnew_some (v:V) (S':Store):rnew (some (v,S')) r σ d=runV none r (σ.put d v) S':=nr rfl
theorem rd_none (op:COp) (S':Store):rd none d op S'=S':=nr rfl
theorem rd_plain (op:COp) (Z S':Store):rd (some (ZZ.plain Z)) d op S'=Z:=nr (by
 simp only [rd,ZZ.rd,ZZ.plain]
 cases d<;>simp [ZZ.early])
theorem rd_some (op:COp) (z0 zc zs S':Store) (es:List Nat) (t:Nat):rd (some ⟨z0,zc,zs,es⟩) (some t) op S'=if es.contains t=true then z0 else if op.shape=true then zs else zc:=nr rfl
theorem sh_indexAddr (s:Nat) (x i:Arg):(COp.indexAddr s x i).shape=true:=nr rfl
theorem sh_fieldAddr (o:Nat) (s:Option Nat) (x:Arg):(COp.fieldAddr o s x).shape=true:=nr rfl
theorem sh_nilCheck (x:Arg):(COp.nilCheck x).shape=true:=nr rfl
theorem sh_len (x:Arg):(COp.len x).shape=true:=nr rfl
theorem sh_slice (s:Nat) (x:Arg) (lo hi mx:Option Arg):(COp.slice s x lo hi mx).shape=true:=nr rfl
theorem sh_load (s:Option Nat) (x:Arg):(COp.load s x).shape=false:=nr rfl
theorem sh_bin (op:BinOp) (x y:Arg):(COp.bin op x y).shape=false:=nr rfl
theorem run_nil:runV z [] σ S=some ([],σ,S):=nr rfl
theorem zf (Z:Store) (v:Option V):(match v.map fun v=>(v,Z) with | some (v,_)=>runV z r (σ.put d v) S | none=>none)=rval z v r σ S d:=by cases v<;>rfl
theorem rv_call (f:FuncId) (args:List Arg):runV z (⟨d,none, .call f args⟩::r) σ S=some (⟨d,none, .call f args⟩::r,σ,S):=nr rfl
theorem rv_callv (f:Arg) (args:List Arg):runV z (⟨d,none, .callv f args⟩::r) σ S=some (⟨d,none, .callv f args⟩::r,σ,S):=nr rfl
theorem rv_guardT (t:Nat) (want:Bool) (op:COp) (h:σ.look t = .bool want):runV z (⟨d,some (t,want),op⟩::r) σ S=runV z (⟨d,none,op⟩::r) σ S:=by simp [runV,h]
theorem rv_guardF (t:Nat) (want b:Bool) (op:COp) (h:σ.look t = .bool b) (hb:b≠want):runV z (⟨d,some (t,want),op⟩::r) σ S=runV z r (σ.put d (.tuple [])) S:=by simp [runV,h,hb]
theorem rv_guardU (t:Nat) (want:Bool) (op:COp) (h:σ.look t = .tuple []):runV z (⟨d,some (t,want),op⟩::r) σ S=runV z r (σ.put d (.tuple [])) S:=by simp [runV,h]
theorem rv_move (x:Arg):runV z (⟨d,none, .move x⟩::r) σ S=runV z r (σ.put d (ev σ x)) S:=nr rfl
theorem rv_pick (c x y:Arg):runV z (⟨d,none, .pick c x y⟩::r) σ S=rval z (opPick (ev σ c) (ev σ x) (ev σ y)) r σ S d:=by
 simp only [runV,COp.isCall,COp.reader,ji,aF,Bool.true_eq_false,false_and,or_false,if_false,if_true]
 cases ev σ c<;>rfl
theorem rv_alloc (zs:List V):runV none (⟨d,none, .alloc zs⟩::r) σ S=runV none r (σ.put d (.ptr S.nx 0)) (S.add (zs.length,zs)):=nr rfl
theorem rv_box (x:Arg):runV none (⟨d,none, .box x⟩::r) σ S=rnew (opBox S (ev σ x)) r σ d:=nr rfl
theorem rv_build (zs:List V) (ps:List (Nat × Nat × Arg)):runV z (⟨d,none, .build zs ps⟩::r) σ S=rval z ((qj (ev σ) zs ps).map .agg) r σ S d:=by
 simp only [runV,COp.isCall,COp.reader,ji,aF,Bool.true_eq_false,false_and,or_false,if_false,if_true]
 cases qj (ev σ) zs ps<;>rfl
theorem jcj (s len:Nat) (zs:List V) (ps:List (Nat × Nat × Arg)):runV none (⟨d,none, .buildSlice s len zs ps⟩::r) σ S=rnew ((qj (ev σ) (rep0 zs len) ps).map fun cs=>(.slice S.nx 0 len,S.add (s,cs))) r σ d:=nr rfl
theorem rv_load (sz:Option Nat) (x:Arg):runV z (⟨d,none, .load sz x⟩::r) σ S=rval z (Jm sz (rd z d (.load sz x) S) (ev σ x)) r σ S d:=by
 simp only [runV,COp.isCall,COp.reader,ji,aF,Bool.true_eq_false,false_and,or_false,if_false,if_true];exact zf z r σ S d (rd z d (.load sz x) S) _
theorem rv_store (sz:Option Nat) (p v:Arg):runV none (⟨d,none, .store sz p v⟩::r) σ S=rnew ((Yv sz S (ev σ p) (ev σ v)).map fun S'=>(.tuple [],S')) r σ d:=nr rfl
theorem rv_nilCheck (x:Arg):runV z (⟨d,none, .nilCheck x⟩::r) σ S=rval z (opNil (rd z d (.nilCheck x) S) (ev σ x)) r σ S d:=by
 simp only [runV,COp.isCall,COp.reader,ji,opNil,aF,Bool.true_eq_false,false_and,or_false,if_false,if_true]
 cases ev σ x with
 | ptr o p=>cases hs:((rd z d (.nilCheck x) S).get o).isSome<;>simp [hs,rval]
 | _=>rfl
theorem rv_bin (op:BinOp) (x y:Arg):runV z (⟨d,none, .bin op x y⟩::r) σ S=rval z (jbh op (ev σ x) (ev σ y)) r σ S d:=by
 simp only [runV,COp.isCall,COp.reader,ji,aF,Bool.true_eq_false,false_and,or_false,if_false,if_true];exact zf z r σ S d (rd z d (.bin op x y) S) _
theorem rv_beq (neg:Bool) (x y:Arg):runV z (⟨d,none, .beq neg x y⟩::r) σ S=rval z (opBeq neg (ev σ x) (ev σ y)) r σ S d:=by
 simp only [runV,COp.isCall,COp.reader,ji,aF,Bool.true_eq_false,false_and,or_false,if_false,if_true];exact zf z r σ S d (rd z d (.beq neg x y) S) _
theorem rv_un (op:UnOp) (x:Arg):runV z (⟨d,none, .un op x⟩::r) σ S=rval z (opUn op (ev σ x)) r σ S d:=by
 simp only [runV,COp.isCall,COp.reader,ji,aF,Bool.true_eq_false,false_and,or_false,if_false,if_true];exact zf z r σ S d (rd z d (.un op x) S) _
theorem rv_conv (k:IntKind) (x:Arg):runV z (⟨d,none, .conv k x⟩::r) σ S=rval z (opConv k (ev σ x)) r σ S d:=by
 simp only [runV,COp.isCall,COp.reader,ji,aF,Bool.true_eq_false,false_and,or_false,if_false,if_true]
 cases ev σ x<;>rfl
theorem rv_makeFunc (f:FuncId) (cs:List Arg):runV z (⟨d,none, .makeFunc f cs⟩::r) σ S=runV z r (σ.put d (.func f (cs.map (ev σ)))) S:=nr rfl
theorem rv_makeSlice (s b:Nat) (zs:List V) (l c:Arg):runV none (⟨d,none, .makeSlice s b zs l c⟩::r) σ S=rnew (WL s b zs S (ev σ l) (ev σ c)) r σ d:=nr rfl
theorem rv_slice (s:Nat) (x:Arg) (lo hi mx:Option Arg):runV z (⟨d,none, .slice s x lo hi mx⟩::r) σ S=rval z (qp s (rd z d (.slice s x lo hi mx) S) (ev σ x) (lo.map (ev σ)) (hi.map (ev σ)) (mx.map (ev σ))) r σ S d:=by
 simp only [runV,COp.isCall,COp.reader,ji,aF,Bool.true_eq_false,false_and,or_false,if_false,if_true];exact zf z r σ S d (rd z d (.slice s x lo hi mx) S) _
theorem rv_fieldAddr (off:Nat) (sz:Option Nat) (x:Arg):runV z (⟨d,none, .fieldAddr off sz x⟩::r) σ S=rval z (jD off sz (rd z d (.fieldAddr off sz x) S) (ev σ x)) r σ S d:=by
 simp only [runV,COp.isCall,COp.reader,ji,aF,Bool.true_eq_false,false_and,or_false,if_false,if_true];exact zf z r σ S d (rd z d (.fieldAddr off sz x) S) _
theorem rv_field (off:Nat) (sz:Option Nat) (x:Arg):runV z (⟨d,none, .field off sz x⟩::r) σ S=rval z (Yx off sz (ev σ x)) r σ S d:=by
 simp only [runV,COp.isCall,COp.reader,ji,aF,Bool.true_eq_false,false_and,or_false,if_false,if_true];exact zf z r σ S d (rd z d (.field off sz x) S) _
theorem rv_indexAddr (s:Nat) (x i:Arg):runV z (⟨d,none, .indexAddr s x i⟩::r) σ S=rval z (jB s (rd z d (.indexAddr s x i) S) (ev σ x) (ev σ i)) r σ S d:=by
 simp only [runV,COp.isCall,COp.reader,ji,aF,Bool.true_eq_false,false_and,or_false,if_false,if_true];exact zf z r σ S d (rd z d (.indexAddr s x i) S) _
theorem rv_len (x:Arg):runV z (⟨d,none, .len x⟩::r) σ S=rval z (KY (rd z d (.len x) S) (ev σ x)) r σ S d:=by
 simp only [runV,COp.isCall,COp.reader,ji,aF,Bool.true_eq_false,false_and,or_false,if_false,if_true];exact zf z r σ S d (rd z d (.len x) S) _
theorem rv_lenS (x:Arg):runV z (⟨d,none, .lenS x⟩::r) σ S=rval z (opLenS (ev σ x)) r σ S d:=by
 simp only [runV,COp.isCall,COp.reader,ji,aF,Bool.true_eq_false,false_and,or_false,if_false,if_true]
 cases ev σ x<;>rfl
theorem rv_toStr (x:Arg):runV z (⟨d,none, .toStr x⟩::r) σ S=rval z (Kv (ev σ x)) r σ S d:=by
 simp only [runV,COp.isCall,COp.reader,ji,aF,Bool.true_eq_false,false_and,or_false,if_false,if_true];exact zf z r σ S d (rd z d (.toStr x) S) _
theorem rv_seq (neg:Bool) (x y:Arg):runV z (⟨d,none, .seq neg x y⟩::r) σ S=rval z (opSeq neg (ev σ x) (ev σ y)) r σ S d:=by
 simp only [runV,COp.isCall,COp.reader,ji,aF,Bool.true_eq_false,false_and,or_false,if_false,if_true];exact zf z r σ S d (rd z d (.seq neg x y) S) _
theorem rv_bmin (x y:Arg):runV z (⟨d,none, .bmin x y⟩::r) σ S=rval z (jcA (ev σ x) (ev σ y)) r σ S d:=by
 simp only [runV,COp.isCall,COp.reader,ji,aF,Bool.true_eq_false,false_and,or_false,if_false,if_true];exact zf z r σ S d (rd z d (.bmin x y) S) _
theorem rv_appendN (s b:Nat) (zs:List V) (x y:Arg):runV none (⟨d,none, .appendN s b zs x y⟩::r) σ S=rnew (zV s b zs S (ev σ x) (ev σ y)) r σ d:=nr rfl
theorem rs_appendN (Z:ZZ) (s b:Nat) (zs:List V) (x y:Arg):runV (some Z) (⟨d,none, .appendN s b zs x y⟩::r) σ S=some (⟨d,none, .appendN s b zs x y⟩::r,σ,S):=nr rfl
theorem rv_append (s b:Nat) (x y:Arg):runV none (⟨d,none, .append s b x y⟩::r) σ S=rnew (jR s b S (ev σ x) (ev σ y)) r σ d:=nr rfl
theorem rv_copy (s:Nat) (x y:Arg):runV none (⟨d,none, .copy s x y⟩::r) σ S=rnew (jat s S (ev σ x) (ev σ y)) r σ d:=nr rfl
theorem rv_extract (x:Arg) (i:Nat):runV z (⟨d,none, .extract x i⟩::r) σ S=rval z (opExtract i (ev σ x)) r σ S d:=by
 simp only [runV,COp.isCall,COp.reader,ji,aF,Bool.true_eq_false,false_and,or_false,if_false,if_true]
 cases ev σ x<;>first | rfl | exact zf z r σ S d (rd z d (.extract x i) S) _
theorem rs_alloc (Z:ZZ) (zs:List V):runV (some Z) (⟨d,none, .alloc zs⟩::r) σ S=some (⟨d,none, .alloc zs⟩::r,σ,S):=nr rfl
theorem rs_box (Z:ZZ) (x:Arg):runV (some Z) (⟨d,none, .box x⟩::r) σ S=some (⟨d,none, .box x⟩::r,σ,S):=nr rfl
theorem jcn (Z:ZZ) (s len:Nat) (zs:List V) (ps:List (Nat × Nat × Arg)):runV (some Z) (⟨d,none, .buildSlice s len zs ps⟩::r) σ S=some (⟨d,none, .buildSlice s len zs ps⟩::r,σ,S):=nr rfl
theorem rs_store (Z:ZZ) (sz:Option Nat) (p v:Arg):runV (some Z) (⟨d,none, .store sz p v⟩::r) σ S=some (⟨d,none, .store sz p v⟩::r,σ,S):=nr rfl
theorem rs_makeSlice (Z:ZZ) (s b:Nat) (zs:List V) (l c:Arg):runV (some Z) (⟨d,none, .makeSlice s b zs l c⟩::r) σ S=some (⟨d,none, .makeSlice s b zs l c⟩::r,σ,S):=nr rfl
theorem rs_append (Z:ZZ) (s b:Nat) (x y:Arg):runV (some Z) (⟨d,none, .append s b x y⟩::r) σ S=some (⟨d,none, .append s b x y⟩::r,σ,S):=nr rfl
theorem rs_copy (Z:ZZ) (s:Nat) (x y:Arg):runV (some Z) (⟨d,none, .copy s x y⟩::r) σ S=some (⟨d,none, .copy s x y⟩::r,σ,S):=nr rfl
theorem rv_makeMap:runV none (⟨d,none, .makeMap⟩::r) σ S=runV none r (σ.put d (.map S.nx)) (S.add (0,[])):=nr rfl
theorem rv_lookup (zero:V) (ok:Bool) (x k:Arg):runV z (⟨d,none, .lookup zero ok x k⟩::r) σ S=rval z (qW zero ok (rd z d (.lookup zero ok x k) S) (ev σ x) (ev σ k)) r σ S d:=by
 simp only [runV,COp.isCall,COp.reader,ji,aF,Bool.true_eq_false,false_and,or_false,if_false,if_true];exact zf z r σ S d (rd z d (.lookup zero ok x k) S) _
theorem rv_mapUpdate (x k v:Arg):runV none (⟨d,none, .mapUpdate x k v⟩::r) σ S=rnew ((qq S (ev σ x) (ev σ k) (ev σ v)).map fun S'=>(.tuple [],S')) r σ d:=nr rfl
theorem rv_buildList (s len:Nat) (zero:List V) (ps:List (Nat × Nat × Arg)):runV z (⟨d,none, .buildList s len zero ps⟩::r) σ S=rval z (opList s len (qj (ev σ) (rep0 zero len) ps)) r σ S d:=by
 simp only [runV,COp.isCall,COp.reader,ji,aF,Bool.true_eq_false,false_and,or_false,if_false,if_true];exact zf z r σ S d (rd z d (.buildList s len zero ps) S) _
theorem rv_lookup2 (g:Bool) (zero:V) (ok:Bool) (x k:Arg):runV z (⟨d,none, .lookup2 g zero ok x k⟩::r) σ S=rval z (Jl g zero ok (rd z d (.lookup2 g zero ok x k) S) (ev σ x) (ev σ k)) r σ S d:=by
 simp only [runV,COp.isCall,COp.reader,ji,aF,Bool.true_eq_false,false_and,or_false,if_false,if_true];exact zf z r σ S d (rd z d (.lookup2 g zero ok x k) S) _
theorem jci (g:Bool) (x k v:Arg):runV none (⟨d,none, .mapUpdate2 g x k v⟩::r) σ S=rnew ((zU g S (ev σ x) (ev σ k) (ev σ v)).map fun S'=>(.tuple [],S')) r σ d:=nr rfl
theorem rv_clear (s:Nat) (zs:List V) (x:Arg):runV none (⟨d,none, .clear s zs x⟩::r) σ S=rnew ((Jz s zs S (ev σ x)).map fun S'=>(.tuple [],S')) r σ d:=nr rfl
theorem jcm (Z:ZZ) (g:Bool) (x k v:Arg):runV (some Z) (⟨d,none, .mapUpdate2 g x k v⟩::r) σ S=some (⟨d,none, .mapUpdate2 g x k v⟩::r,σ,S):=nr rfl
theorem rs_clear (Z:ZZ) (s:Nat) (zs:List V) (x:Arg):runV (some Z) (⟨d,none, .clear s zs x⟩::r) σ S=some (⟨d,none, .clear s zs x⟩::r,σ,S):=nr rfl
theorem rs_makeMap (Z:ZZ)  : runV (some Z) (⟨d,none, .makeMap⟩::r) σ S=some (⟨d,none, .makeMap⟩::r,σ,S):=nr rfl
theorem rs_mapUpdate (Z:ZZ) (x k v:Arg):runV (some Z) (⟨d,none, .mapUpdate x k v⟩::r) σ S=some (⟨d,none, .mapUpdate x k v⟩::r,σ,S):=nr rfl
end
end Go.Vw
/-
 Lists of Lean as Go's slices.
-/
namespace Go.Vw
open Go.RowKit
def vl {α:Type} (enc:α->V) (l:List α):V := .list (l.map enc)
def vint (n:Int):V := .int .i64 n
def vnat (n:Nat):V := .int .i64 (n:Int)
section
variable {α:Type} {enc:α->V} {l:List α} {S:Store}
theorem jy:KY S (vl enc l)=some (.int .i64 (l.length:Int)):=by simp [KY,vl]
theorem jW {s:Nat} {k:IntKind} {i:Nat} (hs : ∀ x,(enc x).ncells=s) (h:i<l.length):jB s S (vl enc l) (.int k (i:Int))=some (.ref (enc l[i])):=by
 simp [jB,vl,h,hs]
theorem jar {s:Nat} {k:IntKind} {i:Int} (hs : ∀ x,(enc x).ncells=s) (h0:0<=i) (h:i.toNat<l.length):jB s S (vl enc l) (.int k i)=some (.ref (enc l[i.toNat])):=by
 simp [jB,vl,h0,h,hs]
end
theorem nc_vint (n:Int):(vint n).ncells=1:=by unfold vint; simp [V.ncells]
theorem nc_vnat (n:Nat):(vnat n).ncells=1:=by unfold vnat; simp [V.ncells]
theorem nc_vl {α:Type} (enc:α->V) (l:List α):(vl enc l).ncells=1:=by unfold vl; simp [V.ncells]
theorem nc_vbool (b:Bool):(V.bool b).ncells=1:=by simp [V.ncells]
theorem one_bool (b:Bool):(V.bool b).one=true:=by simp [V.one]
theorem one_int (k:IntKind) (n:Int):(V.int k n).one=true:=by simp [V.one]
theorem one_str (s:ByteArray):(V.str s).one=true:=by simp [V.one]
theorem one_nils:(V.nils).one=true:=by simp [V.one]
theorem one_nilp:(V.nilp).one=true:=by simp [V.one]
theorem one_nilm:(V.nilm).one=true:=by simp [V.one]
theorem one_nilf:(V.nilf).one=true:=by simp [V.one]
theorem one_list (l:List V):(V.list l).one=true:=by simp [V.one]
theorem one_ref (x:V):(V.ref x).one=true:=by simp [V.one]
theorem one_slice (o f l:Nat):(V.slice o f l).one=true:=by simp [V.one]
theorem one_ptr (o f:Nat):(V.ptr o f).one=true:=by simp [V.one]
theorem one_func (f:FuncId) (l:List V):(V.func f l).one=true:=by simp [V.one]
theorem one_map (o:Nat):(V.map o).one=true:=by simp [V.one]
theorem cells_int (k:IntKind) (n:Int):(V.int k n).cells=[V.int k n]:=by simp [V.cells]
theorem nc_int (k:IntKind) (n:Int):(V.int k n).ncells=1:=by simp [V.ncells]
theorem cells_str (s:ByteArray):(V.str s).cells=[V.str s]:=by simp [V.cells]
theorem nc_str (s:ByteArray):(V.str s).ncells=1:=by simp [V.ncells]
theorem cells_nils:(V.nils).cells=[V.nils]:=by simp [V.cells]
theorem nc_nils:(V.nils).ncells=1:=by simp [V.ncells]
theorem cells_nilp:(V.nilp).cells=[V.nilp]:=by simp [V.cells]
theorem nc_nilp:(V.nilp).ncells=1:=by simp [V.ncells]
theorem cells_nilm:(V.nilm).cells=[V.nilm]:=by simp [V.cells]
theorem nc_nilm:(V.nilm).ncells=1:=by simp [V.ncells]
theorem cells_nilf:(V.nilf).cells=[V.nilf]:=by simp [V.cells]
theorem nc_nilf:(V.nilf).ncells=1:=by simp [V.ncells]
theorem cells_list (l:List V):(V.list l).cells=[V.list l]:=by simp [V.cells]
theorem nc_list (l:List V):(V.list l).ncells=1:=by simp [V.ncells]
theorem cells_ref (x:V):(V.ref x).cells=[V.ref x]:=by simp [V.cells]
theorem nc_ref (x:V):(V.ref x).ncells=1:=by simp [V.ncells]
theorem cells_slice (o f l:Nat):(V.slice o f l).cells=[V.slice o f l]:=by simp [V.cells]
theorem nc_slice (o f l:Nat):(V.slice o f l).ncells=1:=by simp [V.ncells]
theorem cells_ptr (o f:Nat):(V.ptr o f).cells=[V.ptr o f]:=by simp [V.cells]
theorem nc_ptr (o f:Nat):(V.ptr o f).ncells=1:=by simp [V.ncells]
theorem cells_func (f:FuncId) (l:List V):(V.func f l).cells=[V.func f l]:=by simp [V.cells]
theorem nc_func (f:FuncId) (l:List V):(V.func f l).ncells=1:=by simp [V.ncells]
theorem cells_map (o:Nat):(V.map o).cells=[V.map o]:=by simp [V.cells]
theorem nc_map (o:Nat):(V.map o).ncells=1:=by simp [V.ncells]
theorem cells_bool (b:Bool):(V.bool b).cells=[V.bool b]:=by simp [V.cells]
theorem cells_agg (l:List V):(V.agg l).cells=l:=by simp [V.cells]
theorem nc_agg (l:List V):(V.agg l).ncells=l.length:=by simp [V.ncells]
theorem KV {α:Type} (enc:α->V) (l:List α):(vl enc l).cells=[vl enc l]:=by unfold vl; simp [V.cells]
theorem one_vint (n:Int):(vint n).one=true:=by unfold vint; simp [V.one]
theorem one_vnat (n:Nat):(vnat n).one=true:=by unfold vnat; simp [V.one]
theorem one_vl {α:Type} (enc:α->V) (l:List α):(vl enc l).one=true:=by unfold vl; simp [V.one]
theorem wrap_i64 {n:Int} (h1 : -9223372036854775808<=n) (h2:n<=9223372036854775807):IntKind.i64.wrap n=n:=by
 rw [IntKind.wrap_i64]; omega
theorem Ghost.box {S:Store} {o s:Nat} {x:V} (hc:S.get o=some (s,[x])) (h1:x.closed1=true):Ghost (.ptr o 0) S (.ref x) (S.del o):=by
 intro m β w v hS hr;obtain ⟨b,base,s',n,hob,rfl⟩:=hr.inv_ptr (hS.alive hc);obtain ⟨_,arr,T,e1,e2,e3,e4⟩:=hS.cells_at hc hob;obtain ⟨u,f1,f2,f3⟩:=e4 0 x rfl;obtain ⟨k1,k2⟩:=hS.freeze hc hob e1;refine ⟨_,_,k1,k2, .imm (.ref x u b (base+0) arr T (0,0) (by simp [Imm.set]) ((f2.closed1 h1).mono k2.imm) fun j c hj => ?_)⟩;have euc:u.cells = #[u]:=by cases u<;>first | rfl | simp [Value.oneCell'] at f3
 rw [euc] at hj
 cases j with
 | zero=>simp at hj; subst hj; exact f1
 | succ j=>simp at hj
theorem jbT {α:Type} (enc:α->V) (l:List α):(vl enc l).closed1=true:=rfl
theorem get_add (S:Store) (c:Nat × List V):(S.add c).get S.nx=some c:=by simp [Store.add]
theorem jt {P:Program} {N b:Nat} {Q:Exit->Fr->Store->Prop} {σ σ':Fr} {S S':Store} {c:Code} (t:Nat) {x x':V} (hx:σ.look t=x) (hg:Ghost x S x' S') (hs:σ.set t x'=σ') (h:VWp P N b c Q σ' S'):VWp P N b c Q σ S :=
 vw_ghost t hx hg (by rw [hs]; exact h)
end Go.Vw
