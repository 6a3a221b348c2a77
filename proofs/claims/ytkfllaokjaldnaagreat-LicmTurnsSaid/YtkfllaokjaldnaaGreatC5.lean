import Derived.Test.YtkfllaokjaldnaaGreatC3
import Derived.Test.YtkfllaokjaldnaaGreatC4
/-
  Part of the proof (texts VSound7, VWp, VWp2).
-/
set_option linter.unusedVariables false
set_option linter.unusedSimpArgs false
/-
 All operations but calls: over values without addresses they do what the model's do.
-/
namespace Go.Vw
open Go.RowKit
section
variable {P:Program} {N:Nat} {S:Store} {m:Imm} {β:Objs} {w:World} {σ:Fr} {a:Act}
theorem does_len {o:Oper} {t e:TypeId} {y:Operand} {z:Arg} {x:V} (ho:o.op = .call { callee := .builtin .len,args := #[y],argTypes := #[t] })
  (hu:P.underlying t=some (.slice e)) (hz:jy y=some z) (hS:Holds S m β w) (hF:FrameRep N m β σ a) (he:KR S (ev σ z)=some x):Does P ((execOp a.eval o).run P w) x S m β w:=by
 have hr:=jU hF hz;generalize ev σ z=p at he hr;have run : ∀ ad (len cap:Nat),a.eval y = .slice ad len cap→(execOp a.eval o).run P w = .ok (.value (.int .i64 len)) w:=by
  intro ad len cap h1;simp [execOp,ho,resolve,invoke,builtin,h1,Builtin.len_,run_underlying hu,goInt]
 cases p with
 | list xs =>
  simp only [KR] at he
  cases he
  cases hv:a.eval y with
  | slice ad len cap =>
   have hl:=hr.inv_list;rw [hv] at hl;have:len=xs.length:=by cases hl<;>rfl
   subst this;exact Does.same hS (run ad _ cap hv) (.imm (.int _ _))
  | _=>have hl:=hr.inv_list; rw [hv] at hl; cases hl
 | slice o' off len =>
  simp only [KR] at he;split at he
  ·rename_i hs
   cases he
   obtain ⟨c,hc⟩:=Option.isSome_iff_exists.1 hs;obtain ⟨ad,cap,e,_⟩:=hr.inv_slice (hS.alive hc);exact Does.same hS (run ad len cap e) (.imm (.int _ _))
  ·cases he
 | nils =>
  simp only [KR] at he
  cases he
  obtain ⟨ad,e⟩:=hr.inv_nils;exact Does.same hS (run ad 0 0 e) (.imm (.int _ _))
 | _=>simp [KR] at he
def COp.simple:COp→Bool
 | .call _ _ | .callv _ _=>false
 | _=>true
theorem op_sound {o:Oper} {co:COp} (hc:WW P o=some co) {x:V} {S':Store} (he:js (ev σ) S co=some (x,S')) (hS:Holds S m β w) (hF:FrameRep N m β σ a):Does P ((execOp a.eval o).run P w) x S' m β w:=by
 unfold WW at hc;split at hc
 ·-- move
  rename_i y ho;obtain ⟨z,hz,rfl⟩:=Option.map_eq_some_iff.1 hc;simp only [js] at he; cases he;exact Does.same hS (by simp [execOp,ho]) (jU hF hz)
 ·-- assign
  rename_i y ho;obtain ⟨z,hz,rfl⟩:=Option.map_eq_some_iff.1 hc;simp only [js] at he; cases he;exact Does.same hS (by simp [execOp,ho]) (jU hF hz)
 ·-- pick
  rename_i c y u ho;split at hc
  ·rename_i cz yz uz h1 h2 h3
   cases hc
   simp only [js] at he;split at he
   ·rename_i t ht
    cases he
    have hr:=jU hF h1;rw [ht] at hr;have e:=hr.inv_bool
    cases t
    ·exact Does.same hS (v:=a.eval u) (by simp [execOp,ho,e,asBool]) (by simpa using jU hF h3)
    ·exact Does.same hS (v:=a.eval y) (by simp [execOp,ho,e,asBool]) (by simpa using jU hF h2)
   ·cases he
  ·cases hc
 ·-- alloc
  rename_i t ho;split at hc
  ·rename_i d z h1 h2
   cases hc
   simp only [js] at he; cases he;exact does_alloc ho h2 hS
  ·cases hc
 ·-- box
  rename_i t y ho;obtain ⟨z,hz,rfl⟩:=Option.map_eq_some_iff.1 hc;simp only [js] at he;split at he
  ·rename_i h1; cases he; exact does_box ho hz h1 hS hF
  ·cases he
 ·-- build
  rename_i t parts ho;split at hc
  ·rename_i fs z h1 h2;obtain ⟨ps,hps,rfl⟩:=Option.map_eq_some_iff.1 hc;simp only [js,Option.map_eq_some_iff] at he;obtain ⟨cs,hcs,he⟩:=he
   cases he
   exact does_build ho h1 h2 hps hS hF hcs
  ·cases hc
 ·-- buildSlice
  rename_i t len parts ho;split at hc
  ·rename_i e i h1;split at hc
   ·rename_i z h2;split at hc
    ·rename_i h3;obtain ⟨ps,hps,rfl⟩:=Option.map_eq_some_iff.1 hc;simp only [js,Option.map_eq_some_iff] at he;obtain ⟨cs,hcs,he⟩:=he
     cases he
     exact jaG ho h1 h2 h3 hps hS hF hcs
    ·cases hc
   ·cases hc
  ·cases hc
 ·-- load
  rename_i t y ho;split at hc
  ·rename_i sz z h1 h2
   cases hc
   simp only [js,Option.map_eq_some_iff] at he;obtain ⟨v,hv,he⟩:=he
   cases he
   exact does_load ho h1 h2 hS hF hv
  ·cases hc
 ·-- store
  rename_i t p v ho;split at hc
  ·rename_i sz pz vz h1 h2 h3
   cases hc
   simp only [js,Option.map_eq_some_iff] at he;obtain ⟨S1,hS1,he⟩:=he
   cases he
   exact does_store ho h1 h2 h3 hS hF hS1
  ·cases hc
 ·-- nilCheck
  rename_i y ho;obtain ⟨z,hz,rfl⟩:=Option.map_eq_some_iff.1 hc;have hr:=jU hF hz;simp only [js] at he;split at he
  ·rename_i o' p hp;split at he
   ·rename_i hs
    cases he
    rw [hp] at hr;obtain ⟨c,hc'⟩:=Option.isSome_iff_exists.1 hs;obtain ⟨b,base,s,n,hob,e⟩:=hr.inv_ptr (hS.alive hc');rw [e] at hr;exact Does.same hS (by simp [execOp,ho,e]) hr
   ·cases he
  ·rename_i y' hp
   cases he
   rw [hp] at hr;obtain ⟨u,b,off,arr,T,fz,e,_⟩:=hr.inv_ref;rw [e] at hr;exact Does.same hS (by simp [execOp,ho,e]) hr
  ·cases he
 ·-- binOp
  rename_i op t y u t' ho;split at hc
  ·rename_i yz uz h1 h2;split at hc
   ·rename_i ht
    cases hc
    simp only [js,Option.map_eq_some_iff] at he;obtain ⟨v,hv,he⟩:=he
    cases he
    exact does_beq (neg:=false) ho rfl ht h1 h2 hS hF hv
   ·rename_i ht
    cases hc
    simp only [js,Option.map_eq_some_iff] at he;obtain ⟨v,hv,he⟩:=he
    cases he
    exact does_beq (neg:=true) ho rfl ht h1 h2 hS hF hv
   ·cases hc
    simp only [js,Option.map_eq_some_iff] at he;obtain ⟨v,hv,he⟩:=he
    cases he
    exact does_bin ho h1 h2 hS hF hv
  ·cases hc
 ·-- unOp
  rename_i op t y ho;obtain ⟨z,hz,rfl⟩:=Option.map_eq_some_iff.1 hc;simp only [js,Option.map_eq_some_iff] at he;obtain ⟨v,hv,he⟩:=he
  cases he
  have hr:=jU hF hz;generalize ev σ z=p at hv hr;unfold opUn at hv;split at hv
  ·cases hv; exact Does.same hS (by simp [execOp,ho,hr.inv_bool,Op.unary]) (.imm (.bool _))
  ·cases hv; exact Does.same hS (by simp [execOp,ho,hr.inv_int,Op.unary,Op.intArith]) (.imm (.int _ _))
  ·cases hv
 ·-- convert
  rename_i s d y ho;split at hc
  ·rename_i ds k h1 h2;obtain ⟨z,hz,rfl⟩:=Option.map_eq_some_iff.1 hc;have hr:=jU hF hz;simp only [js] at he;split at he
   ·rename_i k' n hn
    cases he
    rw [hn] at hr;exact Does.same hS (v := .int k (k.wrap n)) (by simp [execOp,ho,hr.inv_int,convert,run_underlying h1,run_underlying h2,Conv.intToInt]) (.imm (.int _ _))
   ·cases he
  ·cases hc
 ·-- makeFunc
  rename_i fn first caps ho
  split at hc
  ·rename_i f hfi;obtain ⟨zs,hz,rfl⟩:=Option.map_eq_some_iff.1 hc;have hfi':first = #[]:=by cases first; simp at hfi; rw [hfi]
   subst hfi';simp only [js] at he; cases he;have hr:=evs_rep hF hz;refine Does.same hS (v := .func (.func f) #[] (caps.toList.map a.eval).toArray) ?_ (.func f _ _ hr.1 hr.2);have hcaps:caps.map a.eval=(caps.toList.map a.eval).toArray:=by simp [←Array.toList_map]
   simp [execOp,ho,Instr.makeFunc,hcaps]
  ·cases hc
 ·-- makeSlice
  rename_i t l c ho;split at hc
  ·rename_i e i lz cz h1 h2 h3;split at hc
   ·rename_i z h4
    cases hc
    simp only [js] at he;exact does_make ho h1 h4 h2 h3 hS hF he
   ·cases hc
  ·cases hc
 ·-- slice
  rename_i t y lo hi mx ho;split at hc
  ·rename_i e i yz loz hiz mxz h1 h2 h3 h4 h5
   cases hc
   simp only [js,Option.map_eq_some_iff] at he;obtain ⟨v,hv,he⟩:=he
   cases he
   exact does_slice ho h1 h2 h3 h4 h5 hS hF hv
  ·cases hc
 ·-- fieldAddr
  rename_i t y f ho;split at hc
  ·rename_i off sz z h1 h2
   cases hc
   simp only [js,Option.map_eq_some_iff] at he;obtain ⟨v,hv,he⟩:=he
   cases he
   exact jaZ ho h1 h2 hS hF hv
  ·cases hc
 ·-- field
  rename_i t y f ho;split at hc
  ·rename_i off sz z h1 h2
   cases hc
   simp only [js,Option.map_eq_some_iff] at he;obtain ⟨v,hv,he⟩:=he
   cases he
   exact does_field ho h1 h2 hS hF hv
  ·cases hc
 ·-- indexAddr
  rename_i t y i ho;split at hc
  ·rename_i e j yz iz h1 h2 h3
   cases hc
   simp only [js,Option.map_eq_some_iff] at he;obtain ⟨v,hv,he⟩:=he
   cases he
   exact does_index ho h1 h2 h3 hS hF hv
  ·cases hc
 ·-- extract
  rename_i y i ho;obtain ⟨z,hz,rfl⟩:=Option.map_eq_some_iff.1 hc;have hr:=jU hF hz;simp only [js] at he;split at he
  ·rename_i xs hxs;rw [hxs] at hr;obtain ⟨v,hv,he⟩:=Option.map_eq_some_iff.1 he
   cases he
   obtain ⟨vs,e,hl,hrr⟩:=hr.inv_tuple;have hlt:i<vs.length:=by rw [←hl]; exact (List.getElem?_eq_some_iff.1 hv).1
   refine Does.same hS (v:=vs[i]) ?_ (hrr i x vs[i] hv (List.getElem?_eq_getElem hlt));simp [execOp,ho,e,Instr.extract,hlt]
  ·cases he
 ·-- calls
  rename_i c ho;obtain ⟨callee,args,argTypes⟩:=c;have arr1 : ∀ {α:Type} {xs:Array α} {l:List α},xs.toList=l→xs=l.toArray:=fun h=>by rw [←h]
  unfold Kf at hc;split at hc
  ·-- len
   rename_i y t h1 h2 h3;simp only at h1 h2 h3;subst h1;rw [arr1 h2,arr1 h3] at ho;split at hc
   ·rename_i e hu;obtain ⟨z,hz,rfl⟩:=Option.map_eq_some_iff.1 hc;simp only [js,Option.map_eq_some_iff] at he;obtain ⟨v,hv,he⟩:=he
    cases he
    exact does_len ho hu hz hS hF hv
   ·rename_i hu;obtain ⟨z,hz,rfl⟩:=Option.map_eq_some_iff.1 hc;have hr:=jU hF hz;simp only [js] at he;split at he
    ·rename_i s hs
     cases he
     rw [hs] at hr;refine Does.same hS (v := .int .i64 s.size) ?_ (.imm (.int _ _));simp [execOp,ho,resolve,invoke,builtin,hr.inv_str,Builtin.len_,run_underlying hu,goInt]
    ·cases he
   ·cases hc
  ·-- append
   rename_i y u t t' h1 h2 h3;simp only at h1 h2 h3;subst h1;rw [arr1 h2,arr1 h3] at ho;split at hc
   ·rename_i htt;subst htt;split at hc
    ·rename_i e i yz uz k1 k2 k3;split at hc
     ·rename_i z k4;split at hc
      ·rename_i k5
       cases hc
       simp only [js] at he;exact does_append ho k1 k4 k5 k2 k3 hS hF he
      ·cases hc
     ·cases hc
    ·cases hc
   ·cases hc
  ·-- copy
   rename_i y u t t' h1 h2 h3;simp only at h1 h2 h3;subst h1;rw [arr1 h2,arr1 h3] at ho;split at hc
   ·rename_i htt;subst htt;split at hc
    ·rename_i e i yz uz k1 k2 k3
     cases hc
     simp only [js] at he;exact does_copy ho k1 k2 k3 hS hF he
    ·cases hc
   ·cases hc
  ·-- clear
   rename_i y t h1 h2 h3;simp only at h1 h2 h3;subst h1;rw [arr1 h2,arr1 h3] at ho;split at hc
   ·rename_i e i yz k1 k2;split at hc
    ·rename_i z k4
     cases hc
     simp only [js] at he;obtain ⟨v,hv,h⟩:=Option.map_eq_some_iff.1 he
     cases h
     exact does_clear ho k1 k4 k2 hS hF hv
    ·cases hc
   ·cases hc
  ·-- call
   split at hc
   ·split at hc
    ·cases hc
    ·obtain ⟨zs,hz,rfl⟩:=Option.map_eq_some_iff.1 hc;simp [js] at he
   ·cases hc
  ·split at hc
   ·cases hc; simp [js] at he
   ·cases hc
  ·cases hc
 ·-- makeMap
  rename_i ty ho
  cases hc
  simp only [js] at he; cases he;exact does_makeMap ho hS
 ·-- lookup
  rename_i ty y i ok ho;split at hc
  ·rename_i kt e yz iz ht hy hi;split at hc
   ·rename_i d z hd hz
    cases hc
    simp only [js] at he;obtain ⟨v,hv,h⟩:=Option.map_eq_some_iff.1 he
    cases h
    exact does_lookup ho ht hd hz hy hi hS hF hv
   ·rename_i z hz _
    cases hc
    simp only [js] at he;obtain ⟨v,hv,h⟩:=Option.map_eq_some_iff.1 he
    cases h
    exact does_lookup2 ho ht rfl hz hy hi hS hF hv
   ·cases hc
  ·cases hc
 ·-- mapUpdate
  rename_i ty y i u ho;split at hc
  ·rename_i kt e yz iz uz ht hy hi hu;split at hc
   ·rename_i d hd
    cases hc
    simp only [js] at he;obtain ⟨v,hv,h⟩:=Option.map_eq_some_iff.1 he
    cases h
    exact KZ ho ht hd hy hi hu hS hF hv
   ·cases hc
    simp only [js] at he;obtain ⟨v,hv,h⟩:=Option.map_eq_some_iff.1 he
    cases h
    exact KC ho ht rfl hy hi hu hS hF hv
  ·cases hc
 ·-- insert
  rename_i ty y i u ho;split at hc
  ·rename_i kt e yz iz uz ht hy hi hu;split at hc
   ·rename_i d hd
    cases hc
    simp only [js] at he;obtain ⟨v,hv,h⟩:=Option.map_eq_some_iff.1 he
    cases h
    exact does_insert ho ht hd hy hi hu hS hF hv
   ·cases hc
    simp only [js] at he;obtain ⟨v,hv,h⟩:=Option.map_eq_some_iff.1 he
    cases h
    exact does_insert2 ho ht rfl hy hi hu hS hF hv
  ·cases hc
 ·cases hc
end
end Go.Vw

/-
  The calculus: code over values without addresses.
-/
namespace Go.Vw
open Go.RowKit
def VWp (P:Program) (N b:Nat) (c:Code) (Q:Exit→Fr→Store→Prop) (σ:Fr) (S:Store):Prop :=
  ∀ m β w a,Holds S m β w→FrameRep N m β σ a→c.wp P (fun e a' w' => ∃ σ' S' m' β',Q e σ' S'∧Holds S' m' β' w'∧FrameRep N m' β' σ' a'∧ExtB b m β w m' β' w') a w
def Ks (K:Fr→Store→Prop) (Q:Exit→Fr→Store→Prop):Exit→Fr→Store→Prop
  | .normal=>K
  | e=>Q e
def jcm (id:Nat) (Q:Exit→Fr→Store→Prop):Exit→Fr→Store→Prop
  | .exit id'=>if id'=id then Q .normal else Q (.exit id')
  | e=>Q e
section
variable {P:Program} {N b:Nat} {Q:Exit→Fr→Store→Prop} {σ:Fr} {S:Store}
theorem vw_mono {c:Code} {Q':Exit→Fr→Store→Prop} (h:VWp P N b c Q σ S) (hq : ∀ e σ S,Q e σ S→Q' e σ S):VWp P N b c Q' σ S :=
  fun m β w a hS hF=>wp_mono (h m β w a hS hF) fun e a' w' ⟨σ',S',m',β',q,r⟩=>⟨σ',S',m',β',hq _ _ _ q,r⟩
theorem vw_skip (h:Q .normal σ S):VWp P N b .skip Q σ S:=fun m β w a hS hF=>wp_skip ⟨σ,S,m,β,h,hS,hF,ExtB.refl _ _ _ _⟩
theorem vw_exit {id:Nat} (h:Q (.exit id) σ S):VWp P N b (.exit id) Q σ S:=fun m β w a hS hF=>wp_exit ⟨σ,S,m,β,h,hS,hF,ExtB.refl _ _ _ _⟩
theorem vw_ret (h:Q .ret σ S):VWp P N b .ret Q σ S:=fun m β w a hS hF=>wp_ret ⟨σ,S,m,β,h,hS,hF,ExtB.refl _ _ _ _⟩
theorem jbM {c:Code} {m m':Imm} {β β':Objs} {w w':World} {a:Act} (h:VWp P N b c Q σ S) (hS:Holds S m' β' w') (hF:FrameRep N m' β' σ a) (he:ExtB b m β w m' β' w') :
    c.wp P (fun e a' w'' => ∃ σ' S' m'' β'',Q e σ' S'∧Holds S' m'' β'' w''∧FrameRep N m'' β'' σ' a'∧ExtB b m β w m'' β'' w'') a w' :=
  wp_mono (h m' β' w' a hS hF) fun e a' w'' ⟨σ',S',m'',β'',q,r1,r2,r3⟩=>⟨σ',S',m'',β'',q,r1,r2,he.trans r3⟩
theorem vw_seq {x y:Code} (h:VWp P N b x (Ks (VWp P N b y Q) Q) σ S):VWp P N b (.seq x y) Q σ S:=by
  intro m β w a hS hF;refine wp_seq (wp_mono (h m β w a hS hF) ?_);rintro e a' w' ⟨σ',S',m',β',q,r1,r2,r3⟩
  cases e with
  | normal=>exact jbM q r1 r2 r3
  | exit id=>exact ⟨σ',S',m',β',q,r1,r2,r3⟩
  | goto l=>exact ⟨σ',S',m',β',q,r1,r2,r3⟩
  | ret=>exact ⟨σ',S',m',β',q,r1,r2,r3⟩
  | panic ch=>exact ⟨σ',S',m',β',q,r1,r2,r3⟩
  | outgrown=>exact ⟨σ',S',m',β',q,r1,r2,r3⟩
theorem vw_block {id:Nat} {c:Code} (h:VWp P N b c (jcm id Q) σ S):VWp P N b (.block id c) Q σ S:=by
  intro m β w a hS hF;refine wp_block (wp_mono (h m β w a hS hF) ?_);rintro e a' w' ⟨σ',S',m',β',q,r1,r2,r3⟩
  cases e with
  | normal=>exact ⟨σ',S',m',β',q,r1,r2,r3⟩
  | exit id' =>
    simp only [Exit.inBlock,jcm] at q ⊢;split
    ·rename_i e; rw [if_pos e] at q; exact ⟨σ',S',m',β',q,r1,r2,r3⟩
    ·rename_i e; rw [if_neg e] at q; exact ⟨σ',S',m',β',q,r1,r2,r3⟩
  | goto l=>exact ⟨σ',S',m',β',q,r1,r2,r3⟩
  | ret=>exact ⟨σ',S',m',β',q,r1,r2,r3⟩
  | panic ch=>exact ⟨σ',S',m',β',q,r1,r2,r3⟩
  | outgrown=>exact ⟨σ',S',m',β',q,r1,r2,r3⟩
theorem vw_cond {c:Operand} {x y:Code} {z:Arg} {t:Bool} (hz:jy c=some z) (ht:ev σ z = .bool t) (hx:t=true→VWp P N b x Q σ S) (hy:t=false→VWp P N b y Q σ S):VWp P N b (.cond c x y) Q σ S:=by
  intro m β w a hS hF;have hc:a.eval c = .bool t:=by
    have:=jU hF hz;rw [ht] at this;exact this.inv_bool
  exact wp_cond_split hc (fun h=>hx h m β w a hS hF) (fun h=>hy h m β w a hS hF)
def Reach (N b:Nat) (σ:Fr) (S:Store) (σ':Fr) (S':Store):Prop :=
  ∀ m β w a,Holds S m β w→FrameRep N m β σ a → ∃ m' β',Holds S' m' β' w∧FrameRep N m' β' σ' a∧ExtB b m β w m' β' w
theorem Reach.refl (σ:Fr) (S:Store):Reach N b σ S σ S:=fun m β w a h r=>⟨m,β,h,r,ExtB.refl _ _ _ _⟩
theorem Reach.trans {σ' σ'':Fr} {S' S'':Store} (h:Reach N b σ S σ' S') (k:Reach N b σ' S' σ'' S''):Reach N b σ S σ'' S'':=by
  intro m β w a hS hr;obtain ⟨m',β',h1,h2,h3⟩:=h m β w a hS hr;obtain ⟨m'',β'',k1,k2,k3⟩:=k m' β' w a h1 h2;exact ⟨m'',β'',k1,k2,h3.trans k3⟩
theorem Reach.only (ks:List Nat):Reach N b σ S (σ.only ks) S:=fun m β w a h r=>⟨m,β,h,r.only ks,ExtB.refl _ _ _ _⟩
theorem ju {σ':Fr} {S':Store} {c:Code} (hr:Reach N b σ S σ' S') (h:VWp P N b c Q σ' S'):VWp P N b c Q σ S:=by
  intro m β w a hS hF;obtain ⟨m',β',h1,h2,h3⟩:=hr m β w a hS hF;exact jbM h h1 h2 h3
theorem jbL (ks:List Nat) {c:Code} (h:VWp P N b c Q (σ.only ks) S):VWp P N b c Q σ S:=fun m β w a hS hF=>h m β w a hS (hF.only ks)
theorem least {p:Nat→Prop} (h : ∃ n,p n) : ∃ n,p n ∧ ∀ k,p k→n≤k:=by
  obtain ⟨n,hn⟩:=h
  induction n using Nat.strongRecOn with
  | _ n ih =>
    by_cases hx : ∃ k,k<n∧p k
    ·obtain ⟨k,hk,hp⟩:=hx; exact ih k hk hp
    ·exact ⟨n,hn,fun k hk=>by
       rcases Nat.lt_or_ge k n with h' | h'
       ·exact absurd ⟨k,h',hk⟩ hx
       ·exact h'⟩
theorem wp_loop_num {c:Code} {Q:Exit→Act→World→Prop} {a:Act} {w:World} (R:Nat→Act→World→Prop) (n0:Nat) (h0:R n0 a w)
    (round : ∀ n a w,R n a w→c.wp P (Exit.then (fun a' w' => ∃ n',n'<n∧R n' a' w') Q) a w):(Code.loop c).wp P Q a w:=by
  classical
  let μ:Act→World→Nat:=fun a w=>if h : ∃ n,R n a w then Classical.choose (least h) else 0
  have hμ : ∀ a w,(∃ n,R n a w)→R (μ a w) a w ∧ ∀ k,R k a w→μ a w≤k:=by
    intro a w h;have e:μ a w=Classical.choose (least h):=by simp only [μ]; rw [dif_pos h]
    rw [e];exact Classical.choose_spec (least h)
  refine wp_loop (fun a w => ∃ n,R n a w) μ ⟨n0,h0⟩ fun a w hI => ?_
  obtain ⟨hR,_⟩:=hμ a w hI;refine wp_mono (round (μ a w) a w hR) ?_;intro e a' w' q
  cases e with
  | normal =>
    obtain ⟨n',hlt,hn'⟩:=q;exact ⟨⟨n',hn'⟩,Nat.lt_of_le_of_lt ((hμ a' w' ⟨n',hn'⟩).2 n' hn') hlt⟩
  | exit id=>exact q
  | goto l=>exact q
  | ret=>exact q
  | panic ch=>exact q
  | outgrown=>exact q
theorem vw_loop (ks:List Nat) {c:Code} (I:Nat→Fr→Store→Prop) (n0:Nat) (h0:I n0 (σ.only ks) S)
    (round : ∀ n σ S,I n σ S→VWp P N b c (Ks (fun σ' S' => ∃ n',n'<n ∧ ∃ σc Sc,Reach N b (σ'.only ks) S' σc Sc∧I n' σc Sc) Q) σ S):VWp P N b (.loop c) Q σ S:=by
  intro m β w a hS hF;refine wp_loop_num (fun n a' w' => ∃ σ' S' m' β',I n σ' S'∧Holds S' m' β' w'∧FrameRep N m' β' σ' a'∧ExtB b m β w m' β' w') n0 ⟨_,S,m,β,h0,hS,hF.only ks,ExtB.refl _ _ _ _⟩ ?_;rintro n a' w' ⟨σ',S',m',β',hI,r1,r2,r3⟩;refine wp_mono (jbM (round n σ' S' hI) r1 r2 r3) ?_;rintro e a'' w'' ⟨σ'',S'',m'',β'',q,s1,s2,s3⟩
  cases e with
  | normal =>
    obtain ⟨n',hlt,σc,Sc,hr,hI'⟩:=q;obtain ⟨m3,β3,t1,t2,t3⟩:=hr m'' β'' w'' _ s1 (s2.only ks);exact ⟨n',hlt,σc,Sc,m3,β3,hI',t1,t2,s3.trans t3⟩
  | exit id=>exact ⟨σ'',S'',m'',β'',q,s1,s2,s3⟩
  | goto l=>exact ⟨σ'',S'',m'',β'',q,s1,s2,s3⟩
  | ret=>exact ⟨σ'',S'',m'',β'',q,s1,s2,s3⟩
  | panic ch=>exact ⟨σ'',S'',m'',β'',q,s1,s2,s3⟩
  | outgrown=>exact ⟨σ'',S'',m'',β'',q,s1,s2,s3⟩
end
/-! ### Regions -/
structure CO where
  dst:Option Nat
  guard:Option (Nat × Bool)
  op:COp
deriving Inhabited
def Jg (ops:Array Oper):Option (Nat × Bool)→Option (Option (Nat × Bool))
  | none=>some none
  | some (j,want)=>match (ops[j]?).bind (·.dst) with
    | some t=>some (some (t,want))
    | none=>none
def Wr (P:Program) (N:Nat) (ops:Array Oper) (o:Oper):Option CO :=
  match WW P o,Jg ops o.guard with
  | some c,some g=>if o.dst.all (· < N) then some ⟨o.dst,g,c⟩ else none
  | _,_=>none
def qE (P:Program) (N:Nat) (ops:Array Oper):Option (List CO):=ops.toList.mapM (Wr P N ops)
def qf (P:Program) (f:FuncId):Bool :=
  match P.funcs[f]? with
  | some fn => !(fn.name == "runtime.NumGoroutine" || fn.body.isNone)
  | none=>false
def vop (P:Program) (σ:Fr) (S:Store) (op:COp) (k:V→Store→Prop):Prop :=
  match op with
  | .call f args=>VCalls P f (args.map (ev σ)) S k
  | .callv f args=>match ev σ f with
    | .func g caps=>qf P g=true∧VCalls P g (args.map (ev σ)++caps) S k
    | _=>False
  | op=>match js (ev σ) S op with
    | some (v,S')=>k v S'
    | none=>False
def vseg (P:Program):List CO→(Fr→Store→Prop)→Fr→Store→Prop
  | [],K,σ,S=>K σ S
  | o::r,K,σ,S=>match o.guard with
    | none=>vop P σ S o.op fun v S'=>vseg P r K (σ.put o.dst v) S'
    | some (t,want)=>match σ.look t with
      | .bool b=>if b=want then vop P σ S o.op fun v S'=>vseg P r K (σ.put o.dst v) S' else vseg P r K (σ.put o.dst (.tuple [])) S
      | .tuple []=>vseg P r K (σ.put o.dst (.tuple [])) S
      | _=>False
theorem YM {N:Nat} {m:Imm} {β:Objs} {σ:Fr} {a:Act} (hF:FrameRep N m β σ a) {ops:Array Oper} {j t:Nat} (h:(ops[j]?).bind (·.dst)=some t) {b:Bool} (hb:σ.look t = .bool b) :
    yielded ops a.tmps j=some b:=by
  have hr:=hF.rep t;rw [hb] at hr;have e:=hr.inv_bool;have:a.tmps[t]? = some (.bool b):=by
    rw [Array.getD_eq_getD_getElem?] at e
    cases hx:a.tmps[t]? with
    | none=>rw [hx] at e; simp [undef] at e
    | some v=>rw [hx] at e; simpa using e
  simp [yielded,h,this]
theorem Wu {N:Nat} {m:Imm} {β:Objs} {σ:Fr} {a:Act} (hF:FrameRep N m β σ a) {ops:Array Oper} {j t:Nat} (h:(ops[j]?).bind (·.dst)=some t) (hb:σ.look t = .tuple []) :
    yielded ops a.tmps j=none:=by
  have hr:=hF.rep t;rw [hb] at hr;obtain ⟨vs,e,hl,_⟩:=hr.inv_tuple;have hv:vs=[]:=by cases vs<;>simp at hl ⊢
  subst hv;simp only [yielded,h,Option.bind_some];rw [Array.getD_eq_getD_getElem?] at e
  cases hx:a.tmps[t]? with
  | none=>rfl
  | some v=>rw [hx] at e; simp at e; subst e; rfl
theorem call_run {P:Program} {N:Nat} {m:Imm} {β:Objs} {w:World} {a:Act} {σ:Fr} {o:Oper} {c:Call} {f:FuncId} {args:List Arg} (ho:o.op = .call c) (hc:Kf P c=some (.call f args)) (hF:FrameRep N m β σ a) :
    ∃ vs:List Value,(execOp a.eval o).run P w = .ok (.enter f vs.toArray) w∧RepL m β (args.map (ev σ)) vs:=by
  obtain ⟨callee,as,argTypes⟩:=c;unfold Kf at hc;split at hc
  ·split at hc<;>(try cases hc)<;>(obtain ⟨z,hz,h⟩:=Option.map_eq_some_iff.1 hc; cases h)
  ·split at hc
   ·split at hc
    ·split at hc
     ·split at hc<;>cases hc
     ·cases hc
    ·cases hc
   ·cases hc
  ·split at hc
   ·split at hc<;>cases hc
   ·cases hc
  ·split at hc
   ·split at hc<;>cases hc
   ·cases hc
  ·rename_i f' h1;subst h1;split at hc
   ·rename_i fn hfn;split at hc
    ·cases hc
    ·rename_i hn;obtain ⟨zs,hz,h⟩:=Option.map_eq_some_iff.1 hc
     cases h
     refine ⟨as.toList.map a.eval, ?_,evs_rep hF hz⟩;simp only [Bool.or_eq_true,not_or,Bool.not_eq_true] at hn;obtain ⟨hn1,hn2⟩:=hn;have hargs:as.map a.eval=(as.toList.map a.eval).toArray:=by simp [←Array.toList_map]
     have hn1' : ¬ fn.name = "runtime.NumGoroutine" := by simpa using hn1
     have hn2' : ¬ fn.body=none:=by intro h; simp [h] at hn2
     simp [execOp,ho,resolve,Act.eval,Deferred.ofValue,invoke,callFunc,hfn,hn1',hn2',hargs]
   ·cases hc
  ·split at hc
   ·cases hc
   ·cases hc
  ·cases hc
theorem compOp_call {P:Program} {o:Oper} {co:COp} (h:WW P o=some co) (hs:co.simple=false) : ∃ c,o.op = .call c∧Kf P c=some co:=by
  unfold WW at h;split at h <;>
    first
    | exact ⟨_, ‹_›,h⟩
    | (exfalso
       revert hs
       repeat' (first | (split at h))
       all_goals first
         | (cases h; done)
         | (cases h; simp [COp.simple]; done)
         | (obtain ⟨z,hz,hh⟩:=Option.map_eq_some_iff.1 h; cases hh; simp [COp.simple]; done))
end Go.Vw

/-
 Regions and bodies: from values without addresses to the model's runs.
-/
namespace Go.Vw
open Go.RowKit
theorem callv_run {P:Program} {N:Nat} {m:Imm} {β:Objs} {w:World} {a:Act} {σ:Fr} {o:Oper} {c:Call} {fz:Arg} {args:List Arg} {g:FuncId} {caps:List V} (ho:o.op = .call c) (hc:Kf P c=some (.callv fz args)) (hF:FrameRep N m β σ a)
  (hg:ev σ fz = .func g caps) (hcall:qf P g=true) :
  ∃ vs:List Value,(execOp a.eval o).run P w = .ok (.enter g vs.toArray) w∧RepL m β (args.map (ev σ)++caps) vs:=by
 obtain ⟨callee,as,argTypes⟩:=c;unfold Kf at hc;split at hc
 ·split at hc<;>(try cases hc)<;>(obtain ⟨z,hz,h⟩:=Option.map_eq_some_iff.1 hc; cases h)
 ·split at hc
  ·split at hc
   ·split at hc
    ·split at hc<;>cases hc
    ·cases hc
   ·cases hc
  ·cases hc
 ·split at hc
  ·split at hc<;>cases hc
  ·cases hc
 ·split at hc
  ·split at hc<;>cases hc
  ·cases hc
 ·split at hc
  ·split at hc
   ·cases hc
   ·obtain ⟨zs,hz,h⟩:=Option.map_eq_some_iff.1 hc
    cases h
  ·cases hc
 ·rename_i fv hnf h1;simp only at h1;subst h1;split at hc
  ·rename_i fz' args' k1 k2
   cases hc
   have hr:=jU hF k1;rw [hg] at hr;obtain ⟨cvs,e,hcr⟩:=hr.inv_func;have has:=evs_rep hF k2;unfold qf at hcall;split at hcall
   ·rename_i fn hfn;simp only [Bool.not_eq_true',Bool.or_eq_false_iff] at hcall;have hn1' : ¬ fn.name = "runtime.NumGoroutine" := by simpa using hcall.1
    have hn2' : ¬ fn.body=none:=by intro h; simp [h] at hcall
    refine ⟨as.toList.map a.eval++cvs, ?_,has.append hcr⟩;have hargs:as.map a.eval=(as.toList.map a.eval).toArray:=by simp [←Array.toList_map]
    simp [execOp,ho,resolve,e,Deferred.ofValue,invoke,callFunc,hfn,hn1',hn2',hargs]
   ·cases hcall
  ·cases hc
 ·cases hc
section
variable {P:Program} {N b:Nat} {Q:Exit→Fr→Store→Prop}
def Post (N b:Nat) (Q:Exit→Fr→Store→Prop) (m:Imm) (β:Objs) (w:World) (e:Exit) (a':Act) (w':World):Prop :=
 ∃ σ' S' m' β',Q e σ' S'∧Holds S' m' β' w'∧FrameRep N m' β' σ' a'∧ExtB b m β w m' β' w'
theorem ZJ {o:Oper} {co:COp} (hc:WW P o=some co) (hd : ∀ t,o.dst=some t→t<N) {σ:Fr} {S:Store} {k:V→Store→Prop} (h:vop P σ S co k) {m0:Imm} {β0:Objs} {w0:World} {m:Imm} {β:Objs} {w:World} {a:Act}
  (hS:Holds S m β w) (hF:FrameRep N m β σ a) (he:ExtB b m0 β0 w0 m β w) {next:Act→World→Prop} {Q':Exit→Act→World→Prop}
  (hnext : ∀ x S' m' β' w' a',k x S'→Holds S' m' β' w'→FrameRep N m' β' (σ.put o.dst x) a'→ExtB b m0 β0 w0 m' β' w'→next a' w'):o.wp P a w next Q':=by
 by_cases hs:co.simple=true
 ·have hev : ∃ x S',js (ev σ) S co=some (x,S')∧k x S':=by
   cases co<;>first | (simp [COp.simple] at hs; done) | (simp only [vop] at h; split at h<;>first | exact ⟨_,_, ‹_›,h⟩ | exact h.elim)
  obtain ⟨x,S',hx,hk⟩:=hev;obtain ⟨v,w',m',β',hr,hx',hS',hE⟩:=op_sound hc hx hS hF;unfold Oper.wp;have hF':=(hF.ext hE).put o.dst hd hx';rcases hr with hr | ⟨hr,hv⟩
  ·rw [hr]; exact hnext _ _ _ _ _ _ hk hS' hF' (he.trans (hE.toB b))
  ·rw [hr]; subst hv; exact hnext _ _ _ _ _ _ hk hS' hF' (he.trans (hE.toB b))
 ·obtain ⟨c,ho,hcc⟩:=compOp_call hc (by simpa using hs);have fin : ∀ (f:FuncId) (args:List V) (vs:List Value),VCalls P f args S k→RepL m β args vs→(execOp a.eval o).run P w = .ok (.enter f vs.toArray) w→o.wp P a w next Q':=by
   intro f args vs h1 h2 h3;unfold Oper.wp;rw [h3];refine (h1 m β w vs hS h2).mono ?_;rintro e w' ⟨v,x,S',m',β',rfl,hk,hx,hS',hE⟩;exact hnext x S' m' β' w' _ hk hS' ((hF.ext hE).put o.dst hd hx) (he.trans (hE.toB b))
  cases co with
  | call f args =>
   obtain ⟨vs,h1,h2⟩:=call_run (w:=w) ho hcc hF;exact fin f _ vs h h2 h1
  | callv fz args =>
   simp only [vop] at h;split at h
   ·rename_i g caps hg;obtain ⟨vs,h1,h2⟩:=callv_run (w:=w) ho hcc hF hg h.1;exact fin g _ vs h.2 h2 h1
   ·exact h.elim
  | _=>simp [COp.simple] at hs
theorem Yi {ops:Array Oper} {m0:Imm} {β0:Objs} {w0:World} : ∀ (l:List Oper) (cs:List CO) (σ:Fr) (S:Store) (m:Imm) (β:Objs) (w:World) (a:Act),l.mapM (Wr P N ops)=some cs→vseg P cs (Q .normal) σ S →
  Holds S m β w→FrameRep N m β σ a→ExtB b m0 β0 w0 m β w→wpList P ops (Post N b Q m0 β0 w0) l a w
 | [],cs,σ,S,m,β,w,a,hl,h,hS,hF,he=>by
  simp at hl; subst hl;exact ⟨σ,S,m,β,h,hS,hF,he⟩
 | o::l,cs,σ,S,m,β,w,a,hl,h,hS,hF,he=>by
  simp only [List.mapM_cons,Option.bind_eq_bind,Option.bind_eq_some_iff] at hl;obtain ⟨c,hc,cs',hcs',hl⟩:=hl;simp at hl; subst hl;unfold Wr at hc;split at hc
  ·rename_i co g h1 h2;split at hc
   ·rename_i hdst
    cases hc
    have hd : ∀ t,o.dst=some t→t<N:=by
     intro t ht; rw [ht] at hdst; simpa using hdst
    simp only [wpList];have run:vop P σ S co (fun v S'=>vseg P cs' (Q .normal) (σ.put o.dst v) S')→o.wp P a w (wpList P ops (Post N b Q m0 β0 w0) l) (Post N b Q m0 β0 w0):=fun hv =>
     ZJ h1 hd hv hS hF he fun x S' m' β' w' a' k1 k2 k3 k4=>Yi l cs' _ S' m' β' w' a' hcs' k1 k2 k3 k4
    have skip:vseg P cs' (Q .normal) (σ.put o.dst (.tuple [])) S→wpList P ops (Post N b Q m0 β0 w0) l (a.put o.dst undef) w:=fun hv =>
     Yi l cs' _ S m β w _ hcs' hv hS (hF.put o.dst hd (zM m β)) he
    cases hg:o.guard with
    | none =>
     rw [hg] at h2;simp [Jg] at h2; subst h2;have hw:Region.wanted o (yielded ops a.tmps)=true:=by simp [Region.wanted,hg]
     rw [if_pos hw];simp only [vseg] at h;exact .inl (run h)
    | some jw =>
     obtain ⟨j,want⟩:=jw;rw [hg] at h2;simp only [Jg] at h2;split at h2
     ·rename_i t ht
      cases h2
      simp only [vseg] at h;split at h
      ·rename_i b hb;have hy:=YM hF ht hb;split at h
       ·rename_i hbw;have hw:Region.wanted o (yielded ops a.tmps)=true:=by simp [Region.wanted,hg,hy,hbw]
        rw [if_pos hw]; exact .inl (run h)
       ·rename_i hbw;have hw : ¬ Region.wanted o (yielded ops a.tmps)=true:=by simp [Region.wanted,hg,hy,hbw]
        rw [if_neg hw]; exact skip h
      ·rename_i hb;have hy:=Wu hF ht hb;have hw : ¬ Region.wanted o (yielded ops a.tmps)=true:=by simp [Region.wanted,hg,hy]
       rw [if_neg hw]; exact skip h
      ·exact h.elim
     ·cases h2
   ·cases hc
  ·cases hc
theorem vw_region {id:Nat} {ops:Array Oper} {cs:List CO} {σ:Fr} {S:Store} (hc:qE P N ops=some cs) (h:vseg P cs (Q .normal) σ S):VWp P N b (.region id ops false) Q σ S :=
 fun m β w a hS hF=>wp_region_list (Yi ops.toList cs σ S m β w a hc h hS hF (ExtB.refl _ _ _ _))
/-! ### Bodies -/
def resT (fn:Func):Option (List Nat):=fn.results.toList.mapM fun | .tmp t=>some t | .cell _ _=>none
def resV (ts:List Nat) (σ:Fr):V :=
 match ts with
 | [t]=>σ.look t
 | ts => .tuple (ts.map σ.look)
def bodyV (ts:List Nat) (R:V→Store→Prop):Exit→Fr→Store→Prop
 | .normal,σ,S=>R (resV ts σ) S
 | .ret,σ,S=>R (resV ts σ) S
 | _,_,_=>False
def KB (k:Nat):List V→Fr
 | []=>[]
 | x::xs=>(k,x)::KB (k+1) xs
theorem Wk : ∀ (xs:List V) (k t:Nat),(KB k xs).look t=if k≤t then (xs[t-k]?).getD .junk else .junk
 | [],k,t=>by simp [KB,Fr.look]
 | x::xs,k,t=>by
  simp only [KB,Fr.look]
  by_cases h:t=k
  ·subst h; simp
  ·rw [if_neg h,Wk xs (k+1) t]
   by_cases h2:k≤t
   ·rw [if_pos h2,if_pos (by omega)];have:t-k=(t-(k+1))+1:=by omega
    rw [this,List.getElem?_cons_succ]
   ·rw [if_neg h2,if_neg (by omega)]
theorem ZU {fn:Func} {ts:List Nat} (h:resT fn=some ts) {N:Nat} {m:Imm} {β:Objs} {σ:Fr} {a:Act} (hF:FrameRep N m β σ a) (w:World) : ∃ v,(results fn a.tmps).run P w = .ok v w∧Rep m β (resV ts σ) v:=by
 have gen : ∀ (g:ResultVar→Sem Value) (g':ResultVar→Option Nat),(∀ t,g (.tmp t)=pure (a.tmps.getD t undef))→(∀ t,g' (.tmp t)=some t)→(∀ p t,g' (.cell p t)=none) → ∀ (l:List ResultVar) (ts:List Nat),l.mapM g'=some ts →
   (l.mapM g).run P w = .ok (ts.map fun t=>a.tmps.getD t undef) w:=by
  intro g g' hg hg1 hg2 l
  induction l with
  | nil=>intro ts h; simp at h; subst h; rfl
  | cons r l ih =>
   intro ts h;simp only [List.mapM_cons,Option.bind_eq_bind,Option.bind_eq_some_iff] at h;obtain ⟨b,hb,r',hr',h⟩:=h;simp at h; subst h
   cases r with
   | cell=>rw [hg2] at hb; cases hb
   | tmp t =>
    rw [hg1] at hb
    cases hb
    rw [List.mapM_cons,Sem.run_bind,hg,Sem.run_pure,Result.andThen_ok,Sem.run_bind,ih r' hr']
    rfl
 have hrun:(results fn a.tmps).run P w = .ok (if h:(ts.map fun t=>a.tmps.getD t undef).toArray.size=1 then (ts.map fun t=>a.tmps.getD t undef).toArray[0] else .tuple (ts.map fun t=>a.tmps.getD t undef).toArray) w:=by
  unfold results;rw [Sem.run_bind,Array.mapM_eq_mapM_toList,Sem.run_map,gen _ _ (fun _=>rfl) (fun _=>rfl) (fun _ _=>rfl) fn.results.toList ts h]
  rfl
 refine ⟨_,hrun, ?_⟩
 match ts with
 | [t]=>simpa [resV] using hF.rep t
 | []=>exact zM m β
 | t::u::ts =>
  rw [dif_neg (by simp)];exact .tuple _ _ (by simp) fun i x v hx hv=>by
   simp only [List.getElem?_map,Option.map_eq_some_iff] at hx hv;obtain ⟨t1,h1,rfl⟩:=hx;obtain ⟨t2,h2,rfl⟩:=hv;rw [h1] at h2; cases h2;exact hF.rep t1
theorem qQ {f:FuncId} {fn:Func} {c:Code} {ts:List Nat} {args:List V} {S:Store} {R:V→Store→Prop} (hf:P.funcs[f]? = some fn) (hb:fn.body=some c) (ht:resT fn=some ts) (hn:args.length≤fn.ntmps)
  (h:VWp P fn.ntmps S.nx c (bodyV ts R) (KB 0 args) S):VCalls P f args S R:=by
 intro m β w vs hS hr;refine calls_of_wp hf hb ?_;have hF:FrameRep fn.ntmps m β (KB 0 args) { tmps:=vs.toArray++Array.replicate (fn.ntmps-vs.toArray.size) undef,defers:=[] }:=by
  have hl:=hr.1;refine ⟨by simp; omega,rfl,fun t => ?_⟩;rw [Wk];simp only [Nat.zero_le,if_true,Nat.sub_zero]
  cases hx:args[t]? with
  | none=>exact .junk _
  | some x =>
   have hlt:t<vs.length:=by rw [←hl]; exact (List.getElem?_eq_some_iff.1 hx).1
   have:(vs.toArray++Array.replicate (fn.ntmps-vs.toArray.size) undef).getD t undef=vs[t]:=by
    simp [Array.getD_eq_getD_getElem?,Array.getElem?_append,hlt]
   simp only [this,Option.getD_some];exact hr.2 t x _ hx (List.getElem?_eq_getElem hlt)
 refine wp_mono (h m β w _ hS hF) ?_;rintro e a' w' ⟨σ',S',m',β',q,r1,r2,r3⟩;have back:ExtB S.nx m β w m' β' w'→Ext m β w m' β' w':=fun h=>⟨h.imm,fun o ho=>h.step o (by
  rcases Nat.lt_or_ge o S.nx with hl | hl
  ·exact hl
  ·exact absurd ((hS.fresh o).2 hl) ho) ho,h.size,h.keep,h.os,h.tape,h.output⟩
 cases e with
 | normal =>
  obtain ⟨v,hv,hrv⟩:=ZU (P:=P) ht r2 w';exact ⟨r2.defers,v,hv,v,_,S',m',β',rfl,q,hrv,r1,back r3⟩
 | ret =>
  obtain ⟨v,hv,hrv⟩:=ZU (P:=P) ht r2 w';exact ⟨r2.defers,v,hv,v,_,S',m',β',rfl,q,hrv,r1,back r3⟩
 | _=>exact q.elim
end
end Go.Vw
