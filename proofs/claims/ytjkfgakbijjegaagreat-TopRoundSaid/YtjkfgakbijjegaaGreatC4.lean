import Derived.Test.YtjkfgakbijjegaaGreatC3
/- Part of the proof. -/
set_option linter.unusedVariables false
set_option linter.unusedSimpArgs false
namespace Go.Vw
open Go.RowKit
def jdk (x:Option Arg):List Arg:=x.toList
def COp.args:COp->List Arg
  | .move x | .box x | .load _ x | .nilCheck x | .un _ x | .conv _ x | .fieldAddr _ _ x | .len x | .lenS x | .toStr x | .extract x _ | .makeMeth _ x | .iface _ x | .panic x | .markS x | .loadJ _ x=>[x]
  | .pick c a b=>[c,a,b]
  | .alloc _ | .makeMap=>[]
  | .build _ ps | .buildSlice _ _ _ ps | .buildList _ _ _ ps=>ps.map fun p=>p.2.2
  | .store _ p v=>[p,v]
  | .bin _ x y | .beq _ x y | .seq _ x y | .append _ _ x y | .copy _ x y | .indexAddr _ x y | .lookup _ _ x y | .lookup2 _ _ _ x y=>[x,y]
  | .makeFunc _ cs=>cs
  | .makeSlice _ _ _ l c=>[l,c]
  | .bmax x xs=>x::xs
  | .indexV _ x y | .indexP _ _ x y | .indexS x y | .appendS x y | .aggEq _ _ _ x y=>[x,y]
  | .slice _ x lo hi mx=>x::(jdk lo++(jdk hi++jdk mx))
  | .mapUpdate x k v | .mapUpdate2 _ x k v=>[x,k,v]
  | .call _ aZZ=>aZZ
  | .callv f aZZ=>f::aZZ
def COp.reader:COp->Bool
  | .alloc _ | .box _ | .buildSlice .. | .store .. | .makeSlice .. | .append .. | .appendS .. | .panic _ | .copy .. | .makeMap | .mapUpdate .. | .mapUpdate2 .. => false
  | _=>true
theorem KN {ρ ρ':Arg->V} : ∀ (ps:List (Nat × Nat × Arg)) (cells:List V),(∀ x∈ps.map fun p=>p.2.2,ρ x=ρ' x)->qP ρ cells ps=qP ρ' cells ps
  | [],_,_=>rfl
  | (off,sz,x)::r,cells,h=>by
    have h1:=h x (by simp);simp only [qP,h1];split
    .exact KN r _ fun y hy=>h y (List.mem_cons_of_mem _ hy)
    .rfl
theorem jdj {ρ ρ':Arg->V} {x:Option Arg} (h : ∀ y∈jdk x,ρ y=ρ' y):x.map ρ=x.map ρ':=by
  cases x with
  | none=>rfl
  | some y=>simp [h y (by simp [jdk])]
theorem JK {ρ ρ':Arg->V} {S:Store} (op:COp) (h : ∀ x∈op.args,ρ x=ρ' x):jg ρ S op=jg ρ' S op:=by
  cases op<;>simp only [COp.args,aE,List.not_mem_nil,or_false,forall_eq_or_imp,forall_eq,az] at h<;>simp only [jg]
  case build z ps=>rw [KN ps z h]
  case buildSlice s len z ps=>rw [KN ps _ h]
  case buildList s len z ps=>rw [KN ps _ h]
  case makeFunc f cs=>rw [aP h]
  case bmax x xs=>rw [h.1,aP h.2]
  case slice s x lo hi mx =>
    rw [h.1,jdj fun y hy=>h.2 y (.inl hy),jdj fun y hy=>h.2 y (.inr (.inl hy)),jdj fun y hy=>h.2 y (.inr (.inr hy))]
  all_goals simp [h]
theorem WX {Z S:Store} (h:Z.Sub S) {o:Nat} (ho:(Z.get o).isSome=true):(S.get o).isSome=true:=by
  obtain ⟨c,hc⟩:=Option.isSome_iff_exists.1 ho;rw [h o c hc]; rfl
theorem ZG {ρ:Arg->V} {Z S:Store} (hz:Z.Sub S) (op:COp) (hr:op.reader=true) {v:V} {Z':Store} (he:jg ρ Z op=some (v,Z')):jg ρ S op=some (v,S):=by
  have fin : ∀ (f:Store->Option V),(∀ v,f Z=some v->f S=some v)->(f Z).map (fun v=>(v,Z))=some (v,Z')->(f S).map (fun v=>(v,S))=some (v,S):=by
    intro f hf h;obtain ⟨u,hu,h⟩:=aq.1 h;cases h;rw [hf _ hu]; rfl
  cases op<;>first | (simp [COp.reader] at hr; done) | skip
  case move x=>simp only [jg] at he ⊢; cases he; rfl
  case pick c a b=>simp only [jg] at he ⊢; cases hc:ρ c<;>simp only [hc] at he ⊢ <;> first | (cases he; rfl) | cases he
  case makeMeth f x=>simp only [jg] at he ⊢; cases he; rfl
  case iface t x=>exact fin (fun _=>(valV (ρ x)).map fun v => .raw (.iface t v)) (fun _ h=>h) (by simpa [jg,Function.comp_def] using he) |> fun h=>by simpa [jg,Function.comp_def] using h
  case bmax x xs=>exact fin (fun _=>Ye (ρ x) (xs.map ρ)) (fun _ h=>h) he
  case indexV n x i=>exact fin (fun _=>WC n (ρ x) (ρ i)) (fun _ h=>h) he
  case indexS x i=>exact fin (fun _=>WD (ρ x) (ρ i)) (fun _ h=>h) he
  case aggEq g neg ks x y=>exact fin (fun _=>qn g neg ks (ρ x) (ρ y)) (fun _ h=>h) he
  case indexP n s x i =>
    refine fin (fun S=>zN n s S (ρ x) (ρ i)) (fun v h => ?_) he;cases hx:ρ x with
    | ptr o off =>
      cases hi:ρ i with
      | int k j =>
        simp only [hx,hi,zN] at h ⊢;split at h
        .rename_i hs; rw [if_pos ⟨WX hz hs.1,hs.2⟩]; exact h
        .cases h
      | _=>rw [hx,hi] at h; exact h
    | _=>rw [hx] at h; cases hi:ρ i<;>(rw [hi] at h; exact h)
  case markS x =>
    refine fin (fun S=>jcb S (ρ x)) (fun v h => ?_) he;cases hx:ρ x with
    | slice o off len =>
      simp only [hx,jcb] at h ⊢;cases hc:Z.get o with
      | none=>simp [hc] at h
      | some c=>rw [hz o c hc]; rw [hc] at h; exact h
    | _=>rw [hx] at h; exact h
  case loadJ sz x =>
    refine fin (fun S=>jl sz S (ρ x)) (fun v h => ?_) he;simp only [jl] at h ⊢;cases hx:ρ x with
    | ptr o off =>
      simp only [hx,Jk] at h ⊢;cases hc:Z.get o with
      | none=>simp [hc] at h
      | some c=>rw [hz o c hc]; rw [hc] at h; exact h
    | _=>rw [hx] at h; exact h
  case build z ps=>exact fin (fun _=>(qP ρ z ps).map .agg) (fun _ h=>h) (by simpa [jg,Function.comp_def] using he) |> fun h=>by simpa [jg,Function.comp_def] using h
  case buildList s len z ps=>exact fin (fun _=>opList s len (qP ρ (rep0 z len) ps)) (fun _ h=>h) he
  case load sz x =>
    refine fin (fun S=>Jk sz S (ρ x)) (fun v h => ?_) he;cases hx:ρ x with
    | ptr o off =>
      simp only [hx,Jk] at h ⊢;cases hc:Z.get o with
      | none=>simp [hc] at h
      | some c=>rw [hz o c hc]; rw [hc] at h; exact h
    | _=>rw [hx] at h; exact h
  case nilCheck x =>
    simp only [jg] at he ⊢;cases hx:ρ x<;>simp only [hx] at he ⊢ <;> first | (cases he; done) | (cases he; rfl) | skip
    rename_i o p;split at he
    .rename_i hs; cases he; rw [if_pos (WX hz hs)]
    .cases he
  case toStr x=>exact fin (fun _=>Zd (ρ x)) (fun _ h=>h) he
  case seq neg x y=>exact fin (fun _=>opSeq neg (ρ x) (ρ y)) (fun _ h=>h) he
  case beq neg x y=>exact fin (fun _=>opBeq neg (ρ x) (ρ y)) (fun _ h=>h) he
  case bin op x y=>exact fin (fun _=>opBin op (ρ x) (ρ y)) (fun _ h=>h) he
  case un op x=>exact fin (fun _=>opUn op (ρ x)) (fun _ h=>h) he
  case conv k x=>simp only [jg] at he ⊢; cases hx:ρ x<;>simp only [hx] at he ⊢ <;> first | (cases he; rfl) | cases he
  case makeFunc f cs=>simp only [jg] at he ⊢; cases he; rfl
  case slice s x lo hi mx =>
    refine fin (fun S=>qN s S (ρ x) (lo.map ρ) (hi.map ρ) (mx.map ρ)) (fun v h => ?_) he;cases hx:ρ x with
    | slice o off len =>
      simp only [hx,qN] at h ⊢;split at h
      .split at h
       .rename_i hc;obtain ⟨c,hc1,hc2⟩:=aq.1 hc.1;rw [if_pos ⟨by rw [hz o c hc1]; simp [hc2],hc.2⟩]; exact h
       .cases h
      .cases h
    | _=>rw [hx] at h; exact h
  case fieldAddr off sz x =>
    refine fin (fun S=>qO off sz S (ρ x)) (fun v h => ?_) he;cases hx:ρ x with
    | ptr o p =>
      simp only [hx,qO] at h ⊢;split at h
      .rename_i hs; rw [if_pos (WX hz hs)]; exact h
      .cases h
    | ref y=>rw [hx] at h; cases y<;>exact h
    | _=>rw [hx] at h; exact h
  case indexAddr s x i =>
    refine fin (fun S=>jz s S (ρ x) (ρ i)) (fun v h => ?_) he;cases hx:ρ x with
    | slice o off len =>
      cases hi:ρ i with
      | int k n =>
        simp only [hx,hi,jz] at h ⊢;split at h
        .rename_i hs; rw [if_pos ⟨WX hz hs.1,hs.2⟩]; exact h
        .cases h
      | _=>rw [hx,hi] at h; exact h
    | list xs=>rw [hx] at h; cases hi:ρ i<;>(rw [hi] at h; exact h)
    | _=>rw [hx] at h; cases hi:ρ i<;>(rw [hi] at h; exact h)
  case len x =>
    refine fin (fun S=>Yf S (ρ x)) (fun v h => ?_) he;cases hx:ρ x with
    | slice o off len =>
      simp only [hx,Yf] at h ⊢;split at h
      .rename_i hs; rw [if_pos (WX hz hs)]; exact h
      .cases h
    | _=>rw [hx] at h; exact h
  case lookup z ok x k =>
    refine fin (fun S=>qQ z ok S (ρ x) (ρ k)) (fun v h => ?_) he;cases hx:ρ x with
    | map o =>
      cases hk:ρ k with
      | int kk n =>
        simp only [hx,hk,qQ] at h ⊢;cases hc:Z.get o with
        | none=>simp [hc] at h
        | some c=>rw [hz o c hc]; rw [hc] at h; exact h
      | _=>rw [hx,hk] at h; exact h
    | _=>rw [hx] at h; cases hk:ρ k<;>(rw [hk] at h; exact h)
  case lookup2 g z ok x k =>
    refine fin (fun S=>zZ g z ok S (ρ x) (ρ k)) (fun v h => ?_) he;cases hx:ρ x with
    | map o =>
      simp only [hx] at h ⊢;unfold zZ at h ⊢;split at h
      .rename_i o' a e1 e2;cases e1
       try simp only [e2]
       split at h
       .rename_i hg;rw [if_pos hg];cases hc:Z.get o with
        | none=>simp [hc] at h
        | some c=>rw [hz o c hc]; rw [hc] at h; exact h
       .cases h
      .cases h
    | _=>simp only [hx,zZ] at h; cases h
  case lenS x=>simp only [jg] at he ⊢; cases hx:ρ x<;>simp only [hx] at he ⊢ <;> first | (cases he; rfl) | cases he
  case extract x i=>simp only [jg] at he ⊢; cases hx:ρ x<;>simp only [hx] at he ⊢ <;> first | (cases he; done) | (obtain ⟨u,hu,h⟩:=aq.1 he; cases h; rw [hu]; rfl)
  all_goals (simp [jg] at he)
abbrev Ff:=Nat->V
def Ff.put (τ:Ff) (d:Option Nat) (v:V):Ff:=match d with
  | some d=>fun t=>if t=d then v else τ t
  | none=>τ
def evf (τ:Ff):Arg->V
  | .tmp t=>τ t
  | .val x=>x
theorem qE (σ:Fr):evf σ.lk=ev σ:=by funext x; cases x<;>rfl
theorem Jh (σ:Fr) (d:Option Nat) (v:V):(σ.put d v).lk=Ff.put σ.lk d v:=by
  cases d with
  | none=>rfl
  | some d=>funext t; simp [Fr.put,Ff.put,Fr.look_set]
theorem Ff.put_comm (τ:Ff) {x y:Option Nat} (v u:V) (h : ∀ d,x=some d->y≠some d):(τ.put x v).put y u=(τ.put y u).put x v:=by
  cases x with
  | none=>cases y<;>rfl
  | some d =>
    cases y with
    | none=>rfl
    | some e =>
      have hne:d≠e:=fun he=>h d rfl (he▸rfl)
      funext t
      simp only [Ff.put];by_cases h1:t=e
      .subst h1; rw [if_pos rfl,if_neg (fun h=>hne h.symm),if_pos rfl]
      .simp [h1]
def CO.looks (o:CO):List Nat:=(o.op.args.filterMap fun | .tmp t=>some t | _=>none)++(match o.guard with | some (t,_)=>[t] | none=>[])
def CO.apart (x y:CO):Bool :=
  (match x.dst with | some d => !(y.looks).contains d&&y.dst != some d | none=>true)&&(match y.dst with | some d => !(x.looks).contains d | none=>true)
theorem CO.apart_spec {x y:CO} (h:x.apart y=true):(∀ d,x.dst=some d->d∉y.looks)/\(∀ d,x.dst=some d->y.dst≠some d)/\(∀ d,y.dst=some d->d∉x.looks):=by
  refine ⟨fun d hd => ?_,fun d hd => ?_,fun d hd => ?_⟩<;>simp [CO.apart,hd] at h
  .exact h.1.1
  .exact h.1.2
  .exact h.2
theorem WO {τ:Ff} {d:Option Nat} {v:V} {o:CO} (h : ∀ t,d=some t->t∉o.looks) : ∀ x∈o.op.args,evf (τ.put d v) x=evf τ x:=by
  intro x hx;cases x with
  | val y=>rfl
  | tmp t =>
    cases d with
    | none=>rfl
    | some d =>
      have hne:t≠d:=by
        intro e; subst e;exact h t rfl (by unfold CO.looks; exact List.mem_append_left _ (List.mem_filterMap.2 ⟨_,hx,rfl⟩))
      simp [evf,Ff.put,hne]
def COp.shape:COp->Bool
  | .indexAddr .. | .fieldAddr .. | .nilCheck .. | .len .. | .slice .. => true
  | _=>false
def Store.Shp (Z S:Store):Prop := ∀ o c,Z.get o=some c -> ∃ c',S.get o=some c'/\c'.1=c.1
theorem Store.Sub.shp {Z S:Store} (h:Z.Sub S):Z.Shp S:=fun o c hc=>⟨c,h o c hc,rfl⟩
theorem Zq {Z S:Store} (h:Z.Shp S) {o:Nat} (ho:(Z.get o).isSome=true):(S.get o).isSome=true:=by
  obtain ⟨c,hc⟩:=Option.isSome_iff_exists.1 ho;obtain ⟨c',hc',_⟩:=h o c hc;rw [hc']; rfl
theorem jeR {ρ:Arg->V} {Z S:Store} (hz:Z.Shp S) (op:COp) (hr:op.shape=true) {v:V} {Z':Store} (he:jg ρ Z op=some (v,Z')):jg ρ S op=some (v,S):=by
  have fin : ∀ (f:Store->Option V),(∀ v,f Z=some v->f S=some v)->(f Z).map (fun v=>(v,Z))=some (v,Z')->(f S).map (fun v=>(v,S))=some (v,S):=by
    intro f hf h;obtain ⟨u,hu,h⟩:=aq.1 h;cases h;rw [hf _ hu]; rfl
  cases op<;>first | (simp [COp.shape] at hr; done) | skip
  case nilCheck x =>
    simp only [jg] at he ⊢;cases hx:ρ x<;>simp only [hx] at he ⊢ <;> first | (cases he; done) | (cases he; rfl) | skip
    rename_i o p;split at he
    .rename_i hs; cases he; rw [if_pos (Zq hz hs)]
    .cases he
  case slice s x lo hi mx =>
    refine fin (fun S=>qN s S (ρ x) (lo.map ρ) (hi.map ρ) (mx.map ρ)) (fun v h => ?_) he;cases hx:ρ x with
    | slice o off len =>
      simp only [hx,qN] at h ⊢;split at h
      .split at h
       .rename_i hc;obtain ⟨c,hc1,hc2⟩:=aq.1 hc.1;obtain ⟨c',hc',he'⟩:=hz o c hc1;rw [if_pos ⟨by rw [hc']; simp [he',hc2],hc.2⟩]; exact h
       .cases h
      .cases h
    | _=>rw [hx] at h; exact h
  case fieldAddr off sz x =>
    refine fin (fun S=>qO off sz S (ρ x)) (fun v h => ?_) he;cases hx:ρ x with
    | ptr o p =>
      simp only [hx,qO] at h ⊢;split at h
      .rename_i hs; rw [if_pos (Zq hz hs)]; exact h
      .cases h
    | ref y=>rw [hx] at h; cases y<;>exact h
    | _=>rw [hx] at h; exact h
  case indexAddr s x i =>
    refine fin (fun S=>jz s S (ρ x) (ρ i)) (fun v h => ?_) he;cases hx:ρ x with
    | slice o off len =>
      cases hi:ρ i with
      | int k n =>
        simp only [hx,hi,jz] at h ⊢;split at h
        .rename_i hc; rw [if_pos ⟨Zq hz hc.1,hc.2⟩]; exact h
        .cases h
      | _=>rw [hx,hi] at h; exact h
    | _=>rw [hx] at h; cases hi:ρ i<;>(rw [hi] at h; exact h)
  case len x =>
    refine fin (fun S=>Yf S (ρ x)) (fun v h => ?_) he;cases hx:ρ x with
    | slice o off len =>
      simp only [hx,Yf] at h ⊢;split at h
      .rename_i hs; rw [if_pos (Zq hz hs)]; exact h
      .cases h
    | _=>rw [hx] at h; exact h
structure ZZ where
  z0:Store
  zc:Store
  zs:Store
  es:List Nat
def ZZ.early (z:ZZ):Option Nat->Bool
  | some t=>z.es.contains t
  | none=>false
def ZZ.rd (z:ZZ) (d:Option Nat) (op:COp):Store:=if z.early d=true then z.z0 else if op.shape=true then z.zs else z.zc
def ZZ.ok (z:ZZ) (S:Store):Prop:=z.zc.Sub S/\z.zs.Shp S
def ZZ.plain (Z:Store):ZZ:=⟨Z,Z,Z,[]⟩
def COp.adds:COp->Bool
  | .alloc _ | .box _ | .buildSlice .. | .makeSlice .. | .makeMap=>true
  | _=>false
theorem af9 {ρ:Arg->V} {S S':Store} (hg:S.get S.nx=none) (op:COp) (ha:op.adds=true) {v:V} (he:jg ρ S op=some (v,S')):S.Sub S':=by
  have add : ∀ c,S.Sub (S.add c):=by
    intro c o d hd;simp only [Store.add];rw [if_neg (fun e=>by subst e; rw [hg] at hd; cases hd)];exact hd
  cases op<;>first | (simp [COp.adds] at ha; done) | skip
  case alloc z=>simp only [jg] at he; cases he; exact add _
  case box x=>simp only [jg] at he; split at he<;>cases he; exact add _
  case buildSlice s len z ps =>
    simp only [jg] at he;obtain ⟨cs,_,h⟩:=aq.1 he;cases h; exact add _
  case makeSlice s b z l c =>
    simp only [jg,YN] at he;split at he
    .split at he
     .cases he; exact add _
     .cases he
    .cases he
  case makeMap=>simp only [jg] at he; cases he; exact add _
def VPureZ (P:Program) (Z:Store) (f:FuncId) (args:List V) (X:V):Prop := ∀ S,Z.Sub S->VCalls P f args S fun r S'=>r=X/\S'=S
theorem VPure.toZ {P:Program} {f:FuncId} {args:List V} {X:V} (h:VPure P f args X) (Z:Store):VPureZ P Z f args X:=fun S _=>h S
def WJ (P:Program) (Z:Store) (τ:Ff) (op:COp) (v:V):Prop :=
  match op with
  | .call f args=>VPureZ P Z f (args.map (evf τ)) v
  | .callv f args => ∃ g caps,evf τ f = .func g caps/\jE P g=true/\VPureZ P Z g (args.map (evf τ)++caps) v
  | op => ∃ Z',jg (evf τ) Z op=some (v,Z')
theorem jdd {P:Program} {Z:Store} {τ τ':Ff} {op:COp} {v:V} (h : ∀ x∈op.args,evf τ x=evf τ' x) (hr:WJ P Z τ op v):WJ P Z τ' op v:=by
  cases op with
  | call f args =>
    simp only [WJ,COp.args] at h hr ⊢
    rwa [<-aP h]
  | callv f args =>
    simp only [WJ,COp.args,aE,forall_eq_or_imp] at h hr ⊢
    rwa [<-aP h.2, <-h.1]
  | _=>simp only [WJ] at hr ⊢; rwa [<-JK _ h]
def wrcL (es:List Nat):Option Nat->Bool
  | some t=>es.contains (t+10000)||es.contains (t+20000)
  | none=>false
def trnL (es:List Nat):Option Nat->Bool
  | some t=>es.contains (t+20000)
  | none=>false
def jei (es:List Nat) (d:Option Nat):COp->Bool
  | .call _ _ | .callv _ _ => !wrcL es d
  | op=>op.reader
abbrev isRd (es:List Nat) (o:CO):Bool:=jei es o.dst o.op
def JE (P:Program) (tn:Bool) (τ:Ff) (S:Store) (op:COp) (v:V) (S1:Store):Prop :=
  match op with
  | .call f args=>(tn=true\/S.Sub S1)/\VCalls P f (args.map (evf τ)) S fun r T=>r=v/\T=S1
  | .callv f args=>(tn=true\/S.Sub S1) /\ ∃ g caps,evf τ f = .func g caps/\jE P g=true/\VCalls P g (args.map (evf τ)++caps) S fun r T=>r=v/\T=S1
  | op=>jg (evf τ) S op=some (v,S1)
theorem jbV {P:Program} {tn:Bool} {τ τ':Ff} {S S1:Store} {op:COp} {v:V} (h : ∀ x∈op.args,evf τ x=evf τ' x) (hr:JE P tn τ S op v S1):JE P tn τ' S op v S1:=by
  cases op with
  | call f args =>
    simp only [JE,COp.args] at h hr ⊢
    rwa [<-aP h]
  | callv f args =>
    simp only [JE,COp.args,aE,forall_eq_or_imp] at h hr ⊢
    rwa [<-aP h.2, <-h.1]
  | _=>simp only [JE] at hr ⊢; rwa [<-JK _ h]
theorem jdA {es:List Nat} {d:Option Nat} {op:COp} (h:jei es d op=true):op.reader=true:=by
  cases op<;>first | rfl | exact h
def jcs (tn:Bool):COp->Bool
  | .call _ _ | .callv _ _ => !tn
  | .append _ _ (.val .nils) _=>true
  | op=>op.adds
theorem ah7 {P:Program} {tn:Bool} {τ:Ff} {S S1:Store} {op:COp} {v:V} (hg:S.get S.nx=none) (ha:jcs tn op=true) (h:JE P tn τ S op v S1):S.Sub S1:=by
  cases op
  case append s b x y =>
    rcases x with t | w
    .simp [jcs,COp.adds] at ha
    .cases w<;>first | (simp [jcs,COp.adds] at ha; done) | skip
     simp only [JE,jg,evf,jB] at h;split at h
     .cases h
     .split at h
      .cases h
       intro o d hd;simp only [Store.add];rw [if_neg (fun e=>by subst e; rw [hg] at hd; cases hd)];exact hd
      .cases h
  all_goals first | (simp [jcs,COp.adds] at ha; done) | exact af9 hg _ (by rfl) h | (simp only [jcs,Bool.not_eq_true'] at ha; subst ha; exact h.1.resolve_left (by simp))
def CO.wants (τ:Ff) (o:CO):Option Bool :=
  match o.guard with
  | none=>some true
  | some (t,want)=>match τ t with
    | .bool b=>some (b==want)
    | .tuple []=>some false
    | _=>none
def stepZ (P:Program) (Z:ZZ) (o:CO) (next:Ff->Store->Prop) (τ:Ff) (S:Store):Prop :=
  match o.wants τ with
  | some true=>(isRd Z.es o=true /\ ∃ v,WJ P (Z.rd o.dst o.op) τ o.op v/\next (τ.put o.dst v) S)\/(isRd Z.es o=false /\ ∃ v S',JE P (trnL Z.es o.dst) τ S o.op v S'/\Z.ok S'/\next (τ.put o.dst v) S')
  | some false=>next (τ.put o.dst (.tuple [])) S
  | none=>False
def atZ (P:Program) (Z:ZZ) (cs:List CO) (i:Nat) (next:Ff->Store->Prop) (τ:Ff) (S:Store):Prop :=
  match cs[i]? with
  | some o=>stepZ P Z o next τ S
  | none=>next τ S
def anyZ (P:Program) (Z:ZZ) (ops:Array Oper) (cs:List CO) (Q:Ff->Store->Prop):Nat->Array Bool->Ff->Store->Prop
  | 0,listed,τ,S=>Region.ready .any ops listed=[]/\Q τ S
  | n+1,listed,τ,S=>(Region.ready .any ops listed=[]->Q τ S) /\ ∀ i∈Region.ready .any ops listed,atZ P Z cs i (anyZ P Z ops cs Q n (listed.setIfInBounds i true)) τ S
def jbT (P:Program) (Z:ZZ) (o:CO) (v:V) (τ:Ff) (S S1:Store):Prop :=
  (o.wants τ=some true/\((isRd Z.es o=true/\S1=S/\WJ P (Z.rd o.dst o.op) τ o.op v)\/(isRd Z.es o=false/\JE P (trnL Z.es o.dst) τ S o.op v S1/\Z.ok S1)))\/(o.wants τ=some false/\v = .tuple []/\S1=S)
section
variable {P:Program} {Z:ZZ} {ops:Array Oper} {cs:List CO} {Q:Ff->Store->Prop}
theorem JA {o:CO} {next:Ff->Store->Prop} {τ:Ff} {S:Store}:stepZ P Z o next τ S ↔ ∃ v S1,jbT P Z o v τ S S1/\next (τ.put o.dst v) S1:=by
  unfold stepZ jbT;cases hw:o.wants τ with
  | none=>simp
  | some b =>
    cases b with
    | true =>
      simp only [true_and,ar,bh,false_and,or_false];constructor
      .rintro (⟨h1,v,h2,h3⟩ | ⟨h1,v,S',h2,h3,h4⟩)
       .exact ⟨v,S, .inl ⟨h1,rfl,h2⟩,h3⟩
       .exact ⟨v,S', .inr ⟨h1,h2,h3⟩,h4⟩
      .rintro ⟨v,S1,(⟨h1,rfl,h2⟩ | ⟨h1,h2,h3⟩),h4⟩
       .exact .inl ⟨h1,v,h2,h4⟩
       .exact .inr ⟨h1,v,S1,h2,h3,h4⟩
    | false =>
      simp only [ar,ay,false_and,true_and,false_or];constructor
      .intro h; exact ⟨_,_,⟨rfl,rfl⟩,h⟩
      .rintro ⟨v,S1,⟨rfl,rfl⟩,h⟩; exact h
theorem jat {o:CO} {τ:Ff} {d:Option Nat} {v:V} (h : ∀ t,d=some t->t∉o.looks):o.wants (τ.put d v)=o.wants τ:=by
  unfold CO.wants;cases hg:o.guard with
  | none=>rfl
  | some p =>
    obtain ⟨t,want⟩:=p;cases d with
    | none=>rfl
    | some d =>
      have hne:t≠d:=by
        intro e; subst e;exact h t rfl (by unfold CO.looks; rw [hg]; exact List.mem_append_right _ List.mem_cons_self)
      simp [Ff.put,hne]
theorem jbf {o:CO} {v u:V} {τ:Ff} {S S1:Store} {d:Option Nat} (h : ∀ t,d=some t->t∉o.looks):jbT P Z o v (τ.put d u) S S1↔jbT P Z o v τ S S1:=by
  unfold jbT;rw [jat h];have e2:JE P (trnL Z.es o.dst) (τ.put d u) S o.op v S1↔JE P (trnL Z.es o.dst) τ S o.op v S1:=⟨jbV (WO h),jbV fun x hx=>(WO h x hx).symm⟩
  have e:WJ P (Z.rd o.dst o.op) (τ.put d u) o.op v↔WJ P (Z.rd o.dst o.op) τ o.op v:=⟨jdd (WO h),jdd fun x hx=>(WO h x hx).symm⟩
  rw [e,e2]
theorem jaq {o:CO} {v:V} {τ:Ff} {S S1:Store} (hr:isRd Z.es o=true) (h:jbT P Z o v τ S S1):S1=S /\ ∀ S',jbT P Z o v τ S' S':=by
  rcases h with ⟨h1,⟨h2,rfl,h3⟩ | ⟨h2,_⟩⟩ | ⟨h1,h2,rfl⟩
  .exact ⟨rfl,fun S' => .inl ⟨h1, .inl ⟨h2,rfl,h3⟩⟩⟩
  .rw [hr] at h2; cases h2
  .exact ⟨rfl,fun S' => .inr ⟨h1,h2,rfl⟩⟩
theorem anu {i:Nat} {K K':Ff->Store->Prop} {τ:Ff} {S:Store} (h : ∀ τ S,K τ S->K' τ S) (hh:atZ P Z cs i K τ S):atZ P Z cs i K' τ S:=by
  unfold atZ at *
  split
  .rename_i o ho;simp only [ho] at hh;rw [JA] at hh ⊢;obtain ⟨v,S1,h1,h2⟩:=hh;exact ⟨v,S1,h1,h _ _ h2⟩
  .rename_i ho; simp only [ho] at hh; exact h _ _ hh
def zn (ops:Array Oper) (listed:Array Bool):Prop := ∀ i o,ops[i]? = some o->listed.getD i true=true -> ∀ e∈o.after,Region.binds .any e=true->listed.getD e.on false=true
def Jm (ops:Array Oper) (k:Nat):Nat->Nat->Bool
  | 0,_=>false
  | n+1,j=>match ops[j]? with
    | some o=>o.after.any fun e=>Region.binds .any e&&(e.on==k||Jm ops k n e.on)
    | none=>false
theorem jaS {listed:Array Bool} {i:Nat} (h:listed.getD i false=true):listed.getD i true=true:=by
  rcases bc i listed.size with h' | h'
  .simp [h'] at h ⊢; exact h
  .simp [Array.getElem?_eq_none h'] at h
theorem YU {listed:Array Bool} (hc:zn ops listed) {k:Nat} : ∀ (n j:Nat),Jm ops k n j=true->listed.getD j false=true->listed.getD k false=true
  | 0,j,h,_=>by simp [Jm] at h
  | n+1,j,h,hj=>by
    simp only [Jm] at h;split at h
    .rename_i o ho;obtain ⟨e,he,hb⟩:=Array.any_eq_true'.1 h;simp only [ae,aX,beq_iff_eq] at hb;have hl:=hc j o ho (jaS hj) e he hb.1;rcases hb.2 with h2 | h2
     .rw [<-h2]; exact hl
     .exact YU hc n e.on h2 hl
    .cases h
def mask1 (ms:List Nat) (l:List Edge):Nat:=l.foldl (fun m e=>if Region.binds .any e then m ||| 2^e.on ||| ms.getD e.on 0 else m) 0
def jdt:List Oper->List Nat->List Nat
  | [],ms=>ms
  | o::r,ms=>jdt r (ms++[mask1 ms o.after.toList])
def zX (ops:Array Oper):List Nat:=jdt ops.toList []
def jbi (ms:List Nat) (k j:Nat):Bool:=(ms.getD j 0).testBit k
theorem aa8 {ms:List Nat} {k:Nat} : ∀ (l:List Edge) (m:Nat),(l.foldl (fun m e=>if Region.binds .any e then m ||| 2^e.on ||| ms.getD e.on 0 else m) m).testBit k=true->m.testBit k=true \/ ∃ e∈l,Region.binds .any e=true/\(e.on=k\/(ms.getD e.on 0).testBit k=true)
  | [],m,h => .inl h
  | e::l,m,h=>by
    simp only [List.foldl_cons] at h;rcases aa8 l _ h with h1 | ⟨e',he',hb⟩
    .split at h1
     .rename_i hbi;simp only [Nat.testBit_or,aX] at h1;rcases h1 with (h1 | h1) | h1
      .exact .inl h1
      .rw [Nat.testBit_two_pow] at h1;exact .inr ⟨e,List.mem_cons_self,hbi, .inl (by simpa using h1)⟩
      .exact .inr ⟨e,List.mem_cons_self,hbi, .inr h1⟩
     .exact .inl h1
    .exact .inr ⟨e',List.mem_cons_of_mem _ he',hb⟩
theorem Zf {ops:Array Oper} {k:Nat} : ∀ (r pre:List Oper) (ms:List Nat),ops.toList=pre++r->ms.length=pre.length->(∀ j,(ms.getD j 0).testBit k=true -> ∃ n,Jm ops k n j=true) -> ∀ j,((jdt r ms).getD j 0).testBit k=true -> ∃ n,Jm ops k n j=true
  | [],_,ms,_,_,h=>h
  | o::r,pre,ms,ho,hl,h=>by
    refine Zf r (pre++[o]) _ (by simpa using ho) (by simp [hl]) fun j hj => ?_;rw [af,List.getElem?_append] at hj;by_cases hjl:j<ms.length
    .rw [if_pos hjl, <-af] at hj;exact h j hj
    .rw [if_neg hjl] at hj;by_cases hje:j-ms.length=0
     .have e:j=pre.length:=by omega
      rw [hje] at hj;simp only [aD,aJ] at hj;rcases aa8 o.after.toList 0 hj with h0 | ⟨e1,he1,hb,hk⟩
      .simp at h0
      .have hoj:ops[j]? = some o:=by rw [<-Array.getElem?_toList,ho,e]; simp
       rcases hk with hk | hk
       .refine ⟨1, ?_⟩;simp only [Jm,hoj];refine Array.any_eq_true'.2 ⟨e1,by simpa using he1, ?_⟩;simp [hb,hk]
       .obtain ⟨n,hn⟩:=h _ hk;refine ⟨n+1, ?_⟩;simp only [Jm,hoj];refine Array.any_eq_true'.2 ⟨e1,by simpa using he1, ?_⟩;simp [hb,hn]
     .have:([mask1 ms o.after.toList]:List Nat)[j-ms.length]? = none:=aC (by simp; omega);rw [this] at hj;simp at hj
theorem zK {ops:Array Oper} {k j:Nat} (h:jbi (zX ops) k j=true) : ∃ n,Jm ops k n j=true :=
  Zf ops.toList [] [] rfl rfl (by intro j hj; simp at hj) j h
theorem Yt {listed:Array Bool} (hc:zn ops listed) {j k n:Nat} (hj:j∈Region.ready .any ops listed) (hw:Jm ops k n j=true):listed.getD k false=true:=by
  obtain ⟨_,oj,hoj,hall⟩:=mem_ready.1 hj;cases n with
  | zero=>simp [Jm] at hw
  | succ n =>
    simp only [Jm,hoj] at hw;obtain ⟨e,he,hb⟩:=Array.any_eq_true'.1 hw;simp only [ae,aX,beq_iff_eq] at hb;have hl:=hall e he hb.1;rcases hb.2 with h2 | h2
    .rw [<-h2]; exact hl
    .exact YU hc n e.on h2 hl
theorem JD {listed:Array Bool} (hc:zn ops listed) {j:Nat} (hj:j∈Region.ready .any ops listed):zn ops (listed.setIfInBounds j true):=by
  intro i o ho hi e he hb;have up : ∀ x,listed.getD x false=true->(listed.setIfInBounds j true).getD x false=true:=by
    intro x hx;rw [aO] at hx ⊢;rw [Array.getElem?_setIfInBounds];split
    .rename_i h;subst h;split
     .rfl
     .rename_i h2; rw [Array.getElem?_eq_none (by omega)] at hx; simp at hx
    .exact hx
  by_cases hij:i=j
  .subst hij;obtain ⟨_,oj,hoj,hall⟩:=mem_ready.1 hj;rw [hoj] at ho; cases ho;exact up _ (hall e he hb)
  .have:(listed.setIfInBounds j true).getD i true=listed.getD i true:=by
     rw [aO,aO,Array.getElem?_setIfInBounds,if_neg (fun h=>hij h.symm)]
   rw [this] at hi;exact up _ (hc i o ho hi e he hb)
theorem jfg {i:Nat} {oi:CO} {v:V} (hi:cs[i]? = some oi) (hlen:cs.length=ops.size) :
    ∀ (fuel:Nat) (listed:Array Bool) (τ:Ff) (S S1:Store),zn ops listed ->
      (∀ j oj,cs[j]? = some oj->j≠i->listed.getD j true=false->(∀ M,Jm ops i M j=false)->oi.apart oj=true/\(isRd Z.es oi=true\/isRd Z.es oj=true)) ->
      i∈Region.ready .any ops listed->jbT P Z oi v τ S S1->anyZ P Z ops cs Q fuel (listed.setIfInBounds i true) (τ.put oi.dst v) S1->anyZ P Z ops cs Q (fuel+1) listed τ S:=by
  intro fuel
  induction fuel with
  | zero =>
    intro listed τ S S1 hcl _ hr hy H;refine ⟨fun h=>(by rw [h] at hr; cases hr),fun j hj => ?_⟩;by_cases hji:j=i
    .subst hji;simp only [atZ,hi];exact JA.2 ⟨v,S1,hy,H⟩
    .have:=ready_mono hj hji;rw [H.1] at this;cases this
  | succ fuel ih =>
    intro listed τ S S1 hcl hfree hr hy H;refine ⟨fun h=>(by rw [h] at hr; cases hr),fun j hj => ?_⟩;by_cases hji:j=i
    .subst hji;simp only [atZ,hi];exact JA.2 ⟨v,S1,hy,H⟩
    .have h1:=H.2 j (ready_mono hj hji);obtain ⟨hjun,oj',hoj',hall⟩:=mem_ready.1 hj;have hjlt:j<cs.length:=by rw [hlen]; exact (Array.getElem?_eq_some_iff.1 hoj').1
     have hoj:cs[j]? = some cs[j]:=aa hjlt;generalize cs[j]=oj at hoj;have hnw : ∀ M,Jm ops i M j=false:=by
       intro M;cases hw:Jm ops i M j with
       | false=>rfl
       | true =>
         have h1:=Yt hcl hj hw;have h0:=(mem_ready.1 hr).1;rcases bc i listed.size with h' | h'
         .simp [h'] at h0 h1; rw [h0] at h1; cases h1
         .simp [Array.getElem?_eq_none h'] at h1
     obtain ⟨hap,hrr⟩:=hfree j oj hoj hji hjun hnw;obtain ⟨a1,a2,a3⟩:=CO.apart_spec hap;simp only [atZ,hoj] at h1 ⊢;rw [JA] at h1 ⊢;obtain ⟨u,S2,hu,hn⟩:=h1;rw [jbf a1] at hu;have hfree' : ∀ k ok,cs[k]? = some ok->k≠i->(listed.setIfInBounds j true).getD k true=false->(∀ M,Jm ops i M k=false)->oi.apart ok=true/\(isRd Z.es oi=true\/isRd Z.es ok=true):=fun k ok hk hki hun hno=>by
       refine hfree k ok hk hki ?_ hno;by_cases hjk:j=k
       .subst hjk; exact hjun
       .rw [getD_set_ne true hjk] at hun; exact hun
     have hcl':=JD hcl hj;have hr':=ready_mono hr (Ne.symm hji);rw [Array.setIfInBounds_comm _ _ (Ne.symm hji),Ff.put_comm τ v u a2] at hn;rcases hrr with hri | hrj
     .obtain ⟨rfl,hyS⟩:=jaq hri hy;exact ⟨u,S2,hu,ih _ _ _ _ hcl' hfree' hr' ((jbf a3).2 (hyS S2)) hn⟩
     .obtain ⟨rfl,huS⟩:=jaq hrj hu;exact ⟨u,S,huS S,ih _ _ _ _ hcl' hfree' hr' ((jbf a3).2 hy) hn⟩
def jci (P:Program) (Z:ZZ) (Q:Ff->Store->Prop):List CO->Ff->Store->Prop
  | [],τ,S=>Q τ S
  | o::r,τ,S=>stepZ P Z o (jci P Z Q r) τ S
def lexW (es ms:List Nat) (ops:Array Oper) (cs:List CO):Nat->Nat->Array Bool->Bool
  | 0,_,listed=>(Region.ready .any ops listed).isEmpty
  | n+1,k,listed=>(Region.ready .any ops listed).contains k &&
      (match cs[k]? with
       | some oi=>(List.range cs.length).all fun j=>j==k||listed.getD j true||jbi ms k j||(match cs[j]? with
          | some oj=>oi.apart oj&&(isRd es oi||isRd es oj)
          | none=>true)
       | none=>false)&&lexW es ms ops cs n (k+1) (listed.setIfInBounds k true)
abbrev lexZ:List Nat->Array Oper->List CO->Nat->Nat->Array Bool->Bool:=lexW []
theorem afc (hlen:cs.length=ops.size) : ∀ (l:List CO) (k:Nat) (listed:Array Bool) (τ:Ff) (S:Store),(∀ j,l[j]? = cs[k+j]?)->zn ops listed->lexW Z.es (zX ops) ops cs l.length k listed=true->jci P Z Q l τ S->anyZ P Z ops cs Q l.length listed τ S
  | [],_,_,_,_,_,_,hB,h=>⟨by simpa [lexW] using hB,h⟩
  | o::l,k,listed,τ,S,hl,hcl,hB,h=>by
    have h0:cs[k]? = some o:=by simpa using (hl 0).symm
    simp only [av,lexW,ae,h0] at hB;obtain ⟨⟨hr,hf⟩,hB'⟩:=hB;simp only [jci] at h;rw [JA] at h;obtain ⟨v,S1,hy,hK⟩:=h;have hr':k∈Region.ready .any ops listed:=by simpa using hr
    refine jfg h0 hlen l.length listed τ S S1 hcl (fun j oj hj hne hun hno => ?_) hr' hy (afc hlen l (k+1) _ _ _ (fun j=>by have:=hl (j+1); simpa [Nat.add_assoc,Nat.add_comm 1 j] using this) (JD hcl hr') hB' hK);simp only [ax,List.mem_range] at hf;have h1:=hf j (ab.1 hj).1;have hnm:jbi (zX ops) k j=false:=by
      cases hm:jbi (zX ops) k j with
      | false=>rfl
      | true=>obtain ⟨n,hn⟩:=zK hm; rw [hno n] at hn; cases hn
    simp only [hj,aX,beq_iff_eq,hne,false_or,hun,ay,hnm,ae] at h1;exact h1
end
section
variable {P:Program} {N b:Nat} {Q:Exit->Fr->Store->Prop}
theorem YF {ops:Array Oper} {cs:List CO} (hc:qj P N ops=some cs):cs.length=ops.size /\ ∀ (i:Nat) o,ops[i]? = some o -> ∃ co,cs[i]? = some co/\za P N ops o=some co:=by
  obtain ⟨h1,h2⟩:=jaK hc;refine ⟨by simpa using h1.symm,fun i o ho => ?_⟩;have hi:i<ops.size:=(Array.getElem?_eq_some_iff.1 ho).1;have hi2:i<cs.length:=by rw [<-h1]; simpa using hi
  exact ⟨cs[i],aa hi2,h2 i o cs[i] (by rw [Array.getElem?_toList]; exact ho) (aa hi2)⟩
theorem Kv {ops:Array Oper} {o:Oper} {co:CO} (h:za P N ops o=some co):Wt P o=some co.op/\co.dst=o.dst/\zb ops o.guard=some co.guard /\ ∀ t,o.dst=some t->t<N:=by
  unfold za at h;split at h
  .rename_i c g h1 h2;split at h
   .rename_i hd;cases h;exact ⟨h1,rfl,h2,fun t ht=>by rw [ht] at hd; simpa using hd⟩
   .cases h
  .cases h
theorem jep {ops:Array Oper} {o:Oper} {co:CO} (hg:zb ops o.guard=some co.guard) {σ:Fr} {m:Imm} {β:Objs} {a:Act} (hF:FrameRep N m β σ a) {b:Bool} (h:co.wants σ.lk=some b):Region.wanted o (yielded ops a.tmps)=b:=by
  unfold CO.wants at h;cases hog:o.guard with
  | none =>
    rw [hog] at hg;simp only [zb,ar] at hg;rw [<-hg] at h;simp at h;simp [Region.wanted,hog,h]
  | some jw =>
    obtain ⟨j,want⟩:=jw;rw [hog] at hg;simp only [zb] at hg;split at hg
    .rename_i t ht;cases hg':co.guard with
     | none=>rw [hg'] at hg; cases hg
     | some tw =>
       rw [hg'] at hg h;cases hg;simp only at h;split at h
       .rename_i b' hb';cases h;have hy:=Wv hF ht hb';simp [Region.wanted,hog,hy]
       .rename_i hb';cases h;have hy:=KG hF ht hb';simp [Region.wanted,hog,hy]
       .cases h
    .cases hg
theorem abp {Z S:Store} (hz:Z.Sub S) {σ:Fr} {op:COp} {v:V} (hr:op.reader=true) (h:WJ P Z σ.lk op v):vop P σ S op fun x S'=>x=v/\S'=S:=by
  cases op with
  | call f args=>simp only [WJ,qE] at h; exact h S hz
  | callv f args =>
    simp only [WJ,qE] at h;obtain ⟨g,caps,h1,h2,h3⟩:=h;simp only [vop,h1];exact ⟨h2,h3 S hz⟩
  | _ =>
    first
    | (simp [COp.reader] at hr; done)
    | (simp only [WJ,qE] at h; obtain ⟨Z',h⟩:=h; have:=ZG hz _ hr h; simp only [vop,this]; exact ⟨trivial,trivial⟩)
    | (simp only [WJ,qE] at h; obtain ⟨Z',h⟩:=h; have:=ZG hz _ hr h; simp only [vop,this]; simp)
theorem jfC {Z S:Store} (hz:Z.Shp S) {σ:Fr} {op:COp} {v:V} (hr:op.shape=true) (h:WJ P Z σ.lk op v):vop P σ S op fun x S'=>x=v/\S'=S:=by
  cases op<;>first
    | (simp [COp.shape] at hr; done)
    | (simp only [WJ,qE] at h; obtain ⟨Z',h⟩:=h; have:=jeR hz _ hr h; simp only [vop,this]; simp)
def JW (ms:List Nat) (cs:List CO) (es:List Nat):Bool :=
  (List.range cs.length).all fun i=>match cs[i]? with
    | some oi=>(match oi.dst with | some t => !es.contains t | none=>true)||(List.range cs.length).all fun j=>match cs[j]? with
        | some oj=>isRd es oj||jcs (trnL es oj.dst) oj.op||jbi ms i j
        | none=>true
    | none=>true
theorem ac8 {ops:Array Oper} {cs:List CO} {es:List Nat} (h:JW (zX ops) cs es=true) {i j:Nat} {oi oj:CO} (hi:cs[i]? = some oi) (hj:cs[j]? = some oj) {t:Nat} (ht:oi.dst=some t) (he:es.contains t=true) (h1:isRd es oj=false) (h2:jcs (trnL es oj.dst) oj.op=false) : ∃ n,Jm ops i n j=true:=by
  simp only [JW,ax,List.mem_range] at h;have k:=h i (ab.1 hi).1;simp only [hi,ht,he,Bool.not_true,Bool.false_or,ax,List.mem_range] at k;have k2:=k j (ab.1 hj).1;simp only [hj,h1,h2,Bool.false_or] at k2;exact zK k2
theorem apx {S S':Store} {σ:Fr} {op:COp} {v:V} (hr:op.reader=false) (h:jg (ev σ) S op=some (v,S')):vop P σ S op fun x S2=>x=v/\S2=S':=by
  cases op<;>first | (simp [COp.reader] at hr; done) | (simp only [vop,h]; simp)
theorem amz {es:List Nat} {tn:Bool} {d:Option Nat} {S S':Store} {σ:Fr} {op:COp} {v:V} (hr:jei es d op=false) (h:JE P tn σ.lk S op v S'):vop P σ S op fun x S2=>x=v/\S2=S':=by
  cases op with
  | call f args=>simp only [JE,qE] at h; exact h.2
  | callv f args =>
    simp only [JE,qE] at h;obtain ⟨_,g,caps,h1,h2,h3⟩:=h;simp only [vop,h1];exact ⟨h2,h3⟩
  | _=>first | exact apx hr (by rw [<-qE]; exact h) | (simp [jei,COp.reader] at hr; done)
theorem jcU (s:Nat) : ∀ (n:Nat) (l:List V),l.length=n*s->(∀ x∈l,x.bK=true)->(YK s n l).length=n/\(YK s n l).flatMap V.cells=l /\ ∀ y∈YK s n l,y.cells.length=s/\y.closed=true
  | 0,l,hl,_=>by
    have:l=[]:=aH (by omega);subst this;exact ⟨rfl,rfl,by simp [YK]⟩
  | n+1,l,hl,hc=>by
    have hle:s<=l.length:=by rw [hl,Nat.succ_mul]; omega
    obtain ⟨h1,h2,h3⟩:=jcU s n (l.drop s) (by rw [List.length_drop,hl,Nat.succ_mul]; omega) (fun x hx=>hc x (List.mem_of_mem_drop hx));have key : ∀ y:V,y=(if s=1 then (l.take 1).headD .nils else .agg (l.take s))->y.cells=l.take s/\y.closed=true:=by
      intro y hy;subst hy;by_cases hs:s=1
      .subst hs;cases l with
       | nil=>simp at hle
       | cons x r =>
         have hx:=hc x (by simp);refine ⟨?_, ?_⟩
         .show x.cells=[x]
          cases x<;>first | rfl | simp [V.bK] at hx
         .show x.closed=true;cases x<;>first | exact hx | simp [V.bK] at hx
      .rw [if_neg hs];refine ⟨rfl, ?_⟩;simp only [V.closed,ax];exact fun x hx=>hc x (List.mem_of_mem_take hx)
    obtain ⟨k1,k2⟩:=key _ rfl;refine ⟨by simp [YK,h1], ?_,fun y hy => ?_⟩
    .rw [YK,List.flatMap_cons,k1,h2,List.take_append_drop]
    .rw [YK] at hy;rcases aE.1 hy with rfl | hy
     .exact ⟨by rw [k1,List.length_take,Nat.min_eq_left hle],k2⟩
     .exact h3 y hy
theorem YP {s:Nat} : ∀ {xs:List V} {i j:Nat} {x c:V},(∀ y∈xs,y.cells.length=s/\y.closed=true)->xs[i]? = some x->x.cells[j]? = some c->(xs.flatMap V.cells)[i*s+j]? = some c
  | [],i,j,x,c,_,hx,_=>by simp at hx
  | y::xs,i,j,x,c,h,hx,hj=>by
    have hy:=(h y (by simp)).1;cases i with
    | zero =>
      simp only [aD,ar] at hx;subst hx;have hlt:j<y.cells.length:=(ab.1 hj).1;rw [List.flatMap_cons,Nat.zero_mul,aS,aL hlt]; exact hj
    | succ i =>
      have:=YP (xs:=xs) (s:=s) (i:=i) (j:=j) (c:=c) (fun z hz=>h z (by simp [hz])) (by simpa using hx) hj;rw [List.flatMap_cons,Nat.succ_mul,aV (by omega),hy];rw [show i*s+s+j-s=i*s+j by omega]; exact this
def CO.frz (fs:List Nat) (o:CO):CO :=
  match o.op,o.dst with
  | .buildSlice s len z ps,some t=>if fs.contains t=true then ⟨o.dst,o.guard, .buildList s len z ps⟩ else o
  | _,_=>o
def frzOps (fs:List Nat) (cs:List CO):List CO:=cs.map (CO.frz fs)
theorem CO.frz_cases (fs:List Nat) (o:CO):o.frz fs=o \/ ∃ s len z ps,o.op = .buildSlice s len z ps/\o.frz fs=⟨o.dst,o.guard, .buildList s len z ps⟩:=by
  unfold CO.frz;split
  .rename_i s len z ps t h1 h2;split
   .exact .inr ⟨s,len,z,ps,h1,rfl⟩
   .exact .inl rfl
  .exact .inl rfl
theorem ah0 (cs:List CO):frzOps [] cs=cs:=by
  have : ∀ o:CO,o.frz []=o:=by
    intro o;unfold CO.frz;split
    .simp
    .rfl
  rw [frzOps,aP (g:=id) (fun o _=>this o),List.map_id]
theorem am0 {o:Oper} {s len:Nat} {z:List V} {ps:List (Nat × Nat × Arg)} {σ:Fr} {S S':Store} {v:V} (hc:Wt P o=some (.buildSlice s len z ps)) (he:jg (ev σ) S (.buildList s len z ps)=some (v,S')) {m:Imm} {β:Objs} {w:World} {a:Act} (hS:Holds S m β w) (hF:FrameRep N m β σ a) :
    S'=S/\Does P ((execOp a.eval o).run P w) v S m β w:=by
  simp only [jg] at he;obtain ⟨u,hu,h⟩:=aq.1 he;cases h;refine ⟨rfl, ?_⟩;unfold opList at hu;cases hb:qP (ev σ) (rep0 z len) ps with
  | none=>rw [hb] at hu; cases hu
  | some cs =>
    rw [hb] at hu;simp only at hu;split at hu
    .rename_i hcond;obtain ⟨hl,hcl⟩:=hcond;cases hu;have hcl' : ∀ x∈cs,x.bK=true:=by simpa using hcl
     obtain ⟨val,w1,m1,β1,hr,hx,hS1,hE⟩:=afe hc (by simp only [jg,hb,aW]; rfl) hS hF;obtain ⟨u1,u2,u3⟩:=jcU s len cs hl hcl';have hg:Ghost (.slice S.nx 0 len) (S.add (s,cs)) (.list (YK s len cs)) ((S.add (s,cs)).del S.nx):=by
       refine Ghost.freeze (s:=s) (cells:=cs) (by simp [Store.add]) hcl _ u1 fun i x hx => ?_;obtain ⟨h1,h2⟩:=u3 x (au hx);refine ⟨h1,h2,fun j c hj => ?_⟩;have:=YP u3 hx hj;rw [u2] at this;simpa using this
     obtain ⟨m2,β2,k1,k2,k3⟩:=hg m1 β1 w1 val hS1 hx;have k4:RepI m2 (.list (YK s len cs)) val:=k3.bK rfl;have hget : ∀ o,((S.add (s,cs)).del S.nx).get o=S.get o:=fun o=>by
       simp only [Store.del,Store.add];by_cases e:o=S.nx
       .subst e; simp; exact (hS.gone _ (aT _)).symm
       .simp [e]
     obtain ⟨β3,k5,k6⟩:=al1 hS k1 (hE.trans k2) (Nat.le_succ _) fun o _=>hget o;exact ⟨val,w1,m2,β3,hr, .imm k4,k5,k6⟩
    .cases hu
theorem jbl {o:Oper} {co0 co:CO} {fs:List Nat} (hc:Wt P o=some co0.op) (hco:co=co0.frz fs) (hd : ∀ t,o.dst=some t->t<N) {σ:Fr} {S:Store} {k:V->Store->Prop} (h:vop P σ S co.op k) {m0:Imm} {β0:Objs} {w0:World} {m:Imm} {β:Objs} {w:World} {a:Act}
    (hS:Holds S m β w) (hF:FrameRep N m β σ a) (he:ExtB b m0 β0 w0 m β w) {next:Act->World->Prop} {Q':Exit->Act->World->Prop}
    (hnext : ∀ x S' m' β' w' a',k x S'->Holds S' m' β' w'->FrameRep N m' β' (σ.put o.dst x) a'->ExtB b m0 β0 w0 m' β' w'->next a' w'):o.wp P a w next Q':=by
  rcases CO.frz_cases fs co0 with h0 | ⟨s,len,z,ps,h1,h0⟩
  .rw [hco,h0] at h;exact Wc hc hd h hS hF he hnext
  .rw [hco,h0] at h;rw [h1] at hc;have hev : ∃ x S',jg (ev σ) S (.buildList s len z ps)=some (x,S')/\k x S':=by
     simp only [vop] at h;split at h
     .exact ⟨_,_, ‹_›,h⟩
     .exact h.elim
   obtain ⟨x,S',hx,hk⟩:=hev;obtain ⟨rfl,v,w',m',β',hr,hx',hS',hE⟩:=am0 hc hx hS hF;unfold Oper.wp;have hF':=(hF.ext hE).put o.dst hd hx';rcases hr with hr | ⟨hr,hv⟩
   .rw [hr]; exact hnext _ _ _ _ _ _ hk hS' hF' (he.trans (hE.toB b))
   .rw [hr]; subst hv; exact hnext _ _ _ _ _ _ hk hS' hF' (he.trans (hE.toB b))
theorem agi {ops:Array Oper} {cs cs0:List CO} (hc:qj P N ops=some cs0) (fs:List Nat) (hcs:cs=frzOps fs cs0) {Z:ZZ} (hE:JW (zX ops) cs Z.es=true) {m0:Imm} {β0:Objs} {w0:World} :
    ∀ (fuel:Nat) (listed:Array Bool) (σ:Fr) (S:Store) (m:Imm) (β:Objs) (w:World) (a:Act),anyZ P Z ops cs (fun τ S => ∃ σ':Fr,σ'.lk=τ/\Q .normal σ' S) fuel listed σ.lk S->zn ops listed->Z.ok S ->
      ((∀ j oj,cs[j]? = some oj->listed.getD j false=true->isRd Z.es oj=false->jcs (trnL Z.es oj.dst) oj.op=true)->Z.z0.Sub S) ->
      Holds S m β w->FrameRep N m β σ a->ExtB b m0 β0 w0 m β w->wpAny P .any ops (Post N b Q m0 β0 w0) fuel listed a w:=by
  obtain ⟨hlen0,hat0⟩:=YF hc;have hlen:cs.length=ops.size:=by rw [hcs,frzOps,aB]; exact hlen0
  have fin : ∀ (σ:Fr) (S:Store) (m:Imm) (β:Objs) (w:World) (a:Act),(∃ σ':Fr,σ'.lk=σ.lk/\Q .normal σ' S)->Holds S m β w->FrameRep N m β σ a->ExtB b m0 β0 w0 m β w->Post N b Q m0 β0 w0 .normal a w:=by
    rintro σ S m β w a ⟨σ',h1,h2⟩ hS hF he;exact ⟨σ',S,m,β,h2,hS,⟨hF.size,hF.defers,fun t=>by rw [h1]; exact hF.rep t⟩,he⟩
  intro fuel
  induction fuel with
  | zero=>exact fun listed σ S m β w a h hcl hz h0 hS hF he=>⟨h.1,fin σ S m β w a h.2 hS hF he⟩
  | succ fuel ih =>
    intro listed σ S m β w a h hcl hz h0 hS hF he;refine ⟨fun h0=>fin σ S m β w a (h.1 h0) hS hF he,fun i hi => ?_⟩;have h1:=h.2 i hi;have hcl':=JD hcl hi;obtain ⟨hun,o,ho,_⟩:=mem_ready.1 hi;obtain ⟨co0,hco0,hcomp⟩:=hat0 i o ho;obtain ⟨c1',c2',c3',c4⟩:=Kv hcomp;obtain ⟨co,hco,hce⟩ : ∃ co,cs[i]? = some co/\co=co0.frz fs:=⟨_,by rw [hcs,frzOps,aQ,hco0]; rfl,rfl⟩
    have c2:co.dst=o.dst:=by
      rcases CO.frz_cases fs co0 with h | ⟨_,_,_,_,_,h⟩<;>rw [hce,h]<;>exact c2'
    have c3:zb ops o.guard=some co.guard:=by
      rcases CO.frz_cases fs co0 with h | ⟨_,_,_,_,_,h⟩<;>rw [hce,h]<;>exact c3'
    have sub:(∀ j oj,cs[j]? = some oj->(listed.setIfInBounds i true).getD j false=true->isRd Z.es oj=false->jcs (trnL Z.es oj.dst) oj.op=true) -> ∀ j oj,cs[j]? = some oj->listed.getD j false=true->isRd Z.es oj=false->jcs (trnL Z.es oj.dst) oj.op=true:=by
      intro hh j oj hj hl;refine hh j oj hj ?_;by_cases hji:j=i
      .subst hji;rcases bc j listed.size with h' | h'
       .simp [h']
       .simp [Array.getElem?_eq_none h'] at hl
      .rw [getD_set_ne false (Ne.symm hji)]; exact hl
    simp only [atZ,hco] at h1;simp only [wpOp,ho];unfold stepZ at h1;cases hw:co.wants σ.lk with
    | none=>rw [hw] at h1; exact h1.elim
    | some b =>
      rw [hw] at h1;rw [jep c3 hF hw];cases b with
      | false =>
        simp only at h1;simp only [ay,if_false];rw [c2, <-Jh] at h1;exact ih _ (σ.put o.dst (.tuple [])) S m β w _ h1 hcl' hz (fun hh=>h0 (sub hh)) hS (hF.put o.dst c4 (zR m β)) he
      | true =>
        simp only at h1;simp only [if_true];rcases h1 with ⟨hr,v,hv,hn⟩ | ⟨hr,v,S',hv,hz',hn⟩
        .have hvop:vop P σ S co.op fun x S'=>x=v/\S'=S:=by
           unfold ZZ.rd at hv;split at hv
           .rename_i hea;cases hd:co.dst with
            | none=>rw [hd] at hea; simp [ZZ.early] at hea
            | some t =>
              rw [hd] at hea;refine abp (h0 fun j oj hj hl h1 => ?_) (jdA hr) hv;cases h2:jcs (trnL Z.es oj.dst) oj.op with
              | true=>rfl
              | false =>
                obtain ⟨nw,hwt⟩:=ac8 hE hco hj hd hea h1 h2;have:=YU hcl _ _ hwt hl;rcases bc i listed.size with h' | h'
                .simp [h'] at hun this; rw [hun] at this; cases this
                .simp [Array.getElem?_eq_none h'] at this
           .split at hv
            .rename_i hsh;exact jfC hz.2 hsh hv
            .exact abp hz.1 (jdA hr) hv
         refine .inl (jbl c1' hce c4 hvop hS hF he ?_);rintro x S1 m' β' w' a' ⟨rfl,rfl⟩ k2 k3 k4;rw [c2, <-Jh] at hn;exact ih _ _ _ m' β' w' a' hn hcl' hz (fun hh=>h0 (sub hh)) k2 k3 k4
        .refine .inl (jbl c1' hce c4 (amz hr hv) hS hF he ?_);rintro x S1 m' β' w' a' ⟨rfl,rfl⟩ k2 k3 k4;rw [c2, <-Jh] at hn;refine ih _ _ _ m' β' w' a' hn hcl' hz' (fun hh => ?_) k2 k3 k4;have hi0:(listed.setIfInBounds i true).getD i false=true:=by
           have:i<listed.size:=by
             rcases bc i listed.size with h' | h'
             .exact h'
             .simp [Array.getElem?_eq_none h'] at hun
           simp [this]
         have had:=hh i co hco hi0 hr;intro o' c' hc';exact ah7 (hS.gone _ (aT _)) had hv o' c' (h0 (sub hh) o' c' hc')
theorem jbR {ops:Array Oper} {cs:List CO} (hc:qj P N ops=some cs) {Z:ZZ} (hE:JW (zX ops) cs Z.es=true) {m0:Imm} {β0:Objs} {w0:World} :
    ∀ (fuel:Nat) (listed:Array Bool) (σ:Fr) (S:Store) (m:Imm) (β:Objs) (w:World) (a:Act),anyZ P Z ops cs (fun τ S => ∃ σ':Fr,σ'.lk=τ/\Q .normal σ' S) fuel listed σ.lk S->zn ops listed->Z.ok S ->
      ((∀ j oj,cs[j]? = some oj->listed.getD j false=true->isRd Z.es oj=false->jcs (trnL Z.es oj.dst) oj.op=true)->Z.z0.Sub S) ->
      Holds S m β w->FrameRep N m β σ a->ExtB b m0 β0 w0 m β w->wpAny P .any ops (Post N b Q m0 β0 w0) fuel listed a w:=agi hc [] (ah0 cs).symm hE
theorem jeb {id:Nat} {ops:Array Oper} {cs:List CO} {σ:Fr} {S:Store} {Z:ZZ} (hm:P.follows .mixedOrders=true) (hc:qj P N ops=some cs) (hB:lexW Z.es (zX ops) ops cs cs.length 0 (Array.replicate ops.size false)=true) (hE:JW (zX ops) cs Z.es=true) (hz:Z.ok S) (h0:Z.z0.Sub S)
    (h:jci P Z (fun τ S => ∃ σ':Fr,σ'.lk=τ/\Q .normal σ' S) cs σ.lk S):VWp P N b (.region id ops true) Q σ S:=by
  intro m β w a hS hF;obtain ⟨hlen,_⟩:=YF hc;refine wp_region_any hm ?_;have hcl:zn ops (Array.replicate ops.size false):=by
    intro i o ho hi;have:i<ops.size:=(Array.getElem?_eq_some_iff.1 ho).1;simp [this] at hi
  have:=afc (P:=P) (Z:=Z) hlen cs 0 (Array.replicate ops.size false) σ.lk S (by simp) hcl hB h;rw [hlen] at this;exact jbR hc hE ops.size _ σ S m β _ a this hcl hz (fun _=>h0) hS.drew hF ((Ext.drew m β w).toB b)
def rd (z:Option ZZ) (d:Option Nat) (op:COp) (S:Store):Store:=match z with | none=>S | some z=>z.rd d op
def subZ (z:Option ZZ) (S:Store):Prop:=match z with | none=>True | some Z=>Z.ok S
def jcS (P:Program) (z:Option ZZ) (d:Option Nat) (f:FuncId) (args:List V) (S:Store) (k:V->Store->Prop):Prop :=
  match z with
  | none=>VCalls P f args S k
  | some z=>if wrcL z.es d=true then ∃ X S',(trnL z.es d=true\/S.Sub S')/\VCalls P f args S (fun r T=>r=X/\T=S')/\z.ok S'/\k X S' else ∃ X,VPureZ P (if z.early d=true then z.z0 else z.zc) f args X/\k X S
def vopG (P:Program) (z:Option ZZ) (σ:Fr) (S:Store) (d:Option Nat) (op:COp) (k:V->Store->Prop):Prop :=
  match op with
  | .call f args=>jcS P z d f (args.map (ev σ)) S k
  | .callv f args=>match ev σ f with
    | .func g caps=>jE P g=true/\jcS P z d g (args.map (ev σ)++caps) S k
    | _=>False
  | op=>if op.reader=true then match jg (ev σ) (rd z d op S) op with
      | some (v,_)=>k v S
      | none=>False
    else match jg (ev σ) S op with
      | some (v,S')=>subZ z S'/\k v S'
      | none=>False
def qy (P:Program) (z:Option ZZ):List CO->(Fr->Store->Prop)->Fr->Store->Prop
  | [],K,σ,S=>K σ S
  | o::r,K,σ,S=>match o.guard with
    | none=>vopG P z σ S o.dst o.op fun v S'=>qy P z r K (σ.put o.dst v) S'
    | some (t,want)=>match σ.lk t with
      | .bool b=>if b=want then vopG P z σ S o.dst o.op fun v S'=>qy P z r K (σ.put o.dst v) S' else qy P z r K (σ.put o.dst (.tuple [])) S
      | .tuple []=>qy P z r K (σ.put o.dst (.tuple [])) S
      | _=>False
theorem abz {σ:Fr} {S:Store} {d:Option Nat} {op:COp} {k k':V->Store->Prop} (hk : ∀ v S,k v S->k' v S) (h:vopG P none σ S d op k):vop P σ S op k':=by
  cases op with
  | call f args=>exact VCalls.mono h hk
  | callv f args =>
    simp only [vopG,vop] at h ⊢;split at h
    .rename_i g caps hg; simp only [hg]; exact ⟨h.1,VCalls.mono h.2 hk⟩
    .exact h.elim
  | _ =>
    simp only [vopG,COp.reader,if_true,ay,if_false,rd] at h;simp only [vop];split at h
    .rename_i v S' hv
     first
     | (rw [hv]; exact hk _ _ h.2)
     | (have:=ZG (fun _ _ h=>h) _ rfl hv; rw [this]; exact hk _ _ h)
    .exact h.elim
theorem WV {K:Fr->Store->Prop} : ∀ (cs:List CO) (σ:Fr) (S:Store),qy P none cs K σ S->vseg P cs K σ S
  | [],σ,S,h=>h
  | o::r,σ,S,h=>by
    simp only [qy,vseg] at h ⊢;split
    .rename_i hg; simp only [hg] at h; exact abz (fun v S' h=>WV r _ _ h) h
    .rename_i t want hg;simp only [hg] at h;split
     .rename_i b hb;simp only [hb] at h;split
      .rename_i hbw; rw [if_pos hbw] at h; exact abz (fun v S' h=>WV r _ _ h) h
      .rename_i hbw; rw [if_neg hbw] at h; exact WV r _ _ h
     .rename_i hb; simp only [hb] at h; exact WV r _ _ h
     .split at h<;>first | contradiction | exact h.elim | (simp_all; done)
theorem ani {Z:ZZ} {σ:Fr} {S:Store} {op:COp} {k:V->Store->Prop} {next:Ff->Store->Prop} {d:Option Nat} (hk : ∀ v S,k v S->next (Ff.put σ.lk d v) S) (h:vopG P (some Z) σ S d op k) :
    (jei Z.es d op=true /\ ∃ v,WJ P (Z.rd d op) σ.lk op v/\next (Ff.put σ.lk d v) S)\/(jei Z.es d op=false /\ ∃ v S',JE P (trnL Z.es d) σ.lk S op v S'/\Z.ok S'/\next (Ff.put σ.lk d v) S'):=by
  cases op with
  | call f args =>
    simp only [vopG,jcS] at h;by_cases hw:wrcL Z.es d=true
    .rw [if_pos hw] at h;obtain ⟨X,S',h4,h1,h2,h3⟩:=h;exact .inr ⟨by simp [jei,hw],X,S',by simp only [JE,qE]; exact ⟨h4,h1⟩,h2,hk _ _ h3⟩
    .rw [if_neg hw] at h;obtain ⟨X,h1,h2⟩:=h;exact .inl ⟨by simp [jei,hw],X,by simpa only [WJ,qE,ZZ.rd,COp.shape,ay,if_false] using h1,hk _ _ h2⟩
  | callv f args =>
    simp only [vopG] at h;split at h
    .rename_i g caps hg;obtain ⟨h0,h⟩:=h;simp only [jcS] at h;by_cases hw:wrcL Z.es d=true
     .rw [if_pos hw] at h;obtain ⟨X,S',h4,h1,h2,h3⟩:=h;exact .inr ⟨by simp [jei,hw],X,S',by simp only [JE,qE]; exact ⟨h4,g,caps,hg,h0,h1⟩,h2,hk _ _ h3⟩
     .rw [if_neg hw] at h;obtain ⟨X,h1,h2⟩:=h;exact .inl ⟨by simp [jei,hw],X,by simp only [WJ,qE,ZZ.rd,COp.shape,ay,if_false]; exact ⟨g,caps,hg,h0,h1⟩,hk _ _ h2⟩
    .exact h.elim
  | _ =>
    simp only [vopG,COp.reader,if_true,ay,if_false,rd] at h;split at h
    .rename_i v S' hv
     first
     | exact .inl ⟨rfl,v,by simp only [WJ,qE]; exact ⟨_,hv⟩,hk _ _ h⟩
     | exact .inr ⟨rfl,v,S',by simp only [JE]; rw [qE]; exact hv,h.1,hk _ _ h.2⟩
    .exact h.elim
theorem KT {Z:ZZ} {K:Fr->Store->Prop} : ∀ (cs:List CO) (σ:Fr) (S:Store),qy P (some Z) cs K σ S->jci P Z (fun τ S => ∃ σ':Fr,σ'.lk=τ/\K σ' S) cs σ.lk S
  | [],σ,S,h=>⟨σ,rfl,h⟩
  | o::r,σ,S,h=>by
    simp only [qy] at h;simp only [jci,stepZ,CO.wants];have run:vopG P (some Z) σ S o.dst o.op (fun v S'=>qy P (some Z) r K (σ.put o.dst v) S')->_:=fun h=>ani (next:=jci P Z (fun τ S => ∃ σ':Fr,σ'.lk=τ/\K σ' S) r) (d:=o.dst) (fun v S' h=>by rw [<-Jh]; exact KT r _ _ h) h;cases hg:o.guard with
    | none=>simp only [hg] at h; exact run h
    | some tw =>
      obtain ⟨t,want⟩:=tw;simp only [hg] at h;simp only;cases hv:σ.lk t with
      | bool b =>
        simp only [hv] at h;split at h
        .rename_i hbw;simp only [hbw,beq_self_eq_true];exact run h
        .rename_i hbw;have:(b==want)=false:=by simpa using hbw
         simp only [this];rw [<-Jh]; exact KT r _ _ h
      | tuple xs =>
        cases xs with
        | nil=>simp only [hv] at h; simp only; rw [<-Jh]; exact KT r _ _ h
        | cons=>simp only [hv] at h
      | _=>simp only [hv] at h
end
end Go.Vw
