import Derived.Test.YtjkfgakbijjegaaGreatC8
/- Part of the proof. -/
set_option linter.unusedVariables false
set_option linter.unusedSimpArgs false
set_option maxRecDepth 10000
set_option maxHeartbeats 4000000
namespace Go.Vw
open Go.RowKit
def Store.SubJ (Z S:Store):Prop := ∀ o c,Z.get o=some c -> ∃ c',S.get o=some c'/\c'.1=c.1/\c'.2.length=c.2.length /\ ∀ (i:Nat) x,c.2[i]? = some x->x = .junk\/c'.2[i]? = some x
theorem afv {Z S:Store} (hz:Z.SubJ S) {sz:Option Nat} {x v:V} (h:jl sz Z x=some v):Jk sz S x=some v:=by
 simp only [jl] at h;split at h
 .rename_i v' hv;split at h
  .rename_i hn;cases h;cases x with
   | ptr o off =>
    simp only [Jk] at hv ⊢;cases hc:Z.get o with
    | none=>simp [hc] at hv
    | some c =>
     obtain ⟨c',e1,e2,e3,e4⟩:=hz o c hc;rw [hc] at hv;rw [e1];simp only at hv ⊢;cases sz with
     | none =>
      simp only [jcm] at hv ⊢;rcases e4 off v hv with rfl | h
      .simp [V.nj,V.cells,V.nj1] at hn
      .exact h
     | some n =>
      simp only [jcm] at hv ⊢;split at hv
      .rename_i hle;rw [if_pos (by omega)];cases hv
       congr 2
       refine List.ext_getElem? fun i => ?_;simp only [V.nj,V.cells,ax] at hn;by_cases hi:i<n
       .rw [List.getElem?_take,if_pos hi,List.getElem?_take,if_pos hi,List.getElem?_drop,List.getElem?_drop];have hlt:off+i<c.2.length:=by omega
        have hg:c.2[off+i]? = some c.2[off+i]:=aa hlt;rcases e4 (off+i) _ hg with h | h
        .exfalso
         have:=hn c.2[off+i] (au (i:=i) (by rw [List.getElem?_take,if_pos hi,List.getElem?_drop]; exact hg));rw [h] at this;simp [V.nj1] at this
        .rw [h,hg]
       .rw [List.getElem?_take,if_neg hi,List.getElem?_take,if_neg hi]
      .cases hv
   | _=>exact hv
  .cases h
 .cases h
def CO.tr (fz:List Nat) (o:CO):CO :=
 match o.op,o.dst with
 | .load sz x,_=>⟨o.dst,o.guard, .loadJ sz x⟩
 | .buildSlice s len z ps,some t=>if fz.contains t=true then ⟨o.dst,o.guard, .buildList s len z ps⟩ else o
 | _,_=>o
theorem CO.tr_cases (fz:List Nat) (o:CO):o.tr fz=o\/(∃ sz x,o.op = .load sz x/\o.tr fz=⟨o.dst,o.guard, .loadJ sz x⟩) \/ ∃ s len z ps,o.op = .buildSlice s len z ps/\o.tr fz=⟨o.dst,o.guard, .buildList s len z ps⟩:=by
 unfold CO.tr;split
 .rename_i sz x h; exact .inr (.inl ⟨sz,x,h,rfl⟩)
 .rename_i s len z ps t h1 h2;split
  .exact .inr (.inr ⟨s,len,z,ps,h1,rfl⟩)
  .exact .inl rfl
 .exact .inl rfl
structure ZX where
 zc:Store
 zs:Store
 B:Store
 ks:List Nat
 n0:Nat
 /-- Is the last free to leave a store that is not of this kind (all others being waited for)? -/
 lx:Bool
structure ZX.ok (Z:ZX) (S:Store):Prop where
 c:Z.zc.SubJ S
 s:Z.zs.Shp S
 i:Kept Z.B Z.ks S
 n:Z.n0<=S.nx
structure ZX.old (Z:ZX):Prop where
 c : ∀ o d,Z.zc.get o=some d->o<Z.n0
 s : ∀ o d,Z.zs.get o=some d->o<Z.n0
 b:Z.B.nx<=Z.n0
def isX (fs:List Nat) (o:CO):Bool:=match o.op,o.dst with
 | .call _ _,some t | .callv _ _,some t=>fs.contains t
 | _,_=>false
def COp.mild:COp->Bool
 | .load _ _ | .lookup .. | .lookup2 .. | .markS _=>false
 | op=>op.reader
def isRx (fs:List Nat) (o:CO):Bool:=match o.op with
 | .call _ _ | .callv _ _ => !isX fs o
 | op=>op.mild
section
variable (P:Program) (Z:ZX) (E:EP)
def callU (g:FuncId) (aZZ:List V) (S:Store) (k:V->Store->Prop):Prop :=
 ∃ us:Ups,HasU S us/\(∀ q∈qS us,q<Z.n0)/\(qS us).Nodup /\
  ((∃ us' v,qS us'=qS us/\(∀ T,HasU T us->Z.ok T->VCalls P g aZZ T fun r U=>r=v/\U=putU T us')/\Z.ok (putU S us')/\k v (putU S us')) \/
   (∀ T,HasU T us->Z.ok T->VCallsX P g aZZ T (fun _ _=>False) E))
def jel (g:FuncId) (aZZ:List V) (S:Store) (k:V->Store->Prop):Prop :=
 callU P Z E g aZZ S k\/(S.nx=Z.n0/\VCallsX P g aZZ S (fun v S'=>Z.ok S'/\k v S') E)
def jae (op:COp):Store:=if op.shape=true then Z.zs else Z.zc
def rdF (ρ:Arg->V) (op:COp) (v:V):Prop :=
 match op with
 | .call f args=>VPure P f (args.map ρ) v
 | .callv f args => ∃ g caps,ρ f = .func g caps/\jE P g=true/\VPure P g (args.map ρ++caps) v
 | op => ∃ Z',jg ρ (jae Z op) op=some (v,Z')
def xF (ρ:Arg->V) (op:COp) (S:Store) (k:V->Store->Prop):Prop :=
 match op with
 | .call f args=>jel P Z E f (args.map ρ) S k
 | .callv f args=>match ρ f with
  | .func g caps=>jE P g=true/\jel P Z E g (args.map ρ++caps) S k
  | .meth g x=>jE P g=true/\jel P Z E g (x::args.map ρ) S k
  | _=>False
 | _=>False
def runF (fs:List Nat) (ex:Bool) (o:CO) (τ:Ff) (S:Store) (k:V->Store->Prop):Prop :=
 if isX fs o=true then xF P Z E (evf τ) o.op S k
 else if isRx fs o=true then ∃ v,rdF P Z (evf τ) o.op v/\k v S
 else ∃ v S',jg (evf τ) S o.op=some (v,S')/\(ex=true\/Z.ok S')/\k v S'
def KH (fs:List Nat) (ex:Bool) (o:CO) (next:Ff->Store->Prop) (τ:Ff) (S:Store):Prop :=
 match o.wants τ with
 | some true=>runF P Z E fs ex o τ S fun v S'=>next (τ.put o.dst v) S'
 | some false=>next (τ.put o.dst (.tuple [])) S
 | none=>False
def atX (fs:List Nat) (ex:Bool) (cs:List CO) (i:Nat) (next:Ff->Store->Prop) (τ:Ff) (S:Store):Prop :=
 match cs[i]? with
 | some o=>KH P Z E fs ex o next τ S
 | none=>next τ S
def exX (lk:Option Nat) (ops:Array Oper) (listed:Array Bool) (i:Nat):Bool:=lk==some i&&(Region.ready .any ops (listed.setIfInBounds i true)).isEmpty
def anyX (fs:List Nat) (lk:Option Nat) (ops:Array Oper) (cs:List CO) (Q:Ff->Store->Prop):Nat->Array Bool->Ff->Store->Prop
 | 0,listed,τ,S=>Region.ready .any ops listed=[]/\Q τ S
 | n+1,listed,τ,S=>(Region.ready .any ops listed=[]->Q τ S) /\ ∀ i∈Region.ready .any ops listed,atX P Z E fs (exX lk ops listed i) cs i (anyX fs lk ops cs Q n (listed.setIfInBounds i true)) τ S
def walkX (fs:List Nat) (Q:Ff->Store->Prop):List CO->Ff->Store->Prop
 | [],τ,S=>Q τ S
 | o::r,τ,S=>KH P Z E fs (Z.lx&&r.isEmpty) o (walkX fs Q r) τ S
end
section
variable {P:Program} {Z:ZX} {E:EP} {fs:List Nat} {ops:Array Oper} {cs:List CO} {Q:Ff->Store->Prop} {lk:Option Nat} {ex:Bool}
theorem jfb {g:FuncId} {aZZ:List V} {S:Store} {k k':V->Store->Prop} (h : ∀ v S,k v S->k' v S) (hc:jel P Z E g aZZ S k):jel P Z E g aZZ S k':=by
 rcases hc with ⟨us,h1,h2,h3,⟨us',v,h4,h5,h6,h7⟩ | h4⟩ | ⟨h1,h2⟩
 .exact .inl ⟨us,h1,h2,h3, .inl ⟨us',v,h4,h5,h6,h _ _ h7⟩⟩
 .exact .inl ⟨us,h1,h2,h3, .inr h4⟩
 .exact .inr ⟨h1,h2.mono (fun _ _ q=>⟨q.1,h _ _ q.2⟩) fun _ _ q=>q⟩
theorem atk {ρ:Arg->V} {op:COp} {S:Store} {k k':V->Store->Prop} (h : ∀ v S,k v S->k' v S) (hc:xF P Z E ρ op S k):xF P Z E ρ op S k':=by
 cases op<;>simp only [xF] at hc ⊢ <;> first | exact jfb h hc | skip
 rename_i f args;cases hf:ρ f<;>rw [hf] at hc<;>simp only at hc ⊢ <;> first | exact ⟨hc.1,jfb h hc.2⟩ | exact hc
theorem jdb {o:CO} {τ:Ff} {S:Store} {k k':V->Store->Prop} (h : ∀ v S,k v S->k' v S) (hr:runF P Z E fs ex o τ S k):runF P Z E fs ex o τ S k':=by
 unfold runF at hr ⊢;split
 .rename_i hx; rw [if_pos hx] at hr; exact atk h hr
 .rename_i hx;rw [if_neg hx] at hr;split
  .rename_i hy; rw [if_pos hy] at hr; obtain ⟨v,h1,h2⟩:=hr; exact ⟨v,h1,h _ _ h2⟩
  .rename_i hy; rw [if_neg hy] at hr; obtain ⟨v,S',h1,h2,h3⟩:=hr; exact ⟨v,S',h1,h2,h _ _ h3⟩
theorem jev {o:CO} {K K':Ff->Store->Prop} {τ:Ff} {S:Store} (h : ∀ τ S,K τ S->K' τ S) (hh:KH P Z E fs ex o K τ S):KH P Z E fs ex o K' τ S:=by
 unfold KH at *
 split
 .rename_i hw; simp only [hw] at hh; exact jdb (fun v S=>h _ _) hh
 .rename_i hw; simp only [hw] at hh; exact h _ _ hh
 .rename_i hw; simp only [hw] at hh
theorem jdf {ρ ρ':Arg->V} {op:COp} {v:V} (h : ∀ x∈op.args,ρ x=ρ' x) (hr:rdF P Z ρ op v):rdF P Z ρ' op v:=by
 cases op with
 | call f args =>
  simp only [rdF,COp.args] at h hr ⊢
  rwa [<-aP h]
 | callv f args =>
  simp only [rdF,COp.args,aE,forall_eq_or_imp] at h hr ⊢
  rwa [<-aP h.2, <-h.1]
 | _=>simp only [rdF] at hr ⊢; rwa [<-JK _ h]
theorem aq9 {ρ ρ':Arg->V} {op:COp} {S:Store} {k:V->Store->Prop} (h : ∀ x∈op.args,ρ x=ρ' x) (hr:xF P Z E ρ op S k):xF P Z E ρ' op S k:=by
 cases op with
 | call f args =>
  simp only [xF,COp.args] at h hr ⊢
  rwa [<-aP h]
 | callv f args =>
  simp only [xF,COp.args,aE,forall_eq_or_imp] at h hr ⊢;rw [<-aP h.2, <-h.1];exact hr
 | _=>simp only [xF] at hr
theorem jeA {o:CO} {τ τ':Ff} {S:Store} {k:V->Store->Prop} (h : ∀ x∈o.op.args,evf τ x=evf τ' x) (hr:runF P Z E fs ex o τ S k):runF P Z E fs ex o τ' S k:=by
 unfold runF at hr ⊢;split
 .rename_i hx; rw [if_pos hx] at hr; exact aq9 h hr
 .rename_i hx;rw [if_neg hx] at hr;split
  .rename_i hy; rw [if_pos hy] at hr; obtain ⟨v,h1,h2⟩:=hr; exact ⟨v,jdf h h1,h2⟩
  .rename_i hy; rw [if_neg hy] at hr; obtain ⟨v,S',h1,h2,h3⟩:=hr; exact ⟨v,S',by rw [<-JK _ h]; exact h1,h2,h3⟩
def jbU (P:Program) (Z:ZX) (fs:List Nat) (o:CO) (v:V) (τ:Ff) (S S1:Store):Prop :=
 (o.wants τ=some true/\isX fs o=false/\((isRx fs o=true/\S1=S/\rdF P Z (evf τ) o.op v)\/(isRx fs o=false/\jg (evf τ) S o.op=some (v,S1)/\Z.ok S1)))\/(o.wants τ=some false/\v = .tuple []/\S1=S)
theorem ZV {o:CO} {v:V} {τ:Ff} {S S1:Store} {next:Ff->Store->Prop} (h:jbU P Z fs o v τ S S1) (hn:next (τ.put o.dst v) S1):KH P Z E fs ex o next τ S:=by
 unfold KH;rcases h with ⟨hw,hx,h⟩ | ⟨hw,rfl,rfl⟩
 .rw [hw];simp only;unfold runF;rw [if_neg (by rw [hx]; simp)];rcases h with ⟨h1,rfl,h2⟩ | ⟨h1,h2,h3⟩
  .rw [if_pos h1]; exact ⟨v,h2,hn⟩
  .rw [if_neg (by rw [h1]; simp)]; exact ⟨v,S1,h2, .inr h3,hn⟩
 .rw [hw]; exact hn
theorem jcW {o:CO} {τ:Ff} {S:Store} {next:Ff->Store->Prop} (hx:isX fs o=false) (h:KH P Z E fs false o next τ S) : ∃ v S1,jbU P Z fs o v τ S S1/\next (τ.put o.dst v) S1:=by
 unfold KH at h;split at h
 .rename_i hw;unfold runF at h;rw [if_neg (by rw [hx]; simp)] at h;split at h
  .rename_i hy; obtain ⟨v,h1,h2⟩:=h; exact ⟨v,S, .inl ⟨hw,hx, .inl ⟨hy,rfl,h1⟩⟩,h2⟩
  .rename_i hy; obtain ⟨v,S',h1,h2,h3⟩:=h; exact ⟨v,S', .inl ⟨hw,hx, .inr ⟨by simpa using hy,h1,h2.resolve_left (by decide)⟩⟩,h3⟩
 .rename_i hw; exact ⟨_,_, .inr ⟨hw,rfl,rfl⟩,h⟩
 .exact h.elim
theorem jbg {o:CO} {v u:V} {τ:Ff} {S S1:Store} {d:Option Nat} (h : ∀ t,d=some t->t∉o.looks):jbU P Z fs o v (τ.put d u) S S1↔jbU P Z fs o v τ S S1:=by
 unfold jbU;rw [jat h];have e1:rdF P Z (evf (τ.put d u)) o.op v↔rdF P Z (evf τ) o.op v:=⟨jdf (WO h),jdf fun x hx=>(WO h x hx).symm⟩
 rw [e1,JK (ρ:=evf (τ.put d u)) (ρ':=evf τ) o.op (WO h)]
theorem jar {o:CO} {v:V} {τ:Ff} {S S1:Store} (hr:isRx fs o=true) (h:jbU P Z fs o v τ S S1):S1=S /\ ∀ S',jbU P Z fs o v τ S' S':=by
 rcases h with ⟨h1,hx,⟨h2,rfl,h3⟩ | ⟨h2,_⟩⟩ | ⟨h1,h2,rfl⟩
 .exact ⟨rfl,fun S' => .inl ⟨h1,hx, .inl ⟨h2,rfl,h3⟩⟩⟩
 .rw [hr] at h2; cases h2
 .exact ⟨rfl,fun S' => .inr ⟨h1,h2,rfl⟩⟩
theorem ajv {o:CO} {next next':Ff->Store->Prop} {τ:Ff} {u:V} {S:Store} {d:Option Nat} (h : ∀ t,d=some t->t∉o.looks) (hn : ∀ v S',next ((τ.put d u).put o.dst v) S'->next' (τ.put o.dst v) S') (hs:KH P Z E fs ex o next (τ.put d u) S):KH P Z E fs ex o next' τ S:=by
 unfold KH at hs ⊢;rw [jat h] at hs;split
 .rename_i hw;rw [hw] at hs;exact jdb (fun v S' hh=>hn v S' hh) (jeA (WO h) hs)
 .rename_i hw;rw [hw] at hs;exact hn _ _ hs
 .rename_i hw; rw [hw] at hs; exact hs
theorem Store.add_get_lt {S:Store} {c:Nat × List V} {o:Nat} (h:o<S.nx):(S.add c).get o=S.get o:=by rw [jdY,if_neg (by omega)]
theorem aq5 {S:Store} {c:Nat × List V} {us:Ups} (h : ∀ q∈qS us,q<S.nx):putU (S.add c) us=(putU S us).add c:=by
 induction us generalizing S with
 | nil=>rfl
 | cons p r ih =>
  obtain ⟨o,d⟩:=p;simp only [putU];have ho:o<S.nx:=h o (by simp [qS]);have e:(S.add c).upd o d=(S.upd o d).add c:=by
   refine Store.eq_of (fun o' => ?_) rfl;rw [jQ,jdY,jdY,jQ];show (if o'=o then some d else if o'=S.nx then some c else S.get o')=if o'=S.nx then some c else if o'=o then some d else S.get o'
   by_cases h1:o'=o
   .rw [if_pos h1,if_neg (by omega),if_pos h1]
   .rw [if_neg h1,if_neg h1]
  rw [e];exact ih fun q hq=>h q (by simp only [qS,List.map_cons,aE] at hq ⊢; exact .inr hq)
theorem ZX.ok_add (ho:Z.old) {S:Store} {c:Nat × List V} (hn:Z.n0<=S.nx) (h:Z.ok (S.add c)):Z.ok S:=by
 refine ⟨fun o d hd => ?_,fun o d hd => ?_,⟨aU ho.b hn,fun o hlt hk => ?_⟩,hn⟩
 .obtain ⟨c',h1,h2⟩:=h.c o d hd;rw [Store.add_get_lt (aK (ho.c o d hd) hn)] at h1;exact ⟨c',h1,h2⟩
 .obtain ⟨c',h1,h2⟩:=h.s o d hd;rw [Store.add_get_lt (aK (ho.s o d hd) hn)] at h1;exact ⟨c',h1,h2⟩
 .rw [<-h.i.2 o hlt hk,Store.add_get_lt (aK hlt (aU ho.b hn))]
theorem aog {ρ:Arg->V} {op:COp} (ha:op.adds=true) {S S1:Store} {v:V} (h:jg ρ S op=some (v,S1)) : ∃ c,S1=S.add c /\ ∀ T:Store,T.nx=S.nx->jg ρ T op=some (v,T.add c):=by
 cases op<;>first | (simp [COp.adds] at ha; done) | skip
 case alloc z=>simp only [jg,ar,Prod.mk.injEq] at h; obtain ⟨rfl,rfl⟩:=h; exact ⟨_,rfl,fun T hT=>by simp only [jg,hT]⟩
 case box x =>
  simp only [jg] at h;split at h
  .rename_i hc; simp only [ar,Prod.mk.injEq] at h; obtain ⟨rfl,rfl⟩:=h; exact ⟨_,rfl,fun T hT=>by simp only [jg]; rw [if_pos hc,hT]⟩
  .cases h
 case buildSlice s len z ps =>
  simp only [jg] at h;obtain ⟨cs,hcs,h⟩:=aq.1 h;cases h;exact ⟨_,rfl,fun T hT=>by simp only [jg,hcs,aW,hT]⟩
 case makeSlice s b z l c =>
  simp only [jg] at h ⊢;unfold YN at h;split at h
  .rename_i l' c' e1 e2;split at h
   .rename_i hc;simp only [ar,Prod.mk.injEq] at h;obtain ⟨rfl,rfl⟩:=h;refine ⟨_,rfl,fun T hT => ?_⟩;unfold YN;rw [e1,e2];simp only;rw [if_pos hc,hT]
   .cases h
  .cases h
 case makeMap=>simp only [jg,ar,Prod.mk.injEq] at h; obtain ⟨rfl,rfl⟩:=h; exact ⟨_,rfl,fun T hT=>by simp only [jg,hT]⟩
theorem abo {g:FuncId} {aZZ:List V} {S:Store} {c:Nat × List V} {k k':V->Store->Prop} (ho:Z.old) (hn:Z.n0<=S.nx) (hk : ∀ us' v,Z.ok ((putU S us').add c)->k v ((putU S us').add c)->k' v (putU S us')) (h:jel P Z E g aZZ (S.add c) k):jel P Z E g aZZ S k':=by
 rcases h with ⟨us,h1,h2,h3,hh⟩ | ⟨h1,_⟩
 case inr=>exact absurd h1 (by show ¬ S.nx+1=Z.n0; omega)
 have hs:HasU S us:=fun p hp=>by
  have:=h1 p hp
  rwa [Store.add_get_lt (aK (h2 p.1 (List.mem_map_of_mem (f:=(·.1)) hp)) hn)] at this
 refine .inl ⟨us,hs,h2,h3, ?_⟩;rcases hh with ⟨us',v,h4,h5,h6,h7⟩ | h4
 .rw [aq5 (fun q hq=>aK (h2 q (by rw [<-h4]; exact hq)) hn)] at h6 h7;have hok:Z.ok (putU S us'):=ZX.ok_add ho (by rw [jfD]; exact hn) h6;exact .inl ⟨us',v,h4,h5,hok,hk us' v h6 h7⟩
 .exact .inr h4
theorem amx {o:CO} {next next':Ff->Store->Prop} {τ:Ff} {u:V} {S:Store} {c:Nat × List V} {d:Option Nat} (hx:isX fs o=true) (ho:Z.old) (hn0:Z.n0<=S.nx) (hok:Z.ok (S.add c)) (h : ∀ t,d=some t->t∉o.looks)
  (hn : ∀ v X,X.nx=S.nx->Z.ok (X.add c)->next ((τ.put d u).put o.dst v) (X.add c)->next' (τ.put o.dst v) X) (hs:KH P Z E fs ex o next (τ.put d u) (S.add c)):KH P Z E fs ex o next' τ S:=by
 unfold KH at hs ⊢;rw [jat h] at hs;split
 .rename_i hw;rw [hw] at hs;simp only at hs;have hs':=jeA (WO h) hs;unfold runF at hs' ⊢;rw [if_pos hx] at hs' ⊢;cases hop:o.op<;>rw [hop] at hs'<;>simp only [xF] at hs' ⊢
  .exact abo ho hn0 (fun us' v h1 h2=>hn v _ (jfD S us') h1 h2) hs'
  .rename_i f args;cases hf:evf τ f<;>rw [hf] at hs'<;>simp only at hs' ⊢ <;> first | exact ⟨hs'.1,abo ho hn0 (fun us' v h1 h2=>hn v _ (jfD S us') h1 h2) hs'.2⟩ | exact hs'
 .rename_i hw;rw [hw] at hs;exact hn _ S rfl hok hs
 .rename_i hw; rw [hw] at hs; exact hs
theorem agx {o:CO} {next:Ff->Store->Prop} {τ:Ff} {S:Store} (hn:Z.n0<=S.nx) (h:KH P Z E fs false o next τ S):KH P Z E fs false o (fun τ S=>Z.n0<=S.nx/\next τ S) τ S:=by
 have call : ∀ {g:FuncId} {aZZ:List V} {k:V->Store->Prop},jel P Z E g aZZ S k->jel P Z E g aZZ S fun v S'=>Z.n0<=S'.nx/\k v S':=by
  intro g aZZ k hc;rcases hc with ⟨us,h1,h2,h3,⟨us',v,h4,h5,h6,h7⟩ | h4⟩ | ⟨h1,h2⟩
  .exact .inl ⟨us,h1,h2,h3, .inl ⟨us',v,h4,h5,h6,h6.n,h7⟩⟩
  .exact .inl ⟨us,h1,h2,h3, .inr h4⟩
  .exact .inr ⟨h1,h2.mono (fun _ _ q=>⟨q.1,q.1.n,q.2⟩) fun _ _ q=>q⟩
 unfold KH at *
 split
 .rename_i hw;rw [hw] at h;simp only at h;unfold runF at h ⊢;split
  .rename_i hx;rw [if_pos hx] at h;cases hop:o.op<;>rw [hop] at h<;>simp only [xF] at h ⊢
   .exact call h
   .rename_i f args;cases hf:evf τ f<;>rw [hf] at h<;>simp only at h ⊢ <;> first | exact ⟨h.1,call h.2⟩ | exact h
  .rename_i hx;rw [if_neg hx] at h;split
   .rename_i hy; rw [if_pos hy] at h; obtain ⟨v,h1,h2⟩:=h; exact ⟨v,h1,hn,h2⟩
   .rename_i hy; rw [if_neg hy] at h; obtain ⟨v,S',h1,h2,h3⟩:=h; exact ⟨v,S',h1,h2,(h2.resolve_left (by decide)).n,h3⟩
 .rename_i hw; rw [hw] at h; exact ⟨hn,h⟩
 .rename_i hw; rw [hw] at h; exact h
theorem aca {ex':Bool} {o:CO} {next:Ff->Store->Prop} {τ:Ff} {S:Store} (hx:isX fs o=true) (h:KH P Z E fs ex o next τ S):KH P Z E fs ex' o next τ S:=by
 unfold KH at *
 split
 .rename_i hw;rw [hw] at h;simp only at h;unfold runF at h ⊢;rw [if_pos hx] at h ⊢;exact h
 .rename_i hw; rw [hw] at h; exact h
 .rename_i hw; rw [hw] at h; exact h
def lexX (fs ms:List Nat) (ops:Array Oper) (cs:List CO):List Nat->Array Bool->Bool
 | [],listed=>(Region.ready .any ops listed).isEmpty
 | k::r,listed=>(Region.ready .any ops listed).contains k &&
   (match cs[k]? with
    | some oi=>(List.range cs.length).all fun j=>j==k||listed.getD j true||jbi ms k j||(match cs[j]? with
     | some oj=>oi.apart oj&&(isRx fs oi||(!isX fs oi&&isRx fs oj)||(oi.op.adds&&oi.guard.isNone&&isX fs oj))
     | none=>true)
    | none=>false)&&lexX fs ms ops cs r (listed.setIfInBounds k true)
theorem am5 {o:CO} (h:isRx fs o=true):isX fs o=false:=by
 unfold isRx at h;unfold isX at h ⊢;cases hop:o.op<;>simp only [hop] at h ⊢ <;> cases hd:o.dst<;>simp_all
theorem ari {o:CO} (h:o.op.adds=true):isX fs o=false:=by
 unfold isX;cases hop:o.op<;>rw [hop] at h<;>simp [COp.adds] at h ⊢
theorem ai5 (ho:Z.old) (hlk : ∀ j,lk=some j -> ∀ i,i≠j->i<ops.size -> ∃ M,Jm ops i M j=true) {i:Nat} {oi:CO} {v:V} (hi:cs[i]? = some oi) (hlen:cs.length=ops.size) :
  ∀ (fuel:Nat) (listed:Array Bool) (τ:Ff) (S S1:Store),zn ops listed->Z.n0<=S.nx ->
   (∀ j oj,cs[j]? = some oj->j≠i->listed.getD j true=false->(∀ M,Jm ops i M j=false)->oi.apart oj=true/\(isRx fs oi=true\/isRx fs oj=true\/(oi.op.adds=true/\oi.guard=none/\isX fs oj=true))) ->
   i∈Region.ready .any ops listed->jbU P Z fs oi v τ S S1->anyX P Z E fs lk ops cs Q fuel (listed.setIfInBounds i true) (τ.put oi.dst v) S1->anyX P Z E fs lk ops cs Q (fuel+1) listed τ S:=by
 intro fuel
 induction fuel with
 | zero =>
  intro listed τ S S1 hcl hn _ hr hy H;refine ⟨fun h=>(by rw [h] at hr; cases hr),fun j hj => ?_⟩;by_cases hji:j=i
  .subst hji;simp only [atX,hi];exact ZV hy H
  .have:=ready_mono hj hji;rw [H.1] at this;cases this
 | succ fuel ih =>
  intro listed τ S S1 hcl hn hfree hr hy H;refine ⟨fun h=>(by rw [h] at hr; cases hr),fun j hj => ?_⟩;by_cases hji:j=i
  .subst hji;simp only [atX,hi];exact ZV hy H
  .have h1:=H.2 j (ready_mono hj hji);obtain ⟨hjun,oj',hoj',hall⟩:=mem_ready.1 hj;have hjlt:j<cs.length:=by rw [hlen]; exact (Array.getElem?_eq_some_iff.1 hoj').1
   have hoj:cs[j]? = some cs[j]:=aa hjlt;generalize cs[j]=oj at hoj;have hnw : ∀ M,Jm ops i M j=false:=by
    intro M;cases hw:Jm ops i M j with
    | false=>rfl
    | true =>
     have h1:=Yt hcl hj hw;have h0:=(mem_ready.1 hr).1;rcases bc i listed.size with h' | h'
     .simp [h'] at h0 h1; rw [h0] at h1; cases h1
     .simp [Array.getElem?_eq_none h'] at h1
   obtain ⟨hap,hrr⟩:=hfree j oj hoj hji hjun hnw;obtain ⟨a1,a2,a3⟩:=CO.apart_spec hap;have hex : ∀ L,exX lk ops L j=false:=by
    intro L;unfold exX;cases hl:(lk==some j) with
    | false=>rfl
    | true =>
     obtain ⟨M,hM⟩:=hlk j (eq_of_beq hl) i (Ne.symm hji) (by rw [<-hlen]; exact (ab.1 hi).1);rw [hnw M] at hM; cases hM
   simp only [atX,hoj,hex] at h1 ⊢;have hfree' : ∀ k ok,cs[k]? = some ok->k≠i->(listed.setIfInBounds j true).getD k true=false->(∀ M,Jm ops i M k=false)->oi.apart ok=true/\(isRx fs oi=true\/isRx fs ok=true\/(oi.op.adds=true/\oi.guard=none/\isX fs ok=true)):=fun k ok hk hki hun hno=>by
    refine hfree k ok hk hki ?_ hno;by_cases hjk:j=k
    .subst hjk; exact hjun
    .rw [getD_set_ne true hjk] at hun; exact hun
   have hcl':=JD hcl hj;have hr':=ready_mono hr (Ne.symm hji);have hcomm : ∀ u,(τ.put oi.dst v).put oj.dst u=(τ.put oj.dst u).put oi.dst v:=fun u=>Ff.put_comm τ v u a2;by_cases hri:isRx fs oi=true
   .obtain ⟨rfl,hyS⟩:=jar hri hy;refine ajv (d:=oi.dst) (u:=v) a1 (fun u S' hh => ?_) (agx hn h1);obtain ⟨hn',hh⟩:=hh;rw [Array.setIfInBounds_comm _ _ (Ne.symm hji),hcomm u] at hh;exact ih _ _ S' S' hcl' hn' hfree' hr' ((jbg a3).2 (hyS S')) hh
   .rcases hrr with h | hrj | ⟨had,hgd,hxj⟩
    .exact absurd h hri
    .obtain ⟨u,S2,hu,hnx⟩:=jcW (am5 hrj) h1;obtain ⟨rfl,huS⟩:=jar hrj hu;rw [Array.setIfInBounds_comm _ _ (Ne.symm hji),hcomm u] at hnx;exact ZV ((jbg a1).1 (huS S)) (ih _ _ S S2 hcl' hn hfree' hr' ((jbg a3).2 hy) hnx)
    .have hwt : ∀ τ,oi.wants τ=some true:=fun τ=>by unfold CO.wants; rw [hgd]
     rcases hy with ⟨_,hxi,⟨h2,_⟩ | ⟨h2,hev,hok⟩⟩ | ⟨h2,_⟩
     .exact absurd h2 hri
     .obtain ⟨c,rfl,hany⟩:=aog had hev;refine amx (d:=oi.dst) (u:=v) hxj ho hn hok a1 (fun u X hX hokX hh => ?_) h1;rw [Array.setIfInBounds_comm _ _ (Ne.symm hji),hcomm u] at hh;refine ih _ _ X (X.add c) hcl' (by rw [hX]; exact hn) hfree' hr' (.inl ⟨hwt _,hxi, .inr ⟨h2, ?_,hokX⟩⟩) hh;rw [JK (ρ:=evf (τ.put oj.dst u)) (ρ':=evf τ) oi.op (WO a3)];exact hany X hX
     .rw [hwt] at h2; cases h2
theorem amo {i:Nat} {oi:CO} (hi:cs[i]? = some oi) (hlen:cs.length=ops.size) {fuel:Nat} {listed:Array Bool} {τ:Ff} {S:Store} (hcl:zn ops listed)
  (hfree : ∀ j oj,cs[j]? = some oj->j≠i->listed.getD j true=false->(∀ M,Jm ops i M j=false)->False) (hr:i∈Region.ready .any ops listed)
  (H:KH P Z E fs (exX lk ops listed i) oi (anyX P Z E fs lk ops cs Q fuel (listed.setIfInBounds i true)) τ S):anyX P Z E fs lk ops cs Q (fuel+1) listed τ S:=by
 refine ⟨fun h=>(by rw [h] at hr; cases hr),fun j hj => ?_⟩;by_cases hji:j=i
 .subst hji;simp only [atX,hi];exact H
 .exfalso
  obtain ⟨hjun,oj',hoj',hall⟩:=mem_ready.1 hj;have hjlt:j<cs.length:=by rw [hlen]; exact (Array.getElem?_eq_some_iff.1 hoj').1
  refine hfree j _ (aa hjlt) hji hjun fun M => ?_;cases hw:Jm ops i M j with
  | false=>rfl
  | true =>
   have h1:=Yt hcl hj hw;have h0:=(mem_ready.1 hr).1;rcases bc i listed.size with h' | h'
   .simp [h'] at h0 h1; rw [h0] at h1; cases h1
   .simp [Array.getElem?_eq_none h'] at h1
theorem jbe (ho:Z.old) (hlk : ∀ j,lk=some j -> ∀ i,i≠j->i<ops.size -> ∃ M,Jm ops i M j=true) (hlen:cs.length=ops.size) : ∀ (ord:List Nat) (l:List CO) (listed:Array Bool) (τ:Ff) (S:Store),(∀ n:Nat,l[n]? = (ord[n]?).bind (cs[·]?))->l.length=ord.length->(Z.lx=true -> ∀ k,ord.getLast? = some k->lk=some k)->zn ops listed->Z.n0<=S.nx->lexX fs (zX ops) ops cs ord listed=true->walkX P Z E fs Q l τ S->anyX P Z E fs lk ops cs Q ord.length listed τ S
 | [],l,listed,τ,S,hl,hll,hL,hcl,hn,hB,h=>by
  have:l=[]:=aH (by simpa using hll);subst this;exact ⟨by simpa [lexX] using hB,h⟩
 | k::ord,l,listed,τ,S,hl,hll,hL,hcl,hn,hB,h=>by
  cases l with
  | nil=>simp at hll
  | cons o l =>
   have h0:cs[k]? = some o:=by simpa using (hl 0).symm
   simp only [lexX,ae,h0] at hB;obtain ⟨⟨hr,hf⟩,hB'⟩:=hB;have hr':k∈Region.ready .any ops listed:=by simpa using hr
   have rest : ∀ τ' S',Z.n0<=S'.nx->walkX P Z E fs Q l τ' S'->anyX P Z E fs lk ops cs Q ord.length (listed.setIfInBounds k true) τ' S':=fun τ' S' hn' hw=>jbe ho hlk hlen ord l _ τ' S' (fun n=>by have:=hl (n+1); simpa using this) (by simpa using hll) (fun hz k' hk'=>hL hz k' (by cases ord with | nil=>cases hk' | cons x y=>rw [List.getLast?_cons_cons]; exact hk')) (JD hcl hr') hn' hB' hw;simp only [ax,List.mem_range] at hf;have hf' : ∀ j oj,cs[j]? = some oj->j≠k->listed.getD j true=false->(∀ M,Jm ops k M j=false)->o.apart oj=true/\(isRx fs o=true\/(isX fs o=false/\isRx fs oj=true)\/(o.op.adds=true/\o.guard=none/\isX fs oj=true)):=by
    intro j oj hj hne hun hno;have h1:=hf j (ab.1 hj).1;have hnm:jbi (zX ops) k j=false:=by
     cases hm:jbi (zX ops) k j with
     | false=>rfl
     | true=>obtain ⟨n,hn⟩:=zK hm; rw [hno n] at hn; cases hn
    simp only [hj,aX,beq_iff_eq,hne,false_or,hun,ay,hnm,ae,Bool.not_eq_true',Option.isNone_iff_eq_none] at h1;obtain ⟨h2,h3⟩:=h1;refine ⟨h2, ?_⟩;rcases h3 with (h3 | h3) | h3
    .exact .inl h3
    .exact .inr (.inl h3)
    .exact .inr (.inr ⟨h3.1.1,h3.1.2,h3.2⟩)
   simp only [walkX] at h;by_cases hx:isX fs o=true
   .refine amo h0 hlen hcl (fun j oj hj hne hun hno => ?_) hr' (aca (ex:=false) hx (jev (fun τ' S' ⟨hn',hw⟩=>rest τ' S' hn' hw) (agx hn (aca hx h))));obtain ⟨_,h1 | h1 | h1⟩:=hf' j oj hj hne hun hno
    .rw [am5 h1] at hx; cases hx
    .rw [h1.1] at hx; cases hx
    .rw [ari h1.1] at hx; cases hx
   .have hx':isX fs o=false:=by simpa using hx
    cases hlx:(Z.lx&&l.isEmpty) with
    | true =>
     simp only [ae] at hlx;have hl0:l=[]:=by simpa using hlx.2
     subst hl0;have ho0:ord=[]:=aH (by simpa using hll.symm);subst ho0;have hk:=hL hlx.1 k rfl;have he:(Region.ready .any ops (listed.setIfInBounds k true)).isEmpty=true:=by simpa [lexX] using hB'
     refine ⟨fun h=>(by rw [h] at hr'; cases hr'),fun j hj => ?_⟩;by_cases hji:j=k
     .subst hji;have hex:exX lk ops listed j=true:=by unfold exX; rw [hk,he]; simp
      simp only [atX,h0,hex];refine jev (fun τ' S' hw => ?_) (by rw [show (Z.lx&&([]:List CO).isEmpty)=true by rw [hlx.1]; rfl] at h; exact h);exact ⟨by simpa using he,hw⟩
     .have:=ready_mono hj hji;rw [show Region.ready .any ops (listed.setIfInBounds k true)=[] by simpa using he] at this;cases this
    | false =>
    rw [hlx] at h;obtain ⟨v,S1,hy,hw⟩:=jcW hx' h;have hn1:Z.n0<=S1.nx:=by
     rcases hy with ⟨_,_,⟨_,rfl,_⟩ | ⟨_,_,h3⟩⟩ | ⟨_,_,rfl⟩
     .exact hn
     .exact h3.n
     .exact hn
    refine ai5 ho hlk h0 hlen ord.length listed τ S S1 hcl hn (fun j oj hj hne hun hno => ?_) hr' hy (rest _ _ hn1 hw);obtain ⟨h1,h2 | h2 | h2⟩:=hf' j oj hj hne hun hno
    .exact ⟨h1, .inl h2⟩
    .exact ⟨h1, .inr (.inl h2.2)⟩
    .exact ⟨h1, .inr (.inr h2)⟩
theorem Store.SubJ.some {Z S:Store} (h:Z.SubJ S) {o:Nat} (ho:(Z.get o).isSome=true):(S.get o).isSome=true:=by
 obtain ⟨c,hc⟩:=Option.isSome_iff_exists.1 ho;obtain ⟨c',hc',_⟩:=h o c hc;rw [hc']; rfl
theorem afz {ρ:Arg->V} {Z S:Store} (hz:Z.SubJ S) {op:COp} (hm:op.mild=true) (hs:op.shape=false) (hl : ∀ sz x,op ≠ .loadJ sz x) {v:V} {Z':Store} (he:jg ρ Z op=some (v,Z')):jg ρ S op=some (v,S):=by
 have fin : ∀ (f:Option V),f.map (fun v=>(v,Z))=some (v,Z')->f.map (fun v=>(v,S))=some (v,S):=by
  intro f h;obtain ⟨u,hu,h⟩:=aq.1 h;cases h;rw [hu]; rfl
 cases op<;>first | (simp [COp.mild,COp.reader] at hm; done) | (simp [COp.shape] at hs; done) | skip
 case move x=>simp only [jg] at he ⊢; cases he; rfl
 case pick c a b=>simp only [jg] at he ⊢; cases hc:ρ c<;>simp only [hc] at he ⊢ <;> first | (cases he; rfl) | cases he
 case build z ps =>
  simp only [jg] at he ⊢;obtain ⟨u,hu,h⟩:=aq.1 he;cases h;rw [hu]; rfl
 case buildList s len z ps=>exact fin _ he
 case makeMeth f x=>simp only [jg] at he ⊢; cases he; rfl
 case iface t x =>
  simp only [jg] at he ⊢;obtain ⟨u,hu,h⟩:=aq.1 he;cases h;rw [hu]; rfl
 case bmax x xs=>exact fin _ he
 case indexV n x i=>exact fin _ he
 case indexS x i=>exact fin _ he
 case aggEq g neg ks x y=>exact fin _ he
 case indexP n s x i =>
  simp only [jg] at he ⊢;obtain ⟨u,hu,h⟩:=aq.1 he;cases h;have:zN n s S (ρ x) (ρ i)=some v:=by
   cases hx:ρ x with
   | ptr o off =>
    cases hi:ρ i with
    | int k j =>
     simp only [hx,hi,zN] at hu ⊢;split at hu
     .rename_i hs; rw [if_pos ⟨hz.some hs.1,hs.2⟩]; exact hu
     .cases hu
    | _=>rw [hx,hi] at hu; exact hu
   | _=>rw [hx] at hu; cases hi:ρ i<;>(rw [hi] at hu; exact hu)
  rw [this]; rfl
 case loadJ sz x=>exact absurd rfl (hl sz x)
 case toStr x=>exact fin _ he
 case seq neg x y=>exact fin _ he
 case beq neg x y=>exact fin _ he
 case bin op x y=>exact fin _ he
 case un op x=>exact fin _ he
 case conv k x=>simp only [jg] at he ⊢; cases hx:ρ x<;>simp only [hx] at he ⊢ <;> first | (cases he; rfl) | cases he
 case makeFunc f cs=>simp only [jg] at he ⊢; cases he; rfl
 case lenS x=>simp only [jg] at he ⊢; cases hx:ρ x<;>simp only [hx] at he ⊢ <;> first | (cases he; rfl) | cases he
 case extract x i=>simp only [jg] at he ⊢; cases hx:ρ x<;>simp only [hx] at he ⊢ <;> first | (cases he; done) | (obtain ⟨u,hu,h⟩:=aq.1 he; cases h; rw [hu]; rfl)
 all_goals (simp [jg] at he)
theorem ai8 {o:Oper} {sz:Option Nat} {x:Arg} (h:Wt P o=some (.loadJ sz x)):False:=by
 unfold Wt at h;split at h
 .rename_i c hi;cases h;unfold jdB at hi
  repeat' (first | (split at hi))
  all_goals (cases hi)
 .split at h
  .rename_i c h1;cases h;unfold jan at h1
   repeat' (first | (split at h1))
   all_goals first
    | (cases h1; done)
    | (obtain ⟨z,hz,hh⟩:=aq.1 h1; cases hh; done)
    | (unfold zu at h1; (repeat' (first | (split at h1))); all_goals (first | (cases h1; done) | (obtain ⟨z,hz,hh⟩:=aq.1 h1; cases hh; done)))
  .unfold Zl at h
   repeat' (first | (split at h))
   all_goals first
    | (cases h; done)
    | (obtain ⟨z,hz,hh⟩:=aq.1 h; cases hh; done)
theorem jeQ {σ:Fr} {S S':Store} {op:COp} {v:V} {k:V->Store->Prop} (hc:op.isCall=false) (h:jg (ev σ) S op=some (v,S')) (hk:k v S'):vop P σ S op k:=by
 cases op<;>first | (simp [COp.isCall] at hc; done) | (simp only [vop,h]; exact hk)
theorem ak3 {op:COp} (hm:op.mild=true) (hx : ∀ f aZZ,op ≠ .call f aZZ) (hy : ∀ f aZZ,op ≠ .callv f aZZ):op.isCall=false:=by
 cases op<;>first | rfl | (simp [COp.mild,COp.reader] at hm; done) | exact absurd rfl (hx _ _) | exact absurd rfl (hy _ _)
variable {N b:Nat} {Qx:Exit->Fr->Store->Prop}
theorem ZK {cs0:List CO} (hc:qj P N ops=some cs0) (fz:List Nat) (hcs:cs=cs0.map (CO.tr fz)) (hQ : ∀ ch σ S,E ch S->Qx (.panic ch) σ S) {m0:Imm} {β0:Objs} {w0:World} :
  ∀ (fuel:Nat) (listed:Array Bool) (σ:Fr) (S:Store) (m:Imm) (β:Objs) (w:World) (a:Act),anyX P Z E fs lk ops cs (fun τ S => ∃ σ':Fr,σ'.lk=τ/\Qx .normal σ' S) fuel listed σ.lk S->Z.ok S ->
   Holds S m β w->FrameRep N m β σ a->ExtB b m0 β0 w0 m β w->wpAny P .any ops (Post N b Qx m0 β0 w0) fuel listed a w:=by
 obtain ⟨hlen0,hat0⟩:=YF hc;have fin : ∀ (σ:Fr) (S:Store) (m:Imm) (β:Objs) (w:World) (a:Act),(∃ σ':Fr,σ'.lk=σ.lk/\Qx .normal σ' S)->Holds S m β w->FrameRep N m β σ a->ExtB b m0 β0 w0 m β w->Post N b Qx m0 β0 w0 .normal a w:=by
  rintro σ S m β w a ⟨σ',h1,h2⟩ hS hF he;exact ⟨σ',S,m,β,h2,hS,⟨hF.size,hF.defers,fun t=>by rw [h1]; exact hF.rep t⟩,he⟩
 intro fuel
 induction fuel with
 | zero=>exact fun listed σ S m β w a h hz hS hF he=>⟨h.1,fin σ S m β w a h.2 hS hF he⟩
 | succ fuel ih =>
  intro listed σ S m β w a h hz hS hF he;refine ⟨fun h0=>fin σ S m β w a (h.1 h0) hS hF he,fun i hi => ?_⟩;have h1:=h.2 i hi;obtain ⟨hun,o,ho,_⟩:=mem_ready.1 hi;obtain ⟨co0,hco0,hcomp⟩:=hat0 i o ho;obtain ⟨c1,c2',c3',c4⟩:=Kv hcomp;obtain ⟨co,hco,hce⟩ : ∃ co,cs[i]? = some co/\co=co0.tr fz:=⟨_,by rw [hcs,aQ,hco0]; rfl,rfl⟩
  have c2:co.dst=o.dst:=by
   rcases CO.tr_cases fz co0 with h | ⟨_,_,_,h⟩ | ⟨_,_,_,_,_,h⟩<;>rw [hce,h]<;>exact c2'
  have c3:zb ops o.guard=some co.guard:=by
   rcases CO.tr_cases fz co0 with h | ⟨_,_,_,h⟩ | ⟨_,_,_,_,_,h⟩<;>rw [hce,h]<;>exact c3'
  simp only [atX,hco] at h1;simp only [wpOp,ho];unfold KH at h1;cases hw:co.wants σ.lk with
  | none=>rw [hw] at h1; exact h1.elim
  | some bb =>
   rw [hw] at h1;rw [jep c3 hF hw];cases bb with
   | false =>
    simp only at h1;simp only [ay,if_false];rw [c2, <-Jh] at h1;exact ih _ (σ.put o.dst (.tuple [])) S m β w _ h1 hz hS (hF.put o.dst c4 (zR m β)) he
   | true =>
    simp only at h1;simp only [if_true];refine .inl ?_;have go : ∀ {k:V->Store->Prop},(∀ x S',k x S'->(Z.ok S'\/exX lk ops listed i=true)/\anyX P Z E fs lk ops cs (fun τ S => ∃ σ':Fr,σ'.lk=τ/\Qx .normal σ' S) fuel (listed.setIfInBounds i true) (Ff.put σ.lk co.dst x) S')->vopX P E σ S co0.op k->o.wp P a w (wpAny P .any ops (Post N b Qx m0 β0 w0) fuel (listed.setIfInBounds i true)) (Post N b Qx m0 β0 w0):=by
     intro k hk hv;refine KU c1 c4 hv hS hF he (fun x S' m' β' w' a' k1 k2 k3 k4 => ?_) (fun ch S' m' β' w' k1 k2 k3 k4=>⟨σ,S',m',β',hQ _ _ _ k1,k2,k3,k4⟩);obtain ⟨q1,q2⟩:=hk x S' k1;rw [c2, <-Jh] at q2;rcases q1 with q1 | q1
     .exact ih _ _ _ m' β' w' a' q2 q1 k2 k3 k4
     .have hrd:Region.ready .any ops (listed.setIfInBounds i true)=[]:=by
       unfold exX at q1;simp only [ae] at q1;simpa using q1.2
      cases fuel with
      | zero=>exact ⟨hrd,fin _ _ _ _ _ _ q2.2 k2 k3 k4⟩
      | succ n=>exact ⟨fun h0=>fin _ _ _ _ _ _ (q2.1 h0) k2 k3 k4,fun i hi=>by rw [hrd] at hi; cases hi⟩
    have goF : ∀ {k:V->Store->Prop},(∀ x S',k x S'->Z.ok S'/\anyX P Z E fs lk ops cs (fun τ S => ∃ σ':Fr,σ'.lk=τ/\Qx .normal σ' S) fuel (listed.setIfInBounds i true) (Ff.put σ.lk co.dst x) S') -> ∀ {co1:CO},co1=co0.frz fz->vop P σ S co1.op k->o.wp P a w (wpAny P .any ops (Post N b Qx m0 β0 w0) fuel (listed.setIfInBounds i true)) (Post N b Qx m0 β0 w0):=by
     intro k hk co1 hco1 hv;refine jbl c1 hco1 c4 hv hS hF he (fun x S' m' β' w' a' k1 k2 k3 k4 => ?_);obtain ⟨q1,q2⟩:=hk x S' k1;rw [c2, <-Jh] at q2;exact ih _ _ _ m' β' w' a' q2 q1 k2 k3 k4
    have toX : ∀ {k:V->Store->Prop},co0.op.isCall=false->vop P σ S co0.op k->vopX P E σ S co0.op k:=by
     intro k hn hv;cases hop:co0.op<;>rw [hop] at hn hv<;>first | (simp [COp.isCall] at hn; done) | exact hv
    unfold runF at h1;have call : ∀ {g:FuncId} {aZZ:List V} {kk:V->Store->Prop},jel P Z E g aZZ S kk->VCallsX P g aZZ S (fun v S'=>Z.ok S'/\kk v S') E:=by
     rintro g aZZ kk (⟨us,q1,q2,q3,⟨us',v,q4,q5,q6,q7⟩ | q4⟩ | ⟨_,q2⟩)
     .exact ((q5 S q1 hz).toX).mono (by rintro x S' ⟨rfl,rfl⟩; exact ⟨q6,q7⟩) fun _ _ h=>h
     .exact (q4 S q1 hz).mono (fun _ _ h=>h.elim) fun _ _ h=>h
     .exact q2
    split at h1
    .rename_i hx;have hop:co.op=co0.op:=by
      rcases CO.tr_cases fz co0 with h | ⟨_,_,_,h⟩ | ⟨_,_,_,_,_,h⟩
      .rw [hce,h]
      .rw [hce,h] at hx; simp [isX] at hx
      .rw [hce,h] at hx; simp [isX] at hx
     rw [hop,qE] at h1;refine go (k:=fun v S'=>Z.ok S'/\_) (fun x S' h=>⟨.inl h.1,h.2⟩) ?_;cases hop2:co0.op<;>rw [hop2] at h1<;>simp only [xF] at h1<;>simp only [vopX]
     .exact call h1
     .rename_i f args;cases hf:ev σ f<;>rw [hf] at h1<;>simp only at h1 ⊢ <;> first | exact ⟨h1.1,call h1.2⟩ | exact h1
    .rename_i hx;split at h1
     .rename_i hy;obtain ⟨v,hv,hn⟩:=h1;rw [qE] at hv;rcases CO.tr_cases fz co0 with h | ⟨sz,x,hop,h⟩ | ⟨s,len,z,ps,hop,h⟩
      .have hop:co.op=co0.op:=by rw [hce,h]
       rw [hop] at hv;refine go (k:=fun u S'=>u=v/\S'=S) (by rintro x S' ⟨rfl,rfl⟩; exact ⟨.inl hz,hn⟩) ?_;unfold isRx at hy;rw [hop] at hy;cases hop2:co0.op
       case call f args =>
        rw [hop2] at hv;simp only [rdF] at hv;exact (hv S).toX
       case callv f args =>
        rw [hop2] at hv;simp only [rdF] at hv;obtain ⟨g,caps,e1,e2,e3⟩:=hv;simp only [vopX,e1];exact ⟨e2,(e3 S).toX⟩
       case loadJ sz x =>
        exfalso
        have:=c1;rw [hop2] at this;exact ai8 this
       all_goals
        rw [<-hop2];have hm:co0.op.mild=true:=by rw [hop2] at hy ⊢; exact hy
        have hnc:co0.op.isCall=false:=ak3 hm (by rw [hop2]; intro f aZZ h; cases h) (by rw [hop2]; intro f aZZ h; cases h);have hv' : ∃ Z',jg (ev σ) (jae Z co0.op) co0.op=some (v,Z'):=by rw [hop2] at hv ⊢; exact hv
        obtain ⟨Z',hv'⟩:=hv';refine toX hnc (jeQ hnc (S':=S) ?_ ⟨rfl,rfl⟩);by_cases hsh:co0.op.shape=true
        .rw [jae,if_pos hsh] at hv'; exact jeR hz.s _ hsh hv'
        .rw [jae,if_neg hsh] at hv'; exact afz hz.c hm (by simpa using hsh) (by rw [hop2]; intro sz x h; cases h) hv'
      .have hop':co.op = .loadJ sz x:=by rw [hce,h]
       rw [hop'] at hv;simp only [rdF,jae,COp.shape,ay,if_false,jg] at hv;obtain ⟨Z',hv⟩:=hv;obtain ⟨u,hu,h2⟩:=aq.1 hv;cases h2;refine go (k:=fun u S'=>u=v/\S'=S) (by rintro x S' ⟨rfl,rfl⟩; exact ⟨.inl hz,hn⟩) ?_;rw [hop];simp only [vopX,jg,afv hz.c hu,aW];exact ⟨trivial,trivial⟩
      .have hop':co.op = .buildList s len z ps:=by rw [hce,h]
       rw [hop'] at hv;simp only [rdF,jg] at hv;obtain ⟨Z',hv⟩:=hv;obtain ⟨u,hu,h2⟩:=aq.1 hv;cases h2;have hfr:co=co0.frz fz:=by
        rw [hce];unfold CO.tr CO.frz at *
        rw [hop] at h ⊢;cases hd:co0.dst<;>simp only
       refine goF (k:=fun u S'=>u=v/\S'=S) (by rintro x S' ⟨rfl,rfl⟩; exact ⟨hz,hn⟩) hfr ?_;rw [hop'];simp only [vop,jg,hu,aW];exact ⟨trivial,trivial⟩
     .rename_i hy;obtain ⟨v,S',hv,hok,hn⟩:=h1;rw [qE] at hv;have hop:co.op=co0.op:=by
       rcases CO.tr_cases fz co0 with h | ⟨_,_,_,h⟩ | ⟨_,_,_,_,_,h⟩
       .rw [hce,h]
       .rw [hce,h] at hy; simp [isRx,COp.mild,COp.reader] at hy
       .rw [hce,h] at hy; simp [isRx,COp.mild,COp.reader] at hy
      rw [hop] at hv;have hnc:co0.op.isCall=false:=by
       cases hop2:co0.op<;>rw [hop2] at hv<;>first | rfl | (simp [jg] at hv)
      refine go (k:=fun u T=>u=v/\T=S') (by rintro x T ⟨rfl,rfl⟩; exact ⟨hok.symm,hn⟩) (toX hnc (jeQ hnc hv ⟨rfl,rfl⟩))
def jfQ (ms:List Nat) (n:Nat):Option Nat->Bool
 | some k=>(List.range n).all fun i=>i==k||jbi ms i k
 | none=>true
theorem an6 {id:Nat} {cs0:List CO} {σ:Fr} {S:Store} (fz:List Nat) (ord:List Nat) (l:List CO) (hQ : ∀ ch σ S,E ch S->Qx (.panic ch) σ S) (hm:P.follows .mixedOrders=true) (hc:qj P N ops=some cs0) (hcs:cs0.map (CO.tr fz)=cs) (hord:ord.length=ops.size) (hl : ∀ n:Nat,l[n]? = (ord[n]?).bind (cs[·]?)) (hll:l.length=ord.length)
  (hB:lexX fs (zX ops) ops cs ord (Array.replicate ops.size false)=true) (hlast:(!Z.lx||jfQ (zX ops) ops.size ord.getLast?)=true) (ho:Z.old) (hz:Z.ok S) (h:walkX P Z E fs (fun τ S => ∃ σ':Fr,σ'.lk=τ/\Qx .normal σ' S) l σ.lk S):VWp P N b (.region id ops true) Qx σ S:=by
 intro m β w a hS hF;obtain ⟨hlen0,_⟩:=YF hc;have hlen:cs.length=ops.size:=by rw [<-hcs,aB]; exact hlen0
 refine wp_region_any hm ?_;have hcl:zn ops (Array.replicate ops.size false):=by
  intro i o ho hi;have:i<ops.size:=(Array.getElem?_eq_some_iff.1 ho).1;simp [this] at hi
 have hlk : ∀ j,(if Z.lx=true then ord.getLast? else none)=some j -> ∀ i,i≠j->i<ops.size -> ∃ M,Jm ops i M j=true:=by
  intro j hj i hij hi;split at hj
  .rename_i hz;rw [hz,hj] at hlast;simp only [jfQ,Bool.not_true,Bool.false_or,ax,List.mem_range,aX,beq_iff_eq] at hlast;exact zK ((hlast i hi).resolve_left hij)
  .cases hj
 have:=jbe (P:=P) (Z:=Z) (E:=E) (lk:=if Z.lx=true then ord.getLast? else none) ho hlk hlen ord l (Array.replicate ops.size false) σ.lk S hl hll (fun hz k hk=>by rw [if_pos hz]; exact hk) hcl hz.n hB h;rw [hord] at this;exact ZK hc fz hcs.symm hQ ops.size _ σ S m β _ a this hz hS.drew hF ((Ext.drew m β w).toB b)
def vopZ (P:Program) (Z:ZX) (E:EP) (fs:List Nat) (ex:Bool) (σ:Fr) (S:Store) (o:CO) (k:V->Store->Prop):Prop :=
 if isX fs o=true then xF P Z E (ev σ) o.op S k
 else if isRx fs o=true then ∃ v,rdF P Z (ev σ) o.op v/\k v S
 else ∃ v S',jg (ev σ) S o.op=some (v,S')/\(ex=true\/Z.ok S')/\k v S'
def zf (P:Program) (Z:ZX) (E:EP) (fs:List Nat):List CO->(Fr->Store->Prop)->Fr->Store->Prop
 | [],K,σ,S=>K σ S
 | o::r,K,σ,S=>match o.wants σ.lk with
  | some true=>vopZ P Z E fs (Z.lx&&r.isEmpty) σ S o fun v S'=>zf P Z E fs r K (σ.put o.dst v) S'
  | some false=>zf P Z E fs r K (σ.put o.dst (.tuple [])) S
  | none=>False
theorem KS {K:Fr->Store->Prop} : ∀ (cs:List CO) (σ:Fr) (S:Store),zf P Z E fs cs K σ S->walkX P Z E fs (fun τ S => ∃ σ':Fr,σ'.lk=τ/\K σ' S) cs σ.lk S
 | [],σ,S,h=>⟨σ,rfl,h⟩
 | o::r,σ,S,h=>by
  simp only [zf] at h;simp only [walkX,KH];cases hw:o.wants σ.lk with
  | none=>rw [hw] at h; exact h.elim
  | some bb =>
   rw [hw] at h;cases bb with
   | true =>
    simp only at h ⊢;have:runF P Z E fs (Z.lx&&r.isEmpty) o σ.lk S fun v S'=>zf P Z E fs r K (σ.put o.dst v) S':=by
     unfold vopZ at h;unfold runF;rw [qE];exact h
    refine jdb (fun v S' hh => ?_) this;rw [<-Jh];exact KS r _ _ hh
   | false =>
    simp only at h ⊢;rw [<-Jh];exact KS r _ _ h
theorem adn {z:Option ZZ} {rest:List CO} {σ':Fr} {S S':Store} : ∀ (cs:List CO) (σ:Fr),runV z cs σ S=some (rest,σ',S')->rest.length<=cs.length:=by
 intro cs
 induction cs generalizing S with
 | nil=>intro σ h; simp only [runV,ar,Prod.mk.injEq] at h; obtain ⟨rfl,_⟩:=h; simp
 | cons o r ih =>
  intro σ h;have go:(if o.op.isCall=true\/(o.op.reader=false/\z.isSome=true) then some (⟨o.dst,none,o.op⟩::r,σ,S) else match jg (ev σ) (if o.op.reader=true then rd z o.dst o.op S else S) o.op with
      | some (v,S')=>runV z r (σ.put o.dst v) (if o.op.reader=true then S else S')
      | none=>none)=some (rest,σ',S')->rest.length<=(o::r).length:=by
   intro h;split at h
   .simp only [ar,Prod.mk.injEq] at h; obtain ⟨rfl,_⟩:=h; simp
   .split at h
    .have:=ih _ h; simp; omega
    .cases h
  simp only [runV] at h;split at h
  .split at h
   .split at h
    .exact go h
    .have:=ih _ h; simp; omega
   .have:=ih _ h; simp; omega
   .cases h
  .exact go h
def zz (Z:ZX) (S:Store):ZZ:=⟨S,Z.zc,Z.zs,[]⟩
def Ze:List CO->List CO->Bool
 | l,rest=>if l.length<=rest.length then true else match l with
  | []=>true
  | o::r=>(o.op.isCall||o.op.mild || !o.op.reader)&&Ze r rest
theorem aw4 (S:Store) (d:Option Nat) (op:COp) (S':Store):rd (some (zz Z S)) d op S'=jae Z op:=by
 unfold rd zz ZZ.rd jae;cases d<;>simp [ZZ.early]
theorem WZ {K:Fr->Store->Prop} {rest:List CO} {σ':Fr} {S S0 S':Store} : ∀ (cs:List CO) (σ:Fr),runV (some (zz Z S0)) cs σ S=some (rest,σ',S')->Ze cs rest=true->zf P Z E fs rest K σ' S'->zf P Z E fs cs K σ S
 | [],σ,h,_,hk=>by simp only [runV,ar,Prod.mk.injEq] at h; obtain ⟨rfl,rfl,rfl⟩:=h; exact hk
 | o::r,σ,h,hm,hk=>by
  have go:(if o.op.isCall=true\/(o.op.reader=false/\(some (zz Z S0)).isSome=true) then some (⟨o.dst,none,o.op⟩::r,σ,S) else match jg (ev σ) (if o.op.reader=true then rd (some (zz Z S0)) o.dst o.op S else S) o.op with
      | some (v,S')=>runV (some (zz Z S0)) r (σ.put o.dst v) (if o.op.reader=true then S else S')
      | none=>none)=some (rest,σ',S')->vopZ P Z E fs (Z.lx&&r.isEmpty) σ S o fun v S'=>zf P Z E fs r K (σ.put o.dst v) S':=by
   intro h;split at h
   .rename_i hc;simp only [ar,Prod.mk.injEq] at h;obtain ⟨rfl,rfl,rfl⟩:=h;simp only [zf,CO.wants] at hk;unfold vopZ at hk ⊢;exact hk
   .rename_i hc;have hr:o.op.reader=true:=by
     cases h2:o.op.reader with
     | true=>rfl
     | false=>exact absurd (.inr ⟨h2,rfl⟩) hc
    have hnc:o.op.isCall=false:=by
     cases h2:o.op.isCall with
     | false=>rfl
     | true=>exact absurd (.inl h2) hc
    simp only [hr,if_true] at h;rw [aw4] at h;split at h
    .rename_i v S1 hv;unfold vopZ;have hx:isX fs o=false:=by
      unfold isX;cases hop:o.op<;>rw [hop] at hnc<;>first | (simp [COp.isCall] at hnc; done) | rfl
     have hlen : ¬ (o::r).length<=rest.length:=by
      intro hle;have:=adn r (σ.put o.dst v) h;simp at hle; omega
     have hmm:o.op.mild=true/\Ze r rest=true:=by
      unfold Ze at hm;rw [if_neg hlen] at hm;simp only [hnc,hr,Bool.false_or,Bool.not_true,Bool.or_false,ae] at hm;exact hm
     have hy:isRx fs o=true:=by
      unfold isRx;cases hop:o.op<;>rw [hop] at hnc hmm<;>first | (simp [COp.isCall] at hnc; done) | exact hmm.1
     rw [if_neg (by rw [hx]; simp),if_pos hy];refine ⟨v, ?_,WZ r _ h hmm.2 hk⟩;cases hop:o.op<;>rw [hop] at hnc hv<;>first | (simp [COp.isCall] at hnc; done) | exact ⟨_,hv⟩
    .cases h
  simp only [runV] at h;simp only [zf,CO.wants];have skip:runV (some (zz Z S0)) r (σ.put o.dst (.tuple [])) S=some (rest,σ',S')->zf P Z E fs r K (σ.put o.dst (.tuple [])) S:=by
   intro h;have hlen : ¬ (o::r).length<=rest.length:=by
    intro hle;have:=adn r (σ.put o.dst (.tuple [])) h;simp at hle; omega
   unfold Ze at hm;rw [if_neg hlen] at hm;simp only [ae] at hm;exact WZ r _ h hm.2 hk
  cases hg:o.guard with
  | none=>simp only [hg] at h; exact go h
  | some tw =>
   obtain ⟨t,want⟩:=tw;simp only [hg] at h;simp only;cases hv:σ.lk t with
   | bool b =>
    simp only [hv] at h;simp only;split at h
    .rename_i hb; subst hb; simp only [beq_self_eq_true]; exact go h
    .rename_i hb;have:(b==want)=false:=by simpa using hb
     simp only [this];exact skip h
   | tuple xs =>
    cases xs with
    | nil=>simp only [hv] at h; simp only; exact skip h
    | cons=>simp only [hv] at h; cases h
   | _=>simp only [hv] at h; cases h
theorem jy {K:Fr->Store->Prop} {σ:Fr} {S:Store} (h:K σ S):zf P Z E fs [] K σ S:=h
theorem jo {K:Fr->Store->Prop} {d:Option Nat} {op:COp} {r:List CO} {σ σ':Fr} {S S':Store} (hr:(op.reader||op.isCall)=false) (h:runV none [⟨d,none,op⟩] σ S=some ([],σ',S')) (hok:Z.ok S') (k:zf P Z E fs r K σ' S'):zf P Z E fs (⟨d,none,op⟩::r) K σ S:=by
 simp only [Bool.or_eq_false_iff] at hr;obtain ⟨h1,h2⟩:=hr;simp only [runV,h1,h2,ay,false_or,if_false,Option.isSome_none,and_false] at h;split at h
 .rename_i v S1 hv;simp only [ar,Prod.mk.injEq,true_and] at h;obtain ⟨rfl,rfl⟩:=h;simp only [zf,CO.wants];unfold vopZ;have hx:isX fs ⟨d,none,op⟩=false:=by
   unfold isX;cases op<;>first | (simp [COp.isCall] at h2; done) | rfl
  have hy:isRx fs ⟨d,none,op⟩=false:=by
   unfold isRx;cases op<;>first | (simp [COp.isCall] at h2; done) | (simp [COp.reader] at h1; done) | rfl
  rw [if_neg (by rw [hx]; simp),if_neg (by rw [hy]; simp)];exact ⟨v,S1,hv, .inr hok,k⟩
 .cases h
theorem zw {K:Fr->Store->Prop} {d:Option Nat} {op:COp} {σ σ':Fr} {S S':Store} (hr:(op.reader||op.isCall)=false) (h:runV none [⟨d,none,op⟩] σ S=some ([],σ',S')) (hlx:Z.lx=true) (k:K σ' S'):zf P Z E fs [⟨d,none,op⟩] K σ S:=by
 simp only [Bool.or_eq_false_iff] at hr;obtain ⟨h1,h2⟩:=hr;simp only [runV,h1,h2,ay,false_or,if_false,Option.isSome_none,and_false] at h;split at h
 .rename_i v S1 hv;simp only [ar,Prod.mk.injEq,true_and] at h;obtain ⟨rfl,rfl⟩:=h;simp only [zf,CO.wants];unfold vopZ;have hx:isX fs ⟨d,none,op⟩=false:=by
   unfold isX;cases op<;>first | (simp [COp.isCall] at h2; done) | rfl
  have hy:isRx fs ⟨d,none,op⟩=false:=by
   unfold isRx;cases op<;>first | (simp [COp.isCall] at h2; done) | (simp [COp.reader] at h1; done) | rfl
  rw [if_neg (by rw [hx]; simp),if_neg (by rw [hy]; simp)];exact ⟨v,S1,hv, .inl (by rw [hlx]; rfl),k⟩
 .cases h
theorem JF {K:Fr->Store->Prop} {t:Nat} {f:FuncId} {args:List Arg} {xs:List V} {X:V} {r:List CO} {σ:Fr} {S:Store} (ha:args.map (ev σ)=xs) (h:VPure P f xs X) (hf:fs.contains t=false) (k:zf P Z E fs r K (σ.set t X) S):zf P Z E fs (⟨some t,none, .call f args⟩::r) K σ S:=by
 simp only [zf,CO.wants];unfold vopZ;rw [if_neg (by simp [isX]; simpa using hf),if_pos (by simp [isRx,isX]; simpa using hf)];exact ⟨X,by simp only [rdF]; rw [ha]; exact h,k⟩
theorem Zo {K:Fr->Store->Prop} {t:Nat} {f:FuncId} {args:List Arg} {xs:List V} {r:List CO} {σ:Fr} {S:Store} (ha:args.map (ev σ)=xs) (hf:fs.contains t=true) (h:callU P Z E f xs S fun v S'=>zf P Z E fs r K (σ.set t v) S'):zf P Z E fs (⟨some t,none, .call f args⟩::r) K σ S:=by
 simp only [zf,CO.wants];unfold vopZ;rw [if_pos (by simp [isX]; simpa using hf)];simp only [xF];rw [ha];exact .inl h
theorem qM {K:Fr->Store->Prop} {t:Nat} {f:FuncId} {args:List Arg} {xs:List V} {r:List CO} {σ:Fr} {S:Store} (ha:args.map (ev σ)=xs) (hf:fs.contains t=true) (hn:S.nx=Z.n0) (h:VCallsX P f xs S (fun v S'=>Z.ok S'/\zf P Z E fs r K (σ.set t v) S') E):zf P Z E fs (⟨some t,none, .call f args⟩::r) K σ S:=by
 simp only [zf,CO.wants];unfold vopZ;rw [if_pos (by simp [isX]; simpa using hf)];simp only [xF];rw [ha];exact .inr ⟨hn,h⟩
theorem Ku {α β:Type} {f:α->Option β} : ∀ {xs:List α} {l:List β},xs.filterMap f=l->l.length=xs.length -> ∀ n:Nat,l[n]? = (xs[n]?).bind f
 | [],l,h,_,n=>by subst h; simp
 | x::xs,l,h,hl,n=>by
  cases hx:f x with
  | none =>
   rw [List.filterMap_cons_none hx] at h;subst h;have:=List.length_filterMap_le f xs;simp only [av] at hl;omega
  | some y =>
   rw [List.filterMap_cons_some hx] at h;subst h;cases n with
   | zero=>simp [hx]
   | succ n =>
    simp only [List.getElem?_cons_succ];exact Ku rfl (by simpa using hl) n
theorem XD {σ σ':Fr} {S S':Store} {c:Code} {cs0 l rest:List CO} {ms:List Nat} (E:EP) (Z:ZX) (fz ord fs:List Nat) (h:Code.kind c=2:=by exact rfl) (hm:P.follows .mixedOrders=true:=by kernel_rfl) (hc:(zX (Code.ops c),qj P N (Code.ops c))=(ms,some cs0):=by (conv=>lhs; reduce)) (hl:ord.filterMap (fun i=>(cs0.map (CO.tr fz))[i]?)=l:=by (conv=>lhs; reduce)) (hll:(l.length==ord.length)=true:=by kernel_rfl) (hQ : ∀ ch σ S,E ch S->Qx (.panic ch) σ S:=by exact fun _ _ _ h=>h)
  (hord:(ord.length==(Code.ops c).size)=true:=by kernel_rfl) (hB:lexX fs ms (Code.ops c) (cs0.map (CO.tr fz)) ord (Array.replicate (Code.ops c).size false)=true:=by kernel_rfl) (hlast:(!Z.lx||jfQ ms (Code.ops c).size ord.getLast?)=true:=by kernel_rfl) (ho:Z.old) (hz:Z.ok S) (r:runV (some (zz Z S)) l σ S=some (rest,σ',S')) (hmm:Ze l rest=true:=by kernel_rfl) (k:zf P Z E fs rest (Qx .normal) σ' S'):VWp P N b c Qx σ S:=by
 cases c with
 | region id ops d =>
  cases d
  .simp [Code.kind] at h
  .simp only [Code.ops,Prod.mk.injEq] at hc hord hB;obtain ⟨rfl,hc⟩:=hc;have hll:=eq_of_beq hll;have hl':=Ku hl hll;exact an6 fz ord l hQ hm hc rfl (by simpa using hord) hl' hll hB hlast ho hz (KS l σ S (WZ l σ r hmm k))
 | _=>simp [Code.kind] at h
theorem ZM {K:Fr->Store->Prop} {σ σ':Fr} {S S':Store} {cs rest:List CO} (r:runV (some (zz Z S)) cs σ S=some (rest,σ',S')) (hmm:Ze cs rest=true:=by kernel_rfl) (k:zf P Z E fs rest K σ' S'):zf P Z E fs cs K σ S:=WZ cs σ r hmm k
end
def jm:List V->List V->Prop
 | [],[]=>True
 | x::xs,y::ys=>(x = .junk\/y=x)/\jm xs ys
 | _,_=>False
def subO:Option (Nat × List V)->Option (Nat × List V)->Prop
 | none,_=>True
 | some c,some c'=>c'.1=c.1/\jm c.2 c'.2
 | some _,none=>False
def WG:Upds->Upds->Prop
 | [],[]=>True
 | (k,c)::r,(k',c')::r'=>k=k'/\subO c c'/\WG r r'
 | _,_=>False
def jW:OL->OL->Prop
 | [],_=>True
 | c::r,c'::r'=>subO c c'/\jW r r'
 | c::r,[]=>False
theorem jax : ∀ {xs ys:List V},jm xs ys->ys.length=xs.length /\ ∀ (i:Nat) x,xs[i]? = some x->x = .junk\/ys[i]? = some x
 | [],[],_=>⟨rfl,by simp⟩
 | [],_::_,h=>h.elim
 | _::_,[],h=>h.elim
 | x::xs,y::ys,h=>by
  obtain ⟨h1,h2⟩:=h;obtain ⟨k1,k2⟩:=jax h2;refine ⟨by simp [k1],fun i z hz => ?_⟩;cases i with
  | zero=>simp at hz; subst hz; rcases h1 with h | h; exact .inl h; exact .inr (by simp [h])
  | succ i=>simpa using k2 i z (by simpa using hz)
theorem abf {c c':Option (Nat × List V)} (h:subO c c') {d:Nat × List V} (hd:c=some d) : ∃ d',c'=some d'/\d'.1=d.1/\d'.2.length=d.2.length /\ ∀ (i:Nat) x,d.2[i]? = some x->x = .junk\/d'.2[i]? = some x:=by
 subst hd;cases c' with
 | none=>exact h.elim
 | some d' =>
  obtain ⟨h1,h2⟩:=h;obtain ⟨h3,h4⟩:=jax h2;exact ⟨d',rfl,h1,h3,h4⟩
theorem jet : ∀ {u u':Upds},WG u u' -> ∀ (o:Nat) (d c:Option (Nat × List V)),(∀ e,d=some e -> ∃ e',d=some e') -> ∀ e,uGet u o d=some e -> ∃ e',uGet u' o d=some e'/\e'.1=e.1/\e'.2.length=e.2.length /\ ∀ (i:Nat) x,e.2[i]? = some x->x = .junk\/e'.2[i]? = some x
 | [],[],_,o,d,_,_,e,he=>⟨e,he,rfl,rfl,fun i x hx => .inr hx⟩
 | [],_::_,h,_,_,_,_,_,_=>h.elim
 | (_,_)::_,[],h,_,_,_,_,_,_=>h.elim
 | (k,c)::r,(k',c')::r',h,o,d,c0,hd,e,he=>by
  obtain ⟨rfl,h2,h3⟩:=h;simp only [uGet] at he ⊢;by_cases hk:o=k
  .rw [if_pos hk] at he ⊢;exact abf h2 he
  .rw [if_neg hk] at he ⊢;exact jet h3 o d c0 hd e he
theorem jeu : ∀ {l l':OL},jW l l' -> ∀ (i:Nat) e,(l[i]?).join=some e -> ∃ e',(l'[i]?).join=some e'/\e'.1=e.1/\e'.2.length=e.2.length /\ ∀ (j:Nat) x,e.2[j]? = some x->x = .junk\/e'.2[j]? = some x
 | [],_,_,i,e,he=>by simp at he
 | _::_,[],h,_,_,_=>h.elim
 | c::r,c'::r',h,i,e,he=>by
  obtain ⟨h1,h2⟩:=h;cases i with
  | zero=>exact abf h1 he
  | succ i=>simpa using jeu h2 i e (by simpa using he)
def Zs (B:Store) (ks:List Nat) (u:Upds) (l:OL):ZX:=⟨St B u l,St B u l,B,ks,lid B.nx l.length,false⟩
def ZX.lastly (Z:ZX):ZX:={ Z with lx:=true }
theorem ZX.lastly_old {Z:ZX} (h:Z.old):Z.lastly.old:=⟨h.c,h.s,h.b⟩
theorem ZX.lastly_ok {Z:ZX} {S:Store} (h:Z.ok S):Z.lastly.ok S:=⟨h.c,h.s,h.i,h.n⟩
theorem KF (B:Store) (ks:List Nat) (u:Upds) (l:OL):(Zs B ks u l).old:=by
 have h : ∀ o d,(St B u l).get o=some d->o<lid B.nx l.length:=by
  intro o d hd;rw [zj] at hd;simp only [lid];split at hd
  .omega
  .cases hx:l[o-B.nx]? with
   | none=>rw [hx] at hd; simp at hd
   | some x=>have:=(ab.1 hx).1; omega
 exact ⟨h,h,by show B.nx<=lid B.nx l.length; simp [lid]⟩
theorem YI {B:Store} {ks:List Nat} {uz u:Upds} {lz l:OL} (hU:WG uz u) (hL:jW lz l) (hk : ∀ p∈u,p.1∈ks) (hn:lz.length<=l.length):(Zs B ks uz lz).ok (St B u l):=by
 have h:(St B uz lz).SubJ (St B u l):=by
  intro o c hc;rw [zj] at hc ⊢;split at hc
  .rename_i ho;rw [if_pos ho];exact jet hU o _ none (fun e h=>⟨e,h⟩) c hc
  .rename_i ho;rw [if_neg ho];exact jeu hL _ c hc
 refine ⟨h,fun o c hc => ?_,jN hk,by show lid B.nx lz.length<=(St B u l).nx; rw [jH]; simp [lid]; omega⟩;obtain ⟨c',h1,h2,_⟩:=h o c hc;exact ⟨c',h1,h2⟩
end Go.Vw
namespace Go.Vw
open Wm
theorem ju {α:Type} (enc:α->V) (xs:List α):(vl enc xs).nj1=true:=rfl
theorem ji (s:Option Nat) (x:Arg):(COp.loadJ s x).shape=false:=rfl
def ZR (S:Store) (ro:Nat) (b:List Nat) (ty im fu pg mo gl ex st da:V) (lz:OL):ZX:=Zs S [ro] [(ro,some (12,[vl vb b, .junk,ty,im,fu,pg,mo,gl,ex,st,da, .junk]))] lz
theorem Ka (S:Store) (ro:Nat) (b:List Nat) (ty im fu pg mo gl ex st da:V) (lz:OL):(ZR S ro b ty im fu pg mo gl ex st da lz).old:=KF _ _ _ _
def JR (z x:V):Prop:=z = .junk\/x=z
theorem zo {S:Store} {ro:Nat} {b:List Nat} {a:Nat} {ty im fu pg mo gl ex st da zty zim zfu zpg zmo zgl zex zst zda:V} {ops:Nat} {lz l:OL} (hj:JR zty ty/\JR zim im/\JR zfu fu/\JR zpg pg/\JR zmo mo/\JR zgl gl/\JR zex ex/\JR zst st/\JR zda da) (hL:jW lz l) (hn:lz.length<=l.length) :
  (ZR S ro b zty zim zfu zpg zmo zgl zex zst zda lz).ok (St S [(ro,some (12,[vl vb b,bI a,ty,im,fu,pg,mo,gl,ex,st,da,bI ops]))] l) :=
 YI ⟨rfl,⟨rfl, .inr rfl, .inl rfl,hj.1,hj.2.1,hj.2.2.1,hj.2.2.2.1,hj.2.2.2.2.1,hj.2.2.2.2.2.1,hj.2.2.2.2.2.2.1,hj.2.2.2.2.2.2.2.1,hj.2.2.2.2.2.2.2.2, .inl rfl,trivial⟩,trivial⟩ hL (by simp) hn
section
variable {α:Type} {P:Program} {f:FuncId} {args:List V} {ro:Nat} {enc:α->V} {p:Rd α} {E:EP} {K:Fr->Store->Prop} {σ:Fr} {t:Nat} {aZZ:List Arg} {r:List CO} {S:Store} {l lz:OL} {b:List Nat} {a:Nat} {ty im fu pg mo gl ex st da zty zim zfu zpg zmo zgl zex zst zda:V} {ops:Nat} {fs:List Nat}
theorem JO (ha:aZZ.map (ev σ)=args) (hf:fs.contains t=true) (hm:RdM P f args ro enc (lift p)) (hl:ro<S.nx) (hj:JR zty ty/\JR zim im/\JR zfu fu/\JR zpg pg/\JR zmo mo/\JR zgl gl/\JR zex ex/\JR zst st/\JR zda da) (hL:jW lz l) (hn:lz.length<=l.length) (herr : ∀ e,p b a = .error e -> ∀ T,Kept S [ro] T->E (jY 46 e) T)
  (H : ∀ x a',p b a = .ok (x,a')->a'<=b.length->zf P (ZR S ro b zty zim zfu zpg zmo zgl zex zst zda lz) E fs r K (σ.set t (enc x)) (St S [(ro,some (12,[vl vb b,bI a',ty,im,fu,pg,mo,gl,ex,st,da,bI ops]))] l)) (hok:RS.ok ⟨b,a,ty,im,fu,pg,mo,gl,ex,st,da,ops⟩:=by exact ⟨by first | assumption | omega,by assumption,by assumption,by first | assumption | omega⟩) :
  zf P (ZR S ro b zty zim zfu zpg zmo zgl zex zst zda lz) E fs (⟨some t,none, .call f aZZ⟩::r) K σ (St S [(ro,some (12,[vl vb b,bI a,ty,im,fu,pg,mo,gl,ex,st,da,bI ops]))] l):=by
 refine Zo ha hf ⟨[(ro,(12,rc ⟨b,a,ty,im,fu,pg,mo,gl,ex,st,da,ops⟩))], ?_, ?_,by simp [qS], ?_⟩
 .intro q hq;simp only [aM] at hq;subst hq;exact old1 hl _ _
 .intro q hq;simp only [qS,List.map_cons,List.map_nil,aM] at hq;subst hq;show q<lid S.nx lz.length;simp only [lid]; omega
 .cases hp:p b a with
  | error e =>
   refine .inr fun T hT hZ => ?_;refine (hm ⟨b,a,ty,im,fu,pg,mo,gl,ex,st,da,ops⟩ T E hok (hT _ List.mem_cons_self) fun e' U he hk => ?_).mono ?_ fun _ _ h=>h
   .simp only [lift] at he;rw [hp] at he;cases he;exact herr e hp U (hZ.i.trans hk)
   .rintro X T' ⟨x,s',hx,_⟩;simp only [lift] at hx;rw [hp] at hx;cases hx
  | ok q =>
   obtain ⟨x,a'⟩:=q;have hpl:lift p ⟨b,a,ty,im,fu,pg,mo,gl,ex,st,da,ops⟩ = .ok (x,⟨b,a',ty,im,fu,pg,mo,gl,ex,st,da,ops⟩):=by simp only [lift]; rw [hp]; rfl
   by_cases ha':a'<=b.length
   .refine .inl ⟨[(ro,(12,rc ⟨b,a',ty,im,fu,pg,mo,gl,ex,st,da,ops⟩))],enc x,rfl,fun T hT _ => ?_, ?_, ?_⟩
    .refine ((hm ⟨b,a,ty,im,fu,pg,mo,gl,ex,st,da,ops⟩ T (fun _ _=>False) hok (hT _ List.mem_cons_self) fun e' U he hk => ?_).mono ?_ fun _ _ h=>h).ok
     .rw [hpl] at he; cases he
     .rintro X T' ⟨y,s',hx,_,h1,h2⟩;rw [hpl] at hx;cases hx;exact ⟨h1,h2⟩
    .show (ZR S ro b zty zim zfu zpg zmo zgl zex zst zda lz).ok ((St S _ l).upd ro _);rw [oldU hl];exact zo hj hL hn
    .show zf _ _ _ _ _ _ _ ((St S _ l).upd ro _);rw [oldU hl];exact H x a' hp ha'
   .refine .inr fun T hT hZ => ?_;refine (hm ⟨b,a,ty,im,fu,pg,mo,gl,ex,st,da,ops⟩ T E hok (hT _ List.mem_cons_self) fun e' U he hk => ?_).mono ?_ fun _ _ h=>h
    .rw [hpl] at he; cases he
    .rintro X T' ⟨y,s',hx,hok',_⟩;rw [hpl] at hx;cases hx;exact ha' hok'.1
theorem Yv {bx most:Nat} (ha:aZZ.map (ev σ)=args) (hf:fs.contains t=true) (hw:S.Wf) (hs : ∃ a0,S.get ro=some (12,rc ⟨b,a0,ty,im,fu,pg,mo,gl,ex,st,da,ops⟩)) (hne:bx≠ro) (hb : ∀ c,(St S [(ro,some c)] l).get bx=some (1,[.ptr ro 0])) (hlt:bx<lid S.nx lz.length) (hok:RS.ok ⟨b,a,ty,im,fu,pg,mo,gl,ex,st,da,ops⟩)
  (hm : ∀ hn, ∀ (s:RS) (T:Store) (E:EP),(RLb ro bx (lid S.nx lz.length) hne hn).inv s->HasU T ((RLb ro bx (lid S.nx lz.length) hne hn).us s)->(RLb ro bx (lid S.nx lz.length) hne hn).n0<=T.nx ->
   (∀ e U,jI (RLb ro bx (lid S.nx lz.length) hne hn) most (qD (RLb ro bx (lid S.nx lz.length) hne hn) p) s = .error e->Kept T (RLb ro bx (lid S.nx lz.length) hne hn).ws U->E (jY 46 e) U) ->
   VCallsX P f args T (fun r U => ∃ xs s',jI (RLb ro bx (lid S.nx lz.length) hne hn) most (qD (RLb ro bx (lid S.nx lz.length) hne hn) p) s = .ok (xs,s')/\(RLb ro bx (lid S.nx lz.length) hne hn).inv s'/\r=vl enc xs/\U=putU T ((RLb ro bx (lid S.nx lz.length) hne hn).us s')) E)
  (hj:JR zty ty/\JR zim im/\JR zfu fu/\JR zpg pg/\JR zmo mo/\JR zgl gl/\JR zex ex/\JR zst st/\JR zda da) (hL:jW lz l) (hn:lz.length<=l.length) (herr : ∀ e,many most p b a = .error e -> ∀ T,Kept S [ro] T->E (jY 46 e) T)
  (H : ∀ xs a',many most p b a = .ok (xs,a')->a'<=b.length->zf P (ZR S ro b zty zim zfu zpg zmo zgl zex zst zda lz) E fs r K (σ.set t (vl enc xs)) (St S [(ro,some (12,[vl vb b,bI a',ty,im,fu,pg,mo,gl,ex,st,da,bI ops]))] l)) :
  zf P (ZR S ro b zty zim zfu zpg zmo zgl zex zst zda lz) E fs (⟨some t,none, .call f aZZ⟩::r) K σ (St S [(ro,some (12,[vl vb b,bI a,ty,im,fu,pg,mo,gl,ex,st,da,bI ops]))] l):=by
 obtain ⟨a0,hs⟩:=hs;have hl:=jx hw hs;have hn1:ro<lid S.nx lz.length:=by simp only [lid]; omega
 have hold0:OldRS S.nx ⟨b,a0,ty,im,fu,pg,mo,gl,ex,st,da,ops⟩:=Ya hw hs;have hold:OldRS (lid S.nx lz.length) ⟨b,a,ty,im,fu,pg,mo,gl,ex,st,da,ops⟩:=OldRS.mono (n:=S.nx) hold0 (by simp [lid]);generalize hLL:RLb ro bx (lid S.nx lz.length) hne hn1=L at *
 have hm':=hm hn1;rw [hLL] at hm';clear hm;have hus : ∀ s,L.us s=[(ro,(12,rc s)),(bx,(1,[.ptr ro 0]))]:=by subst hLL; exact fun _=>rfl
 have hinv : ∀ s,L.inv s↔s.ok/\OldRS (lid S.nx lz.length) s:=by subst hLL; exact fun _=>Iff.rfl
 have hn0:L.n0=lid S.nx lz.length:=by subst hLL; rfl
 have hws:L.ws=[ro]:=by subst hLL; rfl
 have hrs : ∀ s:RS,L.rs s=s:=by subst hLL; exact fun _=>rfl
 have hset : ∀ (s:RS) a,L.set s a=s.to a:=by subst hLL; exact fun _ _=>rfl
 clear hLL;have hput : ∀ (s:RS),putU (St S [(ro,some (12,[vl vb b,bI a,ty,im,fu,pg,mo,gl,ex,st,da,bI ops]))] l) (L.us s)=St S [(ro,some (12,rc s))] l:=by
  intro s;rw [hus];show ((St S _ l).upd ro _).upd bx _=_;rw [oldU hl];refine Store.eq_of (fun o => ?_) rfl;rw [jQ];split
  .rename_i e; rw [e]; exact (hb _).symm
  .rfl
 refine Zo ha hf ⟨L.us ⟨b,a,ty,im,fu,pg,mo,gl,ex,st,da,ops⟩, ?_, ?_, ?_, ?_⟩
 .rw [hus];intro q hq;rcases aE.1 hq with rfl | hq
  .exact old1 hl _ _
  .simp only [aM] at hq;subst hq;exact hb _
 .rw [hus];intro q hq;simp only [qS,List.map_cons,List.map_nil,aE,List.not_mem_nil,or_false] at hq;rcases hq with rfl | rfl
  .exact hn1
  .exact hlt
 .rw [hus];simp [qS,Ne.symm hne]
 .have key:=fun T E hT hZ hE=>hm' ⟨b,a,ty,im,fu,pg,mo,gl,ex,st,da,ops⟩ T E ((hinv _).2 ⟨hok,hold⟩) hT (by rw [hn0]; exact hZ) hE;simp only [Jb] at key;cases hp:many most p b a with
  | error e =>
   have hpl:qD L (many most p) ⟨b,a,ty,im,fu,pg,mo,gl,ex,st,da,ops⟩ = .error e:=by simp only [qD,hrs]; rw [hp]
   refine .inr fun T hT hZ=>(key T E hT hZ.n fun e' U he hk => ?_).mono ?_ fun _ _ h=>h
   .rw [hpl] at he;cases he;rw [hws] at hk;exact herr e hp U (hZ.i.trans hk)
   .rintro X T' ⟨xs,s',hx,_⟩;rw [hpl] at hx;cases hx
  | ok q =>
   obtain ⟨x,a'⟩:=q;have hpl:qD L (many most p) ⟨b,a,ty,im,fu,pg,mo,gl,ex,st,da,ops⟩ = .ok (x,⟨b,a',ty,im,fu,pg,mo,gl,ex,st,da,ops⟩):=by simp only [qD,hrs]; rw [hp]; simp only [hset]; rfl
   by_cases ha':a'<=b.length
   .refine .inl ⟨L.us ⟨b,a',ty,im,fu,pg,mo,gl,ex,st,da,ops⟩,vl enc x,by rw [hus,hus]; rfl,fun T hT hZ => ?_, ?_, ?_⟩
    .refine ((key T (fun _ _=>False) hT hZ.n fun e' U he hk => ?_).mono ?_ fun _ _ h=>h).ok
     .rw [hpl] at he; cases he
     .rintro X T' ⟨y,s',hx,_,h1,h2⟩;rw [hpl] at hx;cases hx;exact ⟨h1,h2⟩
    .rw [hput];exact zo hj hL hn
    .rw [hput];exact H x a' hp ha'
   .refine .inr fun T hT hZ=>(key T E hT hZ.n fun e' U he hk => ?_).mono ?_ fun _ _ h=>h
    .rw [hpl] at he; cases he
    .rintro X T' ⟨y,s',hx,hi,_⟩;rw [hpl] at hx;cases hx;exact ha' ((hinv _).1 hi).1.1
end
theorem Yy {n bx:Nat} {g:FuncId} (h:bx<n):OldV n (.func g [.ptr bx 0]):=by simpa [OldV,aff,JU,KO,jdC] using h
theorem jfJ {n ro:Nat} {g:FuncId} (h:ro<n):OldV n (.meth g (.ptr ro 0)):=by simpa [OldV,aeb,jdC] using h
end Go.Vw
namespace Wm
def strB (l:List Nat):ByteArray:=Go.Vw.strV (l.map fun n:Nat=>(n:Int))
end Wm
namespace Go.Vw
open Go.Proofs Go.RowKit Wm
attribute [-simp] List.map_set
def vstr (l:List Nat):V := .str (strB l)
theorem jeD (l:List Nat):Zd (vl vb l)=some (vstr l):=by
 simp only [Zd,vl];have h1:(l.map vb).all jbF=true:=by simp [jbF]
 rw [if_pos h1];simp [vstr,strB,numV,Function.comp_def]
theorem ajd (ro bx n0:Nat) (hne:bx≠ro) (hn:ro<n0):RdL Tryz.prog (RLb ro bx n0 hne hn) (.func 132 [.ptr bx 0]) [] vb (qD (RLb ro bx n0 hne hn) Jw):=by
 refine Kp rfl fun b a ty im fu pg mo gl ex st da ops S E h1 h2 h3 h4 hs hb hE => ?_;refine jc (c:=jf Tryz.f132) Tryz.func132 rfl rfl (by simp [Tryz.ntmps132]) ?_;rw [Tryz.ntmps132];intro hwf;have hl:=jx hwf hs;have hg:=old1 hl;have hu:=oldU hl;have hgb:=jbt hwf hne hb;rw [show St S [] []=St S [(ro,some (12,[vl vb b,bI a,ty,im,fu,pg,mo,gl,ex,st,da,bI ops]))] [] from old0 hl hs];refine bk ?_;refine XQ E ?_ (r:=by conv=>lhs;simp[QV,hgb]);refine jL rfl (jao ro) hl ?_ ?_
 .intro e he;exact hE e (by simp [Jw,Rd.bind_apply,he])
 intro c a1 hc ha1;have hc2:c<256:=by
  simp only [byte1] at hc;split at hc
  .cases hc
  .cases hc
   rename_i h;rw [af,aa (by omega)];exact h3 _ (ah _)
 have w1:IntKind.i64.wrap ((a1:Int)-1)=(a1:Int)-1:=wrap_i64 (by omega) (by omega);have w2:IntKind.u8.wrap (c:Int)=(c:Int):=by rw [Kg]; omega
 refine XN ?_;refine ja ?_;by_cases c1:c<32
 .have d1:(c:Int)<32:=by omega
  have hp:Jw b a = .error (8,(a1:Int)-1,0):=by simp [Jw,Rd.bind_apply,hc,zE,failAt,c1]
  refine bi d1 ?_;refine XQ E ?_ (r:=by conv=>lhs;simp[QV,hg,hgb,w1]);refine jb rfl (qI _ _ _ E (fun T hk=>(hE _ hp) T (hk.up ?_ ?_))) ?_
  .simp
  .simp
  .rintro _ _ h; exact h.elim
 .have d1 : ¬ (c:Int)<32:=by omega
  by_cases c2:126<c
  .have d2:(126:Int)<(c:Int):=by omega
   have hp:Jw b a = .error (8,(a1:Int)-1,0):=by simp [Jw,Rd.bind_apply,hc,zE,failAt,c2]
   refine bm d1 d2 ?_;refine XQ E ?_ (r:=by conv=>lhs;simp[QV,hg,hgb,w1]);refine jb rfl (qI _ _ _ E (fun T hk=>(hE _ hp) T (hk.up ?_ ?_))) ?_
   .simp
   .simp
   .rintro _ _ h; exact h.elim
  .have d2 : ¬ (126:Int)<(c:Int):=by omega
   have hp:Jw b a = .ok (c,a1):=by simp [Jw,Rd.bind_apply,hc,zE,failAt,c1,c2,Rd.pure_apply]
   refine bj d1 d2 w2 ?_;exact qK hwf hs hp ha1 (by simp) (by simp)
theorem acw (ro:Nat):RdM Tryz.prog 99 [.ptr ro 0] ro vstr (lift name):=by
 refine Jq fun b a ty im fu pg mo gl ex st da ops S E h1 h2 h3 h4 hs hE => ?_;refine jc (c:=jf Tryz.f99) Tryz.func99 rfl rfl (by simp [Tryz.ntmps99]) ?_;rw [Tryz.ntmps99];intro hwf;have hl:=jx hwf hs;have hg:=old1 hl;have hu:=oldU hl;rw [show St S [] []=St S [(ro,some (12,[vl vb b,bI a,ty,im,fu,pg,mo,gl,ex,st,da,bI ops]))] [] from old0 hl hs];refine bk ?_;refine XQ E ?_;refine jb rfl (afa (most:=32) (p:=Jw) (enc:=vb) (bx:=lid S.nx 0) hwf ⟨a,hs⟩ (by simp [lid]; omega) (fun c=>by simp) (by simp [lid]) ⟨h1,h2,h3,h4⟩ (fun hn s T E hi hh hn0 he=>ag0 _ _ vb _ 32 (by omega) (fun _=>rfl) (fun _=>rfl) (ajd ro (lid S.nx 0) _ _ hn) (Yy (n:=lid S.nx [some (1,[V.ptr ro 0])].length) (by simp [lid])) s T E hi hh hn0 he) hE) ?_;rintro r T ⟨xs,a1,hx,ha1,rfl,rfl⟩;have ht:=jeD xs;refine XN ?_ (r:=by conv=>lhs;simp[QV,ht]);refine ja ?_;refine bk ?_;exact qK hwf hs hx ha1 (by simp) (by simp [vstr])
end Go.Vw
