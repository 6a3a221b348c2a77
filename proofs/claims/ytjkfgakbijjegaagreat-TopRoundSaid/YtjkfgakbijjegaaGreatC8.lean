import Derived.Test.YtjkfgakbijjegaaGreatC7
/- Part of the proof. -/
set_option linter.unusedVariables false
set_option linter.unusedSimpArgs false
set_option maxRecDepth 10000
set_option maxHeartbeats 4000000
namespace Wm
open Go.Vw
structure RS where
 b:List Nat
 a:Nat
 ty:V
 im:V
 fu:V
 pg:V
 mo:V
 gl:V
 ex:V
 st:V
 da:V
 ops:Nat
def RS.ok (s:RS):Prop:=s.a<=s.b.length/\s.b.length<=16384/\(∀ x∈s.b,x<256)/\s.ops<=1000
def RS.to (s:RS) (a:Nat):RS:={ s with a:=a }
def lift {α:Type} (p:Rd α) (s:RS):Except Flt (α × RS):=match p s.b s.a with
 | .error e => .error e
 | .ok (x,a) => .ok (x,s.to a)
theorem RS.ok_to {s:RS} (h:s.ok) {a:Nat} (ha:a<=s.b.length):(s.to a).ok:=⟨ha,h.2.1,h.2.2.1,h.2.2.2⟩
end Wm
namespace Go.Vw
open Wm
def rc (s:RS):List V:=[vl vb s.b,bI s.a,s.ty,s.im,s.fu,s.pg,s.mo,s.gl,s.ex,s.st,s.da,bI s.ops]
def OldV (n:Nat) (x:V):Prop:=x.ids (fun o=>decide (o<n))=true
theorem OldV.ren {n:Nat} {x:V} (h:OldV n x) (ks:List Nat):x.ren (gcTo n ks)=x:=aao (p:=fun o=>decide (o<n)) (fun o ho=>jcG ks (by simpa using ho)) x h
theorem OldV.ids {n:Nat} {x:V} (h:OldV n x) (ks:List Nat):x.ids (gcP n ks)=true:=zW (fun o ho=>jfW ks (by simpa using ho)) x h
theorem old1 {B:Store} {o:Nat} (h:o<B.nx) (c:Nat × List V) (l:OL):(St B [(o,some c)] l).get o=some c:=by rw [jk h]; simp [uGet]
theorem oldU {B:Store} {o:Nat} (h:o<B.nx) (c c':Nat × List V) (l:OL):(St B [(o,some c)] l).upd o c'=St B [(o,some c')] l:=by rw [jT h]; simp [uSet]
theorem old0 {B:Store} {o:Nat} {c:Nat × List V} (h:o<B.nx) (hc:B.get o=some c):St B [] []=St B [(o,some c)] []:=by
 refine Store.eq_of (fun o' => ?_) rfl;rw [zj,zj];split
 .simp only [uGet];split
  .rename_i e; rw [e,hc]
  .rfl
 .rfl
theorem aaz {B:Store} {o:Nat} {c:Nat × List V} (hw:B.Wf) (h:o<B.nx):St B [(o,some c)] []=B.upd o c:=by
 refine Store.eq_of (fun o' => ?_) (by rw [jH]; simp [lid,Store.upd]);rw [zj,jQ];split
 .simp only [uGet]
 .rename_i h1;rw [if_neg (by omega),hw.gone o' (by omega)];simp
theorem jx {S:Store} {ro:Nat} {c} (hw:S.Wf) (h:S.get ro=some c):ro<S.nx:=by
 rcases bc ro S.nx with h1 | h1
 .exact h1
 .rw [hw.gone _ h1] at h; cases h
theorem Ya {S:Store} {ro:Nat} {s:RS} (hw:S.Wf) (h:S.get ro=some (12,rc s)):OldV S.nx s.ty/\OldV S.nx s.im/\OldV S.nx s.fu/\OldV S.nx s.pg/\OldV S.nx s.mo/\OldV S.nx s.gl/\OldV S.nx s.ex/\OldV S.nx s.st/\OldV S.nx s.da:=by
 have:=hw.ids ro _ h;simp only [rc,JU,KO,ae] at this;obtain ⟨_,_,h1,h2,h3,h4,h5,h6,h7,h8,h9,_⟩:=this;exact ⟨h1,h2,h3,h4,h5,h6,h7,h8,h9⟩
theorem agv {S:Store} {ro:Nat} {s:RS} (hw:S.Wf) (h:S.get ro=some (12,rc s)) (ks:List Nat) :
  (s.ty.ren (gcTo S.nx ks)=s.ty/\s.im.ren (gcTo S.nx ks)=s.im/\s.fu.ren (gcTo S.nx ks)=s.fu/\s.pg.ren (gcTo S.nx ks)=s.pg/\s.mo.ren (gcTo S.nx ks)=s.mo/\s.gl.ren (gcTo S.nx ks)=s.gl/\s.ex.ren (gcTo S.nx ks)=s.ex/\s.st.ren (gcTo S.nx ks)=s.st/\s.da.ren (gcTo S.nx ks)=s.da) /\
  (s.ty.ids (gcP S.nx ks)=true/\s.im.ids (gcP S.nx ks)=true/\s.fu.ids (gcP S.nx ks)=true/\s.pg.ids (gcP S.nx ks)=true/\s.mo.ids (gcP S.nx ks)=true/\s.gl.ids (gcP S.nx ks)=true/\s.ex.ids (gcP S.nx ks)=true/\s.st.ids (gcP S.nx ks)=true/\s.da.ids (gcP S.nx ks)=true) /\
  gcTo S.nx ks ro=ro/\gcP S.nx ks ro=true:=by
 obtain ⟨h1,h2,h3,h4,h5,h6,h7,h8,h9⟩:=Ya hw h;exact ⟨⟨h1.ren ks,h2.ren ks,h3.ren ks,h4.ren ks,h5.ren ks,h6.ren ks,h7.ren ks,h8.ren ks,h9.ren ks⟩,⟨h1.ids ks,h2.ids ks,h3.ids ks,h4.ids ks,h5.ids ks,h6.ids ks,h7.ids ks,h8.ids ks,h9.ids ks⟩,jcG ks (jx hw h),jfW ks (jx hw h)⟩
def RdM {α:Type} (P:Program) (f:FuncId) (args:List V) (ro:Nat) (enc:α->V) (p:RS->Except Flt (α × RS)):Prop :=
 ∀ (s:RS) (S:Store) (E:EP),s.ok->S.get ro=some (12,rc s)->(∀ e T,p s = .error e->Kept S [ro] T->E (jY 46 e) T) ->
  VCallsX P f args S (fun r T => ∃ x s',p s = .ok (x,s')/\s'.ok/\r=enc x/\T=S.upd ro (12,rc s')) E
theorem jgc {S:Store} {ro:Nat} {c:List V} {l:OL} {r X:V} {R:V->Store->Prop} (hw:S.Wf) (h:ro<S.nx) (hr:r=X) (hx:X.ids (fun o=>decide (o<S.nx))=true) (hc:V.idsL (gcP S.nx []) c=true) (hd:V.renL (gcTo S.nx []) c=c) (hR:R X (S.upd ro (12,c))) :
  zq S.nx R r (St S [(ro,some (12,c))] l):=by
 refine agf (X:=X) (S':=S.upd ro (12,c)) hw hr hx (by simp only [ZO,gcOkE,hc,Bool.and_self]) ?_ hR;rw [<-aaz hw h];simp only [gcU,gcE,aW,hd]
section
variable {α:Type} {P:Program} {f:FuncId} {args:List V} {ro:Nat} {enc:α->V} {p:Rd α}
theorem Jq (h : ∀ (b:List Nat) (a:Nat) (ty im fu pg mo gl ex st da:V) (ops:Nat) (S:Store) (E:EP),a<=b.length->b.length<=16384->(∀ x∈b,x<256)->ops<=1000 ->
   S.get ro=some (12,rc ⟨b,a,ty,im,fu,pg,mo,gl,ex,st,da,ops⟩)->(∀ e,p b a = .error e -> ∀ T,Kept S [ro] T->E (jY 46 e) T) ->
   VCallsX P f args S (fun r T => ∃ x a',p b a = .ok (x,a')/\a'<=b.length/\r=enc x/\T=S.upd ro (12,rc ⟨b,a',ty,im,fu,pg,mo,gl,ex,st,da,ops⟩)) E):RdM P f args ro enc (lift p):=by
 intro s S E hok hs hE;obtain ⟨b,a,ty,im,fu,pg,mo,gl,ex,st,da,ops⟩:=s;obtain ⟨h1,h2,h3,h4⟩:=hok;refine (h b a ty im fu pg mo gl ex st da ops S E h1 h2 h3 h4 hs fun e he T hk=>hE e T (by simp only [lift]; rw [he]) hk).mono ?_ fun _ _ h=>h;rintro r T ⟨x,a',hp,ha,hr,hT⟩;exact ⟨x,⟨b,a',ty,im,fu,pg,mo,gl,ex,st,da,ops⟩,by simp only [lift]; rw [hp]; rfl,⟨ha,h2,h3,h4⟩,hr,hT⟩
theorem abr {E:EP} {S:Store} {l:OL} {b:List Nat} {a:Nat} {ty im fu pg mo gl ex st da:V} {ops:Nat}
  (hm:RdM P f args ro enc (lift p)) (hl:ro<S.nx) (hok:RS.ok ⟨b,a,ty,im,fu,pg,mo,gl,ex,st,da,ops⟩) (herr : ∀ e,p b a = .error e -> ∀ T,Kept S [ro] T->E (jY 46 e) T) :
  VCallsX P f args (St S [(ro,some (12,[vl vb b,bI a,ty,im,fu,pg,mo,gl,ex,st,da,bI ops]))] l) (fun r T => ∃ x a',p b a = .ok (x,a')/\a'<=b.length/\r=enc x/\T=St S [(ro,some (12,[vl vb b,bI a',ty,im,fu,pg,mo,gl,ex,st,da,bI ops]))] l) E:=by
 refine (hm ⟨b,a,ty,im,fu,pg,mo,gl,ex,st,da,ops⟩ _ E hok (old1 hl _ _) fun e T he hk => ?_).mono ?_ fun _ _ h=>h
 .refine herr e ?_ T (hk.up (by simp) (by simp));simp only [lift] at he;split at he
  .rename_i e' h; cases he; exact h
  .cases he
 .rintro X S' ⟨x,s',hp,hok',rfl,rfl⟩;simp only [lift] at hp;split at hp
  .cases hp
  .rename_i y a' h;cases hp;rw [oldU hl];exact ⟨x,a',h,hok'.1,rfl,rfl⟩
theorem jL {E:EP} {K:Fr->Store->Prop} {σ:Fr} {d:Option Nat} {aZZ:List Arg} {r:List CO} {S:Store} {l:OL} {b:List Nat} {a:Nat} {ty im fu pg mo gl ex st da:V} {ops:Nat}
  (ha:aZZ.map (ev σ)=args) (hm:RdM P f args ro enc (lift p)) (hl:ro<S.nx) (herr : ∀ e,p b a = .error e -> ∀ T,Kept S [ro] T->E (jY 46 e) T)
  (H : ∀ x a',p b a = .ok (x,a')->a'<=b.length->qF P E r K (σ.put d (enc x)) (St S [(ro,some (12,[vl vb b,bI a',ty,im,fu,pg,mo,gl,ex,st,da,bI ops]))] l)) (hok:RS.ok ⟨b,a,ty,im,fu,pg,mo,gl,ex,st,da,ops⟩:=by exact ⟨by first | assumption | omega,by assumption,by assumption,by first | assumption | omega⟩) :
  qF P E (⟨d,none, .call f aZZ⟩::r) K σ (St S [(ro,some (12,[vl vb b,bI a,ty,im,fu,pg,mo,gl,ex,st,da,bI ops]))] l):=by
 refine jb ha (abr hm hl hok herr) ?_;rintro X S' ⟨x,a',hp,ha',rfl,rfl⟩;exact H x a' hp ha'
theorem qK {S:Store} {b:List Nat} {a a':Nat} {ty im fu pg mo gl ex st da:V} {ops:Nat} {l:OL} {r:V} {x:α} (hw:S.Wf) (hs:S.get ro=some (12,rc ⟨b,a,ty,im,fu,pg,mo,gl,ex,st,da,ops⟩)) (hp:p b a = .ok (x,a')) (ha:a'<=b.length) (hr:r=enc x) (hx:(enc x).ids (fun o=>decide (o<S.nx))=true) :
  zq S.nx (fun r T => ∃ x a',p b a = .ok (x,a')/\a'<=b.length/\r=enc x/\T=S.upd ro (12,rc ⟨b,a',ty,im,fu,pg,mo,gl,ex,st,da,ops⟩)) r (St S [(ro,some (12,[vl vb b,bI a',ty,im,fu,pg,mo,gl,ex,st,da,bI ops]))] l):=by
 obtain ⟨⟨r1,r2,r3,r4,r5,r6,r7,r8,r9⟩,⟨i1,i2,i3,i4,i5,i6,i7,i8,i9⟩,_⟩:=agv hw hs [];simp only at r1 r2 r3 r4 r5 r6 r7 r8 r9 i1 i2 i3 i4 i5 i6 i7 i8 i9;exact jgc hw (jx hw hs) hr hx (by simp only [JU,KO,jaQ,YC,i1,i2,i3,i4,i5,i6,i7,i8,i9,Bool.and_self]) (by simp only [Za,jaD,jeB,Zu,r1,r2,r3,r4,r5,r6,r7,r8,r9]) ⟨x,a',hp,ha,rfl,rfl⟩
end
theorem qU {P:Program} {f:FuncId} {xs xs':List V} {S S':Store} {R:V->Store->Prop} {E:EP} (hg:GhostArgs xs S xs' S') (h:VCallsX P f xs' S' R E):VCallsX P f xs S R E:=by
 intro m β w vs hS hr;obtain ⟨m',β',h1,h2,h3⟩:=hg m β w vs hS hr;refine (h m' β' w vs h1 h3).mono ?_;rintro e w' (⟨v,x,S1,m1,β1,he,hQ,k1,k2,k3⟩ | ⟨ch,S1,m1,β1,he,hQ,k2,k3⟩)
 .exact .inl ⟨v,x,S1,m1,β1,he,hQ,k1,k2,h2.trans k3⟩
 .exact .inr ⟨ch,S1,m1,β1,he,hQ,k2,h2.trans k3⟩
theorem Jr {α:Type} {P:Program} {f:FuncId} {args xs:List V} {ro:Nat} {enc:α->V} {p:Rd α} {E:EP} {K:Fr->Store->Prop} {σ:Fr} {d:Option Nat} {aZZ:List Arg} {r:List CO} {S:Store} {l l':OL} {b:List Nat} {a:Nat} {ty im fu pg mo gl ex st da:V} {ops:Nat}
  (ha:aZZ.map (ev σ)=xs) (hgh:GhostArgs xs (St S [(ro,some (12,[vl vb b,bI a,ty,im,fu,pg,mo,gl,ex,st,da,bI ops]))] l) args (St S [(ro,some (12,[vl vb b,bI a,ty,im,fu,pg,mo,gl,ex,st,da,bI ops]))] l'))
  (hm:RdM P f args ro enc (lift p)) (hl:ro<S.nx) (herr : ∀ e,p b a = .error e -> ∀ T,Kept S [ro] T->E (jY 46 e) T)
  (H : ∀ x a',p b a = .ok (x,a')->a'<=b.length->qF P E r K (σ.put d (enc x)) (St S [(ro,some (12,[vl vb b,bI a',ty,im,fu,pg,mo,gl,ex,st,da,bI ops]))] l')) (hok:RS.ok ⟨b,a,ty,im,fu,pg,mo,gl,ex,st,da,ops⟩:=by exact ⟨by first | assumption | omega,by assumption,by assumption,by first | assumption | omega⟩) :
  qF P E (⟨d,none, .call f aZZ⟩::r) K σ (St S [(ro,some (12,[vl vb b,bI a,ty,im,fu,pg,mo,gl,ex,st,da,bI ops]))] l):=by
 refine jb ha (qU hgh (abr hm hl hok herr)) ?_;rintro X S' ⟨x,a',hp,ha',rfl,rfl⟩;exact H x a' hp ha'
structure RL (σ:Type) where
 us:σ->Ups
 ks:List Nat
 ws:List Nat
 ro:Nat
 n0:Nat
 inv:σ->Prop
 rs:σ->RS
 set:σ->Nat->σ
 hks : ∀ s,qS (us s)=ks
 nd:ks.Nodup
 ok : ∀ s,inv s->(rs s).ok
 get : ∀ s,(ro,(12,rc (rs s)))∈us s
 put : ∀ s a T,HasU T (us s)->T.upd ro (12,rc ((rs s).to a))=putU T (us (set s a))
 sinv : ∀ s a,inv s->a<=(rs s).b.length->inv (set s a)
 srs : ∀ s a,rs (set s a)=(rs s).to a
 ss : ∀ s a a',set (set s a) a'=set s a'
 s0 : ∀ s,set s (rs s).a=s
 rw':ro∈ws
 cst : ∀ s s' p,p∈us s->p.1∉ws->p∈us s'
 old : ∀ s,inv s -> ∀ p∈us s,V.idsL (fun o=>decide (o<n0)) p.2.2=true
def RdL {σ α:Type} (P:Program) (L:RL σ) (f:V) (args:List V) (enc:α->V) (p:σ->Except Flt (α × σ)):Prop :=
 ∀ (s:σ) (S:Store) (E:EP),L.inv s->HasU S (L.us s)->L.n0<=S.nx->(∀ e T,p s = .error e->Kept S L.ws T->E (jY 46 e) T) ->
  zp P f args S (fun r T => ∃ x s',p s = .ok (x,s')/\L.inv s'/\r=enc x/\T=putU S (L.us s')) E
def qD {σ α:Type} (L:RL σ) (p:Rd α) (s:σ):Except Flt (α × σ):=match p (L.rs s).b (L.rs s).a with
 | .error e => .error e
 | .ok (x,a) => .ok (x,L.set s a)
def zO {σ α:Type} (p:σ->Except Flt (α × σ)):Nat->σ->Except Flt (List α × σ)
 | 0,s => .ok ([],s)
 | n+1,s=>match p s with
  | .error e => .error e
  | .ok (x,s1)=>match zO p n s1 with
   | .error e => .error e
   | .ok (l,s2) => .ok (x::l,s2)
def jI {σ α:Type} (L:RL σ) (most:Nat) (p:σ->Except Flt (α × σ)) (s:σ):Except Flt (List α × σ):=match qD L (u most 7) s with
 | .error e => .error e
 | .ok (n,s1)=>zO p n s1
section
variable {σ α:Type} {P:Program} {L:RL σ} {enc:α->V} {p:σ->Except Flt (α × σ)}
theorem zT : ∀ (n:Nat) (s:σ) (xs:List α) (s1:σ),zO p n s = .ok (xs,s1)->zO p (n+1) s=match p s1 with
  | .error e => .error e
  | .ok (x,s2) => .ok (xs++[x],s2)
 | 0,s,xs,s1,h=>by
  simp only [zO,Except.ok.injEq,Prod.mk.injEq] at h;obtain ⟨rfl,rfl⟩:=h;simp only [zO];cases p s with
  | error e=>rfl
  | ok r=>obtain ⟨x,s2⟩:=r; rfl
 | n+1,s,xs,s1,h=>by
  rw [zO] at h ⊢;cases hp:p s with
  | error e=>rw [hp] at h; cases h
  | ok r =>
   obtain ⟨x,s2⟩:=r;rw [hp] at h;simp only at h ⊢;cases hm:zO p n s2 with
   | error e=>rw [hm] at h; cases h
   | ok q =>
    obtain ⟨l,s3⟩:=q;rw [hm] at h;simp only [Except.ok.injEq,Prod.mk.injEq] at h;obtain ⟨rfl,rfl⟩:=h;rw [zT n s2 l s3 hm];cases p s3 with
    | error e=>rfl
    | ok r=>obtain ⟨y,s4⟩:=r; rfl
theorem Js : ∀ (n m:Nat) (s:σ) (xs:List α) (s1:σ) (e:Flt),zO p n s = .ok (xs,s1)->p s1 = .error e->n<m->zO p m s = .error e
 | n,0,s,xs,s1,e,_,_,h=>absurd h (Nat.not_lt_zero _)
 | 0,m+1,s,xs,s1,e,h,he,_=>by
  simp only [zO,Except.ok.injEq,Prod.mk.injEq] at h;obtain ⟨rfl,rfl⟩:=h;rw [zO,he]
 | n+1,m+1,s,xs,s1,e,h,he,hlt=>by
  rw [zO] at h ⊢;cases hp:p s with
  | error e'=>rw [hp] at h; cases h
  | ok r =>
   obtain ⟨x,s2⟩:=r;rw [hp] at h;simp only at h ⊢;cases hm:zO p n s2 with
   | error e'=>rw [hm] at h; cases h
   | ok q =>
    obtain ⟨l,s3⟩:=q;rw [hm] at h;simp only [Except.ok.injEq,Prod.mk.injEq] at h;obtain ⟨rfl,rfl⟩:=h;rw [Js n m s2 l s3 e hm he (by omega)]
theorem WK {n:Nat} {us:Ups} (h : ∀ p∈us,V.idsL (fun o=>decide (o<n)) p.2.2=true) (ks:List Nat):gcU n ks (upsU us)=upsU us/\ZO n ks (upsU us)=true:=by
 induction us with
 | nil=>exact ⟨rfl,rfl⟩
 | cons p r ih =>
  obtain ⟨o,c⟩:=p;obtain ⟨h1,h2⟩:=ih fun q hq=>h q (by simp [hq]);have hc:=h (o,c) (by simp);have e1:V.renL (gcTo n ks) c.2=c.2:=by
   rw [zy];refine (aP fun x hx => ?_).trans (List.map_id _);simp only [Jc,ax] at hc;exact aao (p:=fun o=>decide (o<n)) (fun o ho=>jcG ks (by simpa using ho)) x (hc x hx)
  have e2:V.idsL (gcP n ks) c.2=true:=Yk (fun o ho=>jfW ks (by simpa using ho)) _ hc;simp only [upsU,gcU,gcE,aW,e1,h1,ZO,gcOkE,e2,h2,Bool.and_self];exact ⟨trivial,trivial⟩
theorem RL.lt (L:RL σ) {S:Store} {s:σ} (hw:S.Wf) (h:HasU S (L.us s)) : ∀ k∈L.ks,k<S.nx:=fun k hk=>h.lt hw (by rw [L.hks]; exact hk)
theorem RL.oldS (L:RL σ) {S:Store} {s:σ} (hi:L.inv s) (hn:L.n0<=S.nx) : ∀ p∈L.us s,V.idsL (fun o=>decide (o<S.nx)) p.2.2=true :=
 fun p hp=>Yk (fun o ho=>by simp at ho ⊢; omega) _ (L.old s hi p hp)
theorem RL.kept (L:RL σ) {S:Store} {s s0:σ} {l:OL} (hh:HasU S (L.us s0)) (hk0 : ∀ k∈L.ks,k<S.nx):Kept S L.ws (St S (upsU (L.us s)) l):=by
 refine ⟨by rw [jH]; simp [lid],fun o ho hn => ?_⟩;rw [jk ho];by_cases hk:o∈qS (L.us s)
 .obtain ⟨p,hp,rfl⟩:=List.mem_map.1 hk;rw [hh p (L.cst s s0 p hp hn)];have:=aak (B:=S) (l:=l) (by rw [L.hks]; exact L.nd:(qS (L.us s)).Nodup) (by rw [L.hks]; exact hk0) p hp;rw [jk ho,hh p (L.cst s s0 p hp hn)] at this;exact this
 .exact jfn hk
theorem Kept.upL {L:RL σ} {S T:Store} {s s0:σ} {l:OL} {ks:List Nat} (hh:HasU S (L.us s0)) (hk0 : ∀ k∈L.ks,k<S.nx) (h:Kept (St S (upsU (L.us s)) l) ks T) (hk : ∀ k∈ks,k∈L.ws\/S.nx<=k):Kept S L.ws T:=by
 have h0:=L.kept (s:=s) (l:=l) hh hk0;refine ⟨aU h0.1 h.1,fun o ho hn => ?_⟩;rw [h.2 o (aK ho h0.1) fun hm => ?_]
 .exact h0.2 o ho hn
 .rcases hk o hm with h1 | h1
  .exact hn h1
  .omega
theorem rl_u {f:FuncId} {most:Nat} {E:EP} {S:Store} {s s0:σ} {l:OL} {args:List V} (hm:RdM P f args L.ro bI (lift (u most 7))) (hi:L.inv s) (hh:HasU S (L.us s0)) (hk0 : ∀ k∈L.ks,k<S.nx)
  (herr : ∀ e T,qD L (u most 7) s = .error e->Kept S L.ws T->E (jY 46 e) T) :
  VCallsX P f args (St S (upsU (L.us s)) l) (fun r T => ∃ n s1,qD L (u most 7) s = .ok (n,s1)/\L.inv s1/\r=bI n/\T=St S (upsU (L.us s1)) l) E:=by
 have hnd:(qS (L.us s)).Nodup:=by rw [L.hks]; exact L.nd
 have hlt : ∀ k∈qS (L.us s),k<S.nx:=by rw [L.hks]; exact hk0
 have hst:HasU (St S (upsU (L.us s)) l) (L.us s):=aak hnd hlt;refine (hm (L.rs s) _ E (L.ok s hi) (hst _ (L.get s)) fun e T he hk => ?_).mono ?_ fun _ _ h=>h
 .refine herr e T ?_ (Kept.upL hh hk0 hk fun k hk' => .inl ?_)
  .simp only [lift] at he;simp only [qD];split at he
   .rename_i e' h; (try rw [h]); cases he; rfl
   .cases he
  .simp only [aM] at hk';subst hk';exact L.rw'
 .rintro r T ⟨n,s',hp,hok,rfl,rfl⟩;simp only [lift] at hp;split at hp
  .cases hp
  .rename_i y a' h;cases hp;refine ⟨n,L.set s a',by simp only [qD]; rw [h],L.sinv s a' hi hok.1,rfl, ?_⟩;rw [L.put s a' _ hst,aej (by rw [L.hks,L.hks]) hnd hlt]
theorem Ys {f:V} {E:EP} {S:Store} {s s0:σ} {l:OL} {args:List V} (hm:RdL P L f args enc p) (hi:L.inv s) (hh:HasU S (L.us s0)) (hk0 : ∀ k∈L.ks,k<S.nx) (hn:L.n0<=S.nx)
  (herr : ∀ e T,p s = .error e->Kept S L.ws T->E (jY 46 e) T) :
  zp P f args (St S (upsU (L.us s)) l) (fun r T => ∃ x s1,p s = .ok (x,s1)/\L.inv s1/\r=enc x/\T=St S (upsU (L.us s1)) l) E:=by
 have hnd:(qS (L.us s)).Nodup:=by rw [L.hks]; exact L.nd
 have hlt : ∀ k∈qS (L.us s),k<S.nx:=by rw [L.hks]; exact hk0
 have hst:HasU (St S (upsU (L.us s)) l) (L.us s):=aak hnd hlt;have:=hm s (St S (upsU (L.us s)) l) E hi hst (by rw [jH]; simp [lid]; omega) fun e T he hk=>herr e T he (Kept.upL hh hk0 hk fun k hk' => .inl hk');have mono : ∀ (R R':V->Store->Prop),(∀ x S',R x S'->R' x S')->zp P f args (St S (upsU (L.us s)) l) R E->zp P f args (St S (upsU (L.us s)) l) R' E:=by
  intro R R' h k;cases f<;>simp only [zp] at k ⊢ <;> first | exact ⟨k.1,k.2.mono h fun _ _ h=>h⟩ | exact k
 refine mono _ _ ?_ this;rintro r T ⟨x,s',hp,hi',rfl,rfl⟩;exact ⟨x,s',hp,hi',rfl,aej (by rw [L.hks,L.hks]) hnd hlt⟩
theorem Ws {S:Store} {s:σ} {xs:List α} {sz:Nat} {r:V} {R:V->Store->Prop} {s0:σ} (hs : ∀ a,(enc a).cells.length=sz) (hc : ∀ a,(enc a).closed=true) (hw:S.Wf) (hh:HasU S (L.us s0)) (hi:L.inv s) (hn:L.n0<=S.nx) (hr:r = .slice (lid S.nx 0) 0 xs.length) (hR:R (vl enc xs) (putU S (L.us s))) :
  zq S.nx R r (St S (upsU (L.us s)) [some (sz,jF enc xs)]):=by
 subst hr;obtain ⟨g1,g2⟩:=WK (L.oldS hi hn) [];refine ⟨_,_,((jdF (k:=0) (u:=upsU (L.us s)) (l:=[some (sz,jF enc xs)]) hs hc xs (by simp) rfl).toB _).trans (GhostB.done hw rfl g2 rfl), ?_⟩;rw [g1, <-aau hw hh (by rw [L.hks,L.hks]) (by rw [L.hks]; exact L.nd)];exact hR
end
theorem qZ {ρ:Arg->V} {zs:List V} {sz:Nat} {t:Arg} (hz:zs.length=sz) (h:(ρ t).ncells=sz) (h1:((ρ t).cells.all V.one)=true):qP ρ zs [(0,sz,t)]=some (ρ t).cells:=by
 have hc:(ρ t).cells.length=(ρ t).ncells:=by cases ρ t<;>rfl
 simp only [qP];rw [if_pos ⟨h,by omega,h1⟩];simp only [Jn,List.take_zero,aZ,aS];rw [List.drop_eq_nil_of_le (by omega),List.append_nil]
def OldRS (n:Nat) (s:RS):Prop:=OldV n s.ty/\OldV n s.im/\OldV n s.fu/\OldV n s.pg/\OldV n s.mo/\OldV n s.gl/\OldV n s.ex/\OldV n s.st/\OldV n s.da
theorem OldV.mono {n n':Nat} {x:V} (h:OldV n x) (hn:n<=n'):OldV n' x:=zW (fun o ho=>by simp at ho ⊢; omega) x h
theorem OldRS.mono {n n':Nat} {s:RS} (h:OldRS n s) (hn:n<=n'):OldRS n' s:=by
 obtain ⟨h1,h2,h3,h4,h5,h6,h7,h8,h9⟩:=h;exact ⟨h1.mono hn,h2.mono hn,h3.mono hn,h4.mono hn,h5.mono hn,h6.mono hn,h7.mono hn,h8.mono hn,h9.mono hn⟩
theorem OldRS.cells {n:Nat} {s:RS} (h:OldRS n s):V.idsL (fun o=>decide (o<n)) (rc s)=true:=by
 obtain ⟨h1,h2,h3,h4,h5,h6,h7,h8,h9⟩:=h;unfold OldV at h1 h2 h3 h4 h5 h6 h7 h8 h9;simp only [rc,JU,KO,jaQ,YC,h1,h2,h3,h4,h5,h6,h7,h8,h9,Bool.and_self]
theorem jdx {σ α:Type} {L:RL σ} {p:Rd α} {s:σ} {e:Flt} (h:qD L p s = .error e):p (L.rs s).b (L.rs s).a = .error e:=by
 unfold qD at h;split at h
 .rename_i e' h'; cases h; exact h'
 .cases h
theorem jfO {σ α:Type} {L:RL σ} {p:Rd α} {s s':σ} {x:α} (h:qD L p s = .ok (x,s')) : ∃ a,p (L.rs s).b (L.rs s).a = .ok (x,a)/\s'=L.set s a:=by
 unfold qD at h;split at h
 .cases h
 .rename_i y a h'; cases h; exact ⟨a,h',rfl⟩
def RLc (ro n0:Nat) (hs:Ups) (hro:ro∉qS hs) (hnd:(qS hs).Nodup) (hold : ∀ p∈hs,V.idsL (fun o=>decide (o<n0)) p.2.2=true):RL RS where
 us s:=(ro,(12,rc s))::hs
 ks:=ro::qS hs
 ws:=[ro]
 ro:=ro
 n0:=n0
 inv s:=s.ok/\OldRS n0 s
 rs s:=s
 set s a:=s.to a
 hks _:=rfl
 nd:=List.nodup_cons.2 ⟨hro,hnd⟩
 ok _ h:=h.1
 get _:=List.mem_cons_self
 put s a T h:=by
  show T.upd ro (12,rc (s.to a))=putU (T.upd ro (12,rc (s.to a))) hs;have hh:HasU (T.upd ro (12,rc (s.to a))) hs:=by
   intro p hp;rw [jQ,if_neg (fun e=>hro (by rw [<-e]; exact List.mem_map_of_mem (f:=(·.1)) hp))];exact h p (List.mem_cons_of_mem _ hp)
  clear h;generalize T.upd ro (12,rc (s.to a))=U at hh;clear hro hnd hold
  induction hs generalizing U with
  | nil=>rfl
  | cons p r ih =>
   obtain ⟨o,c⟩:=p;have e:U.upd o c=U:=by
    refine Store.eq_of (fun o' => ?_) rfl;rw [jQ];split
    .rename_i e; rw [e]; exact (hh (o,c) (by simp)).symm
    .rfl
   simp only [putU];rw [e];exact ih U fun q hq=>hh q (by simp [hq])
 sinv s a h ha:=⟨RS.ok_to h.1 ha,h.2⟩
 srs _ _:=rfl
 ss _ _ _:=rfl
 s0 _:=rfl
 rw':=aM.2 rfl
 cst s s' p hp hn:=by
  rcases aE.1 hp with rfl | hp
  .exact absurd (aM.2 rfl) hn
  .exact List.mem_cons_of_mem _ hp
 old s h p hp:=by
  rcases aE.1 hp with rfl | hp
  .exact h.2.cells
  .exact hold p hp
section
variable {σ α:Type} {P:Program} {L:RL σ} {enc:α->V} {p:Rd α}
theorem RdM.toL {f:FuncId} {args:List V} (h:RdM P f args L.ro enc (lift p)) (s:σ) (S:Store) (E:EP) (hi:L.inv s) (hh:HasU S (L.us s)) (hE : ∀ e T,qD L p s = .error e->Kept S L.ws T->E (jY 46 e) T) :
  VCallsX P f args S (fun r T => ∃ x s',qD L p s = .ok (x,s')/\L.inv s'/\r=enc x/\T=putU S (L.us s')) E:=by
 refine (h (L.rs s) S E (L.ok s hi) (hh _ (L.get s)) fun e T he hk => ?_).mono ?_ fun _ _ h=>h
 .refine hE e T ?_ (hk.weak fun k hk' => ?_)
  .simp only [lift] at he;simp only [qD];split at he
   .rename_i e' h; (try rw [h]); cases he; rfl
   .cases he
  .simp only [aM] at hk';subst hk';exact L.rw'
 .rintro r T ⟨n,s',hp,hok,rfl,rfl⟩;simp only [lift] at hp;split at hp
  .cases hp
  .rename_i y a' h;cases hp;exact ⟨n,L.set s a',by simp only [qD]; rw [h],L.sinv s a' hi hok.1,rfl,L.put s a' _ hh⟩
theorem RdM.meth {f:FuncId} (h:RdM P f [.ptr L.ro 0] L.ro enc (lift p)) (hc:jE P f=true):RdL P L (.meth f (.ptr L.ro 0)) [] enc (qD L p) :=
 fun s S E hi hh _ hE=>⟨hc,RdM.toL h s S E hi hh hE⟩
theorem jeH : ∀ (n:Nat) (s:σ),zO (qD L p) n s=qD L (jag p n) s
 | 0,s=>by simp only [zO,qD,jag,Rd.pure,L.s0]
 | n+1,s=>by
  simp only [zO,qD,jag,Rd.bind_apply,Rd.pure_apply];cases h:p (L.rs s).b (L.rs s).a with
  | error e=>rfl
  | ok r =>
   obtain ⟨x,a⟩:=r;simp only;rw [jeH n (L.set s a)];simp only [qD,L.srs,RS.to];cases h2:jag p n (L.rs s).b a with
   | error e=>rfl
   | ok q=>obtain ⟨l,a'⟩:=q; simp only [L.ss]
theorem Jb (most:Nat) (s:σ):jI L most (qD L p) s=qD L (many most p) s:=by
 simp only [jI,qD,many,Rd.bind_apply];cases h:u most 7 (L.rs s).b (L.rs s).a with
 | error e=>rfl
 | ok r =>
  obtain ⟨n,a⟩:=r;simp only;rw [jeH n (L.set s a)];simp only [qD,L.srs,RS.to];cases h2:jag p n (L.rs s).b a with
  | error e=>rfl
  | ok q=>obtain ⟨l,a'⟩:=q; simp only [L.ss]
end
def RLb (ro bx n0:Nat) (hne:bx≠ro) (hn:ro<n0):RL RS:=RLc ro n0 [(bx,(1,[.ptr ro 0]))] (by simp [qS,Ne.symm hne]) (by simp [qS]) (by simpa [JU,KO,jdC] using hn)
theorem Kp {α:Type} {P:Program} {g:FuncId} {ro bx n0:Nat} {enc:α->V} {p:Rd α} {hne:bx≠ro} {hn:ro<n0} (hc:jE P g=true) (h : ∀ (b:List Nat) (a:Nat) (ty im fu pg mo gl ex st da:V) (ops:Nat) (S:Store) (E:EP),a<=b.length->b.length<=16384->(∀ x∈b,x<256)->ops<=1000 ->
   S.get ro=some (12,rc ⟨b,a,ty,im,fu,pg,mo,gl,ex,st,da,ops⟩)->S.get bx=some (1,[.ptr ro 0])->(∀ e,p b a = .error e -> ∀ T,Kept S [ro] T->E (jY 46 e) T) ->
   VCallsX P g [.ptr bx 0] S (fun r T => ∃ x a',p b a = .ok (x,a')/\a'<=b.length/\r=enc x/\T=S.upd ro (12,rc ⟨b,a',ty,im,fu,pg,mo,gl,ex,st,da,ops⟩)) E) :
  RdL P (RLb ro bx n0 hne hn) (.func g [.ptr bx 0]) [] enc (qD (RLb ro bx n0 hne hn) p):=by
 intro s S E hi hh _ hE;refine ⟨hc, ?_⟩;obtain ⟨⟨h1,h2,h3,h4⟩,hold⟩:=hi;obtain ⟨b,a,ty,im,fu,pg,mo,gl,ex,st,da,ops⟩:=s;have hs:S.get ro=some (12,rc ⟨b,a,ty,im,fu,pg,mo,gl,ex,st,da,ops⟩):=hh (ro,_) List.mem_cons_self;have hb:S.get bx=some (1,[.ptr ro 0]):=hh (bx,(1,[.ptr ro 0])) (List.mem_cons_of_mem _ List.mem_cons_self);refine (h b a ty im fu pg mo gl ex st da ops S E h1 h2 h3 h4 hs hb fun e he T hk=>hE e T ?_ hk).mono ?_ fun _ _ h=>h
 .show (match p b a with | .error e=>_ | .ok (x,a)=>_)=_;rw [he]
 .rintro r T ⟨x,a',hp,ha,hr,rfl⟩;refine ⟨x,⟨b,a',ty,im,fu,pg,mo,gl,ex,st,da,ops⟩, ?_,⟨⟨ha,h2,h3,h4⟩,hold⟩,hr, ?_⟩
  .show (match p b a with | .error e=>_ | .ok (x,a)=>_)=_;rw [hp]
   rfl
  .show _=(S.upd ro _).upd bx _;refine Store.eq_of (fun o => ?_) rfl;rw [jQ,jQ,jQ];by_cases e:o=bx
   .rw [if_pos e,if_neg (by rw [e]; exact hne),e,hb]
   .rw [if_neg e]
theorem jbt {B:Store} {o o':Nat} {d:Nat × List V} (hw:B.Wf) (hne:o'≠o) (hd:B.get o'=some d) (c:Nat × List V) (l:OL):(St B [(o,some c)] l).get o'=some d:=by
 rw [jk (jx hw hd)];simp only [uGet];rw [if_neg hne]; exact hd
theorem afa {α:Type} {P:Program} {f:FuncId} {args:List V} {ro bx most:Nat} {enc:α->V} {p:Rd α} {S:Store} {E:EP} {l:OL} {b:List Nat} {a:Nat} {ty im fu pg mo gl ex st da:V} {ops:Nat}
  (hw:S.Wf) (hs : ∃ a0,S.get ro=some (12,rc ⟨b,a0,ty,im,fu,pg,mo,gl,ex,st,da,ops⟩)) (hne:bx≠ro) (hb : ∀ c,(St S [(ro,some c)] l).get bx=some (1,[.ptr ro 0])) (hlt:bx<lid S.nx l.length) (hok:RS.ok ⟨b,a,ty,im,fu,pg,mo,gl,ex,st,da,ops⟩)
  (hm : ∀ hn, ∀ (s:RS) (T:Store) (E:EP),(RLb ro bx (lid S.nx l.length) hne hn).inv s->HasU T ((RLb ro bx (lid S.nx l.length) hne hn).us s)->(RLb ro bx (lid S.nx l.length) hne hn).n0<=T.nx ->
   (∀ e U,jI (RLb ro bx (lid S.nx l.length) hne hn) most (qD (RLb ro bx (lid S.nx l.length) hne hn) p) s = .error e->Kept T (RLb ro bx (lid S.nx l.length) hne hn).ws U->E (jY 46 e) U) ->
   VCallsX P f args T (fun r U => ∃ xs s',jI (RLb ro bx (lid S.nx l.length) hne hn) most (qD (RLb ro bx (lid S.nx l.length) hne hn) p) s = .ok (xs,s')/\(RLb ro bx (lid S.nx l.length) hne hn).inv s'/\r=vl enc xs/\U=putU T ((RLb ro bx (lid S.nx l.length) hne hn).us s')) E)
  (herr : ∀ e,many most p b a = .error e -> ∀ T,Kept S [ro] T->E (jY 46 e) T) :
  VCallsX P f args (St S [(ro,some (12,[vl vb b,bI a,ty,im,fu,pg,mo,gl,ex,st,da,bI ops]))] l) (fun r T => ∃ xs a',many most p b a = .ok (xs,a')/\a'<=b.length/\r=vl enc xs/\T=St S [(ro,some (12,[vl vb b,bI a',ty,im,fu,pg,mo,gl,ex,st,da,bI ops]))] l) E:=by
 obtain ⟨a0,hs⟩:=hs;have hl:=jx hw hs;have hn:ro<lid S.nx l.length:=by simp only [lid]; omega
 have hold0:OldRS S.nx ⟨b,a0,ty,im,fu,pg,mo,gl,ex,st,da,ops⟩:=Ya hw hs;have hold:OldRS (lid S.nx l.length) ⟨b,a,ty,im,fu,pg,mo,gl,ex,st,da,ops⟩:=OldRS.mono (n:=S.nx) hold0 (by simp [lid]);refine (hm hn ⟨b,a,ty,im,fu,pg,mo,gl,ex,st,da,ops⟩ _ E ⟨hok,hold⟩ ?_ (by rw [jH]; exact aT _) fun e U he hk => ?_).mono ?_ fun _ _ h=>h
 .intro q hq;rcases aE.1 hq with rfl | hq
  .exact old1 hl _ _
  .rcases aE.1 hq with rfl | hq
   .exact hb _
   .cases hq
 .rw [Jb] at he;exact herr e (jdx he) U (hk.up (by simp) (by intro k hk; exact .inl hk))
 .rintro r T ⟨xs,s',hp,hi,rfl,rfl⟩;rw [Jb] at hp;obtain ⟨a',h,rfl⟩:=jfO hp;refine ⟨xs,a',h,hi.1.1,rfl, ?_⟩;show ((St S _ l).upd ro _).upd bx _=_;rw [oldU hl];refine Store.eq_of (fun o => ?_) rfl;rw [jQ];split
  .rename_i e; rw [e]; exact (hb _).symm
  .rfl
end Go.Vw
namespace Go.Vw
open Go.Proofs Go.RowKit
attribute [-simp] List.map_set
theorem qI (e at':Int) (S:Store) (E:EP) (hE : ∀ T,Kept S [] T->E (jY 46 (e,at',0)) T):VCallsX Tryz.prog 34 [bH e,bH at'] S (fun _ _=>False) E:=by
 refine jc (c:=jf Tryz.f34) Tryz.func34 rfl rfl (by simp [Tryz.ntmps34]) ?_;rw [Tryz.ntmps34];intro hwf;refine XQ E ?_;refine Wb rfl ?_;exact hE _ (jN (by simp))
end Go.Vw
namespace Go.Vw
open Go.Proofs Go.RowKit Wm
attribute [-simp] List.map_set
theorem jao (ro:Nat):RdM Tryz.prog 33 [.ptr ro 0] ro bI (lift byte1):=by
 refine Jq fun b a ty im fu pg mo gl ex st da ops S E h1 h2 h3 h4 hs hE => ?_;by_cases hab:a=b.length
 .have hE':=hE (4,(a:Int),0) (by simp [byte1,hab]);have iab:=eq_true (show (a:Int)=(b.length:Int) by omega);refine jc (c:=jf Tryz.f33) Tryz.func33 rfl rfl (by simp [Tryz.ntmps33]) ?_;rw [Tryz.ntmps33];intro hwf;have hl:=jx hwf hs;have hg:=old1 hl;have hu:=oldU hl;rw [show St S [] []=St S [(ro,some (12,[vl vb b,bI a,ty,im,fu,pg,mo,gl,ex,st,da,bI ops]))] [] from old0 hl hs];refine bj hg hu iab ?_;refine XQ E ?_ (r:=by conv=>lhs;simp[QV,hg,hu]);refine jb rfl (qI 4 _ _ E (fun T hk=>hE' T (hk.up ?_ ?_))) ?_
  .simp
  .simp
  rintro _ _ h;exact h.elim
 .have hlt:a<b.length:=by omega
  have iab : ¬ (a:Int)=(b.length:Int):=by omega
  have ha1:IntKind.i64.wrap ((a:Int)+1)=(a:Int)+1:=wrap_i64 (by omega) (by omega);have ha2:IntKind.i64.wrap (a:Int)=(a:Int):=wrap_i64 (by omega) (by omega);have hx2:=h3 _ (ah hlt);have hx3:IntKind.i64.wrap (b[a]:Int)=(b[a]:Int):=wrap_i64 (by omega) (by omega);refine jc (c:=jf Tryz.f33) Tryz.func33 rfl rfl (by simp [Tryz.ntmps33]) ?_;rw [Tryz.ntmps33];intro hwf;have hl:=jx hwf hs;have hg:=old1 hl;have hu:=oldU hl;rw [show St S [] []=St S [(ro,some (12,[vl vb b,bI a,ty,im,fu,pg,mo,gl,ex,st,da,bI ops]))] [] from old0 hl hs]
  repeat first|refine QG ?_|refine QY ?_ (r:=by conv=>lhs;simp[QV,hg,hu,iab,ha1,ha2,hlt,hx3])
  exact qK hwf hs (x:=b[a]) (a':=a+1) (by simp [byte1,hab,hlt]) (by omega) (by simp) (by simp)
theorem u_v (ro most:Nat) (e:Int) (hmost:most<9223372036854775808):RdM Tryz.prog 103 [.ptr ro 0, .int .u64 most,bH e] ro bI (lift (u most e)):=by
 refine Jq fun b a ty im fu pg mo gl ex st da ops S E h1 h2 h3 h4 hs hE => ?_;have cU:=U_v b a h3 (by omega) h1;have hff:=Kt;cases hq:lebU b a 32 with
 | error f =>
  rw [hq] at cU;have hE':=hE f (by simp [u,hq]);obtain ⟨f1,f2,f3⟩:=f;have he:=Yi hq;obtain ⟨he1,he3⟩:=he;simp only at he1 he3;subst he3;have cU':bF 133 [vl vb b,bI a,bH 32] (.tuple [.int .u64 0, .int .i64 0, .agg [.int .i64 f1, .int .i64 f2, .int .i64 0]]):=cU;refine jc (c:=jf Tryz.f103) Tryz.func103 rfl rfl (by simp [Tryz.ntmps103]) ?_;rw [Tryz.ntmps103];intro hwf;have hl:=jx hwf hs;have hg:=old1 hl;have hu:=oldU hl;rw [show St S [] []=St S [(ro,some (12,[vl vb b,bI a,ty,im,fu,pg,mo,gl,ex,st,da,bI ops]))] [] from old0 hl hs];refine bi hg ?_;refine bD (St S [(ro,some (12,[vl vb b,bI a,ty,im,fu,pg,mo,gl,ex,st,da,bI ops]))] []) (St S [(ro,some (12,[vl vb b,bI a,ty,im,fu,pg,mo,gl,ex,st,da,bI ops]))] []) [] ?_ (r:=by conv=>lhs; simp [QV,hg]);refine QL (cU') ?_;refine QZ ?_;refine QI ?_;refine QZ ?_;refine QI ?_;refine QW ?_
  repeat first|refine QG ?_|refine QY ?_ (r:=by conv=>lhs;simp[QV,hff,he1,qu,qq,qn])
  refine XQ E ?_;refine Wb rfl (hE' _ (jN (by simp)))
 | ok r =>
  rw [hq] at cU;obtain ⟨n,nx⟩:=r;obtain ⟨k1,k2,k3,k4⟩:=ZD hq (by omega) (by omega);rw [List.length_drop] at k2;have cU':bF 133 [vl vb b,bI a,bH 32] (.tuple [.int .u64 n, .int .i64 nx, .agg [.int .i64 0, .int .i64 0, .int .i64 0]]):=cU;by_cases hn:most<n
  .have hE':=hE (e,(a:Int),0) (by simp [u,hq,hn]);have i1:(most:Int)<(n:Int):=by omega
   refine jc (c:=jf Tryz.f103) Tryz.func103 rfl rfl (by simp [Tryz.ntmps103]) ?_;rw [Tryz.ntmps103];intro hwf;have hl:=jx hwf hs;have hg:=old1 hl;have hu:=oldU hl;rw [show St S [] []=St S [(ro,some (12,[vl vb b,bI a,ty,im,fu,pg,mo,gl,ex,st,da,bI ops]))] [] from old0 hl hs];refine bi hg ?_;refine bD (St S [(ro,some (12,[vl vb b,bI a,ty,im,fu,pg,mo,gl,ex,st,da,bI ops]))] []) (St S [(ro,some (12,[vl vb b,bI a,ty,im,fu,pg,mo,gl,ex,st,da,bI ops]))] []) [] ?_ (r:=by conv=>lhs; simp [QV,hg]);refine QL (cU') ?_;refine QZ ?_;refine QI ?_;refine QZ ?_;refine QI ?_;refine QW ?_
   repeat first|refine QG ?_|refine QY ?_ (r:=by conv=>lhs;simp[QV,hff,qu,qq,qn,i1])
   refine XQ E ?_ (r:=by conv=>lhs;simp[QV,hg]);refine jb rfl (qI _ _ _ E (fun T hk=>hE' T (hk.up ?_ ?_))) ?_
   .simp
   .simp
   rintro _ _ h;exact h.elim
  .have i1 : ¬ (most:Int)<(n:Int):=by omega
   have i2:IntKind.i64.wrap (n:Int)=(n:Int):=wrap_i64 (by omega) (by omega);refine jc (c:=jf Tryz.f103) Tryz.func103 rfl rfl (by simp [Tryz.ntmps103]) ?_;rw [Tryz.ntmps103];intro hwf;have hl:=jx hwf hs;have hg:=old1 hl;have hu:=oldU hl;rw [show St S [] []=St S [(ro,some (12,[vl vb b,bI a,ty,im,fu,pg,mo,gl,ex,st,da,bI ops]))] [] from old0 hl hs];refine bi hg ?_;refine bD (St S [(ro,some (12,[vl vb b,bI a,ty,im,fu,pg,mo,gl,ex,st,da,bI ops]))] []) (St S [(ro,some (12,[vl vb b,bI a,ty,im,fu,pg,mo,gl,ex,st,da,bI ops]))] []) [] ?_ (r:=by conv=>lhs; simp [QV,hg]);refine QL (cU') ?_;refine QZ ?_;refine QI ?_;refine QZ ?_;refine QI ?_;refine QW ?_
   repeat first|refine QG ?_|refine QY ?_ (r:=by conv=>lhs;simp[QV,hff,qu,qq,qn,i1,hg,hu,i2])
   exact qK hwf hs (x:=n) (a':=nx) (by simp [u,hq,hn]) (by omega) (by simp) (by simp)
theorem zl (ro:Nat):RdM Tryz.prog 43 [.ptr ro 0] ro bI (lift index):=by
 refine Jq fun b a ty im fu pg mo gl ex st da ops S E h1 h2 h3 h4 hs hE => ?_;refine jc (c:=jf Tryz.f43) Tryz.func43 rfl rfl (by simp [Tryz.ntmps43]) ?_;rw [Tryz.ntmps43];intro hwf;have hl:=jx hwf hs;have hg:=old1 hl;have hu:=oldU hl;rw [show St S [] []=St S [(ro,some (12,[vl vb b,bI a,ty,im,fu,pg,mo,gl,ex,st,da,bI ops]))] [] from old0 hl hs];refine bk ?_;refine XQ E ?_;refine jL rfl (u_v ro 4294967295 0 (by omega)) hl ?_ ?_
 .exact hE
 intro n a1 hn ha1;refine XN ?_;refine ja ?_;refine bk ?_;exact qK hwf hs hn ha1 (by simp) (by simp)
theorem axk (ro:Nat):RdM Tryz.prog 134 [.ptr ro 0,bH 32] ro bH (lift (sInt 32)):=by
 refine Jq fun b a ty im fu pg mo gl ex st da ops S E h1 h2 h3 h4 hs hE => ?_;have cU:=axa b a h3 (by omega) h1;have hff:=Kt;cases hq:lebS b a 32 with
 | error f =>
  rw [hq] at cU;have hE':=hE f hq;have he1:f.1≠0/\f.2.2=0:=by
   unfold lebS at hq;split at hq
   .rename_i e' h'; cases hq; exact Yi h'
   .cases hq
  obtain ⟨f1,f2,f3⟩:=f;obtain ⟨he1,he3⟩:=he1;simp only at he1 he3;subst he3;have cU':bF 148 [vl vb b,bI a,bH 32] (.tuple [.int .i64 0, .int .i64 0, .agg [.int .i64 f1, .int .i64 f2, .int .i64 0]]):=cU;refine jc (c:=jf Tryz.f134) Tryz.func134 rfl rfl (by simp [Tryz.ntmps134]) ?_;rw [Tryz.ntmps134];intro hwf;have hl:=jx hwf hs;have hg:=old1 hl;have hu:=oldU hl;rw [show St S [] []=St S [(ro,some (12,[vl vb b,bI a,ty,im,fu,pg,mo,gl,ex,st,da,bI ops]))] [] from old0 hl hs];refine bi hg ?_;refine bD (St S [(ro,some (12,[vl vb b,bI a,ty,im,fu,pg,mo,gl,ex,st,da,bI ops]))] []) (St S [(ro,some (12,[vl vb b,bI a,ty,im,fu,pg,mo,gl,ex,st,da,bI ops]))] []) [] ?_ (r:=by conv=>lhs; simp [QV,hg]);refine QL (cU') ?_;refine QZ ?_;refine QI ?_;refine QZ ?_;refine QI ?_;refine QW ?_
  repeat first|refine QG ?_|refine QY ?_ (r:=by conv=>lhs;simp[QV,hff,he1,qu,qq,qn])
  refine XQ E ?_;refine Wb rfl (hE' _ (jN (by simp)))
 | ok r =>
  rw [hq] at cU;obtain ⟨n,nx⟩:=r;have hnx:nx<=b.length:=by
   unfold lebS at hq;split at hq
   .cases hq
   .rename_i m k h';cases hq;have:=(ZD h' (by omega) (by omega)).2.1;rw [List.length_drop] at this;omega
  have cU':bF 148 [vl vb b,bI a,bH 32] (.tuple [.int .i64 n, .int .i64 nx, .agg [.int .i64 0, .int .i64 0, .int .i64 0]]):=cU;refine jc (c:=jf Tryz.f134) Tryz.func134 rfl rfl (by simp [Tryz.ntmps134]) ?_;rw [Tryz.ntmps134];intro hwf;have hl:=jx hwf hs;have hg:=old1 hl;have hu:=oldU hl;rw [show St S [] []=St S [(ro,some (12,[vl vb b,bI a,ty,im,fu,pg,mo,gl,ex,st,da,bI ops]))] [] from old0 hl hs];refine bi hg ?_;refine bD (St S [(ro,some (12,[vl vb b,bI a,ty,im,fu,pg,mo,gl,ex,st,da,bI ops]))] []) (St S [(ro,some (12,[vl vb b,bI a,ty,im,fu,pg,mo,gl,ex,st,da,bI ops]))] []) [] ?_ (r:=by conv=>lhs; simp [QV,hg]);refine QL (cU') ?_;refine QZ ?_;refine QI ?_;refine QZ ?_;refine QI ?_;refine QW ?_
  repeat first|refine QG ?_|refine QY ?_ (r:=by conv=>lhs;simp[QV,hff,qu,qq,qn,hg,hu])
  exact qK hwf hs (x:=n) (a':=nx) hq hnx (by simp) (by simp)
theorem ah1 (ro:Nat):RdM Tryz.prog 134 [.ptr ro 0,bH 64] ro bH (lift (sInt 64)):=by
 refine Jq fun b a ty im fu pg mo gl ex st da ops S E h1 h2 h3 h4 hs hE => ?_;have cU:=aw9 b a h3 (by omega) h1;have hff:=Kt;cases hq:lebS b a 64 with
 | error f =>
  rw [hq] at cU;have hE':=hE f hq;have he1:f.1≠0/\f.2.2=0:=by
   unfold lebS at hq;split at hq
   .rename_i e' h'; cases hq; exact Yi h'
   .cases hq
  obtain ⟨f1,f2,f3⟩:=f;obtain ⟨he1,he3⟩:=he1;simp only at he1 he3;subst he3;have cU':bF 148 [vl vb b,bI a,bH 64] (.tuple [.int .i64 0, .int .i64 0, .agg [.int .i64 f1, .int .i64 f2, .int .i64 0]]):=cU;refine jc (c:=jf Tryz.f134) Tryz.func134 rfl rfl (by simp [Tryz.ntmps134]) ?_;rw [Tryz.ntmps134];intro hwf;have hl:=jx hwf hs;have hg:=old1 hl;have hu:=oldU hl;rw [show St S [] []=St S [(ro,some (12,[vl vb b,bI a,ty,im,fu,pg,mo,gl,ex,st,da,bI ops]))] [] from old0 hl hs];refine bi hg ?_;refine bD (St S [(ro,some (12,[vl vb b,bI a,ty,im,fu,pg,mo,gl,ex,st,da,bI ops]))] []) (St S [(ro,some (12,[vl vb b,bI a,ty,im,fu,pg,mo,gl,ex,st,da,bI ops]))] []) [] ?_ (r:=by conv=>lhs; simp [QV,hg]);refine QL (cU') ?_;refine QZ ?_;refine QI ?_;refine QZ ?_;refine QI ?_;refine QW ?_
  repeat first|refine QG ?_|refine QY ?_ (r:=by conv=>lhs;simp[QV,hff,he1,qu,qq,qn])
  refine XQ E ?_;refine Wb rfl (hE' _ (jN (by simp)))
 | ok r =>
  rw [hq] at cU;obtain ⟨n,nx⟩:=r;have hnx:nx<=b.length:=by
   unfold lebS at hq;split at hq
   .cases hq
   .rename_i m k h';cases hq;have:=(ZD h' (by omega) (by omega)).2.1;rw [List.length_drop] at this;omega
  have cU':bF 148 [vl vb b,bI a,bH 64] (.tuple [.int .i64 n, .int .i64 nx, .agg [.int .i64 0, .int .i64 0, .int .i64 0]]):=cU;refine jc (c:=jf Tryz.f134) Tryz.func134 rfl rfl (by simp [Tryz.ntmps134]) ?_;rw [Tryz.ntmps134];intro hwf;have hl:=jx hwf hs;have hg:=old1 hl;have hu:=oldU hl;rw [show St S [] []=St S [(ro,some (12,[vl vb b,bI a,ty,im,fu,pg,mo,gl,ex,st,da,bI ops]))] [] from old0 hl hs];refine bi hg ?_;refine bD (St S [(ro,some (12,[vl vb b,bI a,ty,im,fu,pg,mo,gl,ex,st,da,bI ops]))] []) (St S [(ro,some (12,[vl vb b,bI a,ty,im,fu,pg,mo,gl,ex,st,da,bI ops]))] []) [] ?_ (r:=by conv=>lhs; simp [QV,hg]);refine QL (cU') ?_;refine QZ ?_;refine QI ?_;refine QZ ?_;refine QI ?_;refine QW ?_
  repeat first|refine QG ?_|refine QY ?_ (r:=by conv=>lhs;simp[QV,hff,qu,qq,qn,hg,hu])
  exact qK hwf hs (x:=n) (a':=nx) hq hnx (by simp) (by simp)
theorem jbv (ro:Nat):RdM Tryz.prog 106 [.ptr ro 0,bH 127] ro (fun n:Nat => .int .u64 n) (lift (Ja 127)):=by
 refine Jq fun b a ty im fu pg mo gl ex st da ops S E h1 h2 h3 h4 hs hE => ?_;refine jc (c:=jf Tryz.f106) Tryz.func106 rfl rfl (by simp [Tryz.ntmps106]) ?_;rw [Tryz.ntmps106];intro hwf;have hl:=jx hwf hs;have hg:=old1 hl;have hu:=oldU hl;rw [show St S [] []=St S [(ro,some (12,[vl vb b,bI a,ty,im,fu,pg,mo,gl,ex,st,da,bI ops]))] [] from old0 hl hs];refine bk ?_;refine XQ E ?_;refine jL rfl (axk ro) hl ?_ ?_
 .intro e he;exact hE e (by simp [Ja,Rd.bind_apply,he])
 intro n a1 hn ha1;have w1:IntKind.u32.wrap n=n % 4294967296:=aj3 n;have w2:IntKind.u64.wrap (n % 4294967296)=((low32 n:Nat):Int):=by rw [jZ,low32]; omega
 refine XN ?_ (r:=by conv=>lhs;simp[QV,w1,w2]);refine ja ?_;refine bk ?_;exact qK hwf hs (x:=low32 n) (by simp [Ja,Rd.bind_apply,hn]; rfl) ha1 (by simp) (by simp)
theorem jeG (ro:Nat):RdM Tryz.prog 106 [.ptr ro 0,bH 126] ro (fun n:Nat => .int .u64 n) (lift (Ja 126)):=by
 refine Jq fun b a ty im fu pg mo gl ex st da ops S E h1 h2 h3 h4 hs hE => ?_;refine jc (c:=jf Tryz.f106) Tryz.func106 rfl rfl (by simp [Tryz.ntmps106]) ?_;rw [Tryz.ntmps106];intro hwf;have hl:=jx hwf hs;have hg:=old1 hl;have hu:=oldU hl;rw [show St S [] []=St S [(ro,some (12,[vl vb b,bI a,ty,im,fu,pg,mo,gl,ex,st,da,bI ops]))] [] from old0 hl hs];refine bk ?_;refine XQ E ?_;refine jL rfl (ah1 ro) hl ?_ ?_
 .intro e he;exact hE e (by simp [Ja,Rd.bind_apply,he])
 intro n a1 hn ha1;have w2:IntKind.u64.wrap n=((low64 n:Nat):Int):=by rw [jZ,low64]; omega
 refine XN ?_ (r:=by conv=>lhs;simp[QV,w2]);refine ja ?_;refine bk ?_;exact qK hwf hs (x:=low64 n) (by simp [Ja,Rd.bind_apply,hn]; rfl) ha1 (by simp) (by simp)
def findI {α:Type} (p:α->Bool):List α->Nat->Int
 | [],_ => -1
 | x::xs,k=>if p x then (k:Int) else findI p xs (k+1)
theorem Wp {α:Type} (p:α->Bool) : ∀ (l:List α) (k:Nat),decide (0<=findI p l k)=l.any p
 | [],k=>by simp [findI]
 | x::xs,k=>by
   cases h:p x
   .simp [findI,h,Wp p xs (k+1)]
   .simp [findI,h]
theorem aum (l:List Int) (x:Int) (hl:l.length<2^63):bF 145 [vl bH l,bH x] (bH (findI (fun y=>decide (x=y)) l 0)):=by
 intro S;refine bE Tryz.func145 Tryz.ntmps145 fun hwf=>?_;refine bk ?_;refine bB [0,1,7,8] (fun c σ S' => ∃ (k:Nat),k<=l.length/\c=l.length-k/\findI (fun y=>decide (x=y)) (l.drop k) k=findI (fun y=>decide (x=y)) l 0/\σ=[(0,vl bH l),(1,bH x),(7,bI l.length),(8,bI k)]/\S'=St S [] []) l.length ?_ ?_
 .exact ⟨0,by omega,rfl,rfl,by simp [Fr.oy],rfl⟩
 .rintro c σ T ⟨k,hk,rfl,hd,rfl,rfl⟩;by_cases hkt:k<l.length
  .have hst:findI (fun y=>decide (x=y)) (l.drop k) k=if decide (x=l[k])=true then (k:Int) else findI (fun y=>decide (x=y)) (l.drop (k+1)) (k+1):=by rw [aj hkt,findI]
   have hw:=jP hkt hl;by_cases hp:x=l[k]
   .rw [if_pos (by simpa using hp)] at hst;refine bm hkt hp ?_;exact jd hwf (by rw [<-hd,hst]; rfl) rfl
   .rw [if_neg (by simpa using hp)] at hst;refine bm hkt hp ?_;show zI _ _ _ _ _ _ _;exact again ⟨al hkt (aN k),k+1,hkt,rfl,by rw [<-hd,hst],by simp [Fr.oy,hw],rfl⟩
  .have e:l.drop k=[]:=by rw [aA]; omega
   rw [e] at hd;refine bi hkt ?_;exact jd hwf (by rw [<-hd]; rfl) rfl
theorem aiq (l:List Int) (x:Int) (hl:l.length<2^63):bF 131 [vl bH l,bH x] (.bool (decide (x∈l))):=by
 intro S;have ci:=aum l x hl;have he:decide (x∈l)=decide (0<=findI (fun y=>decide (x=y)) l 0):=by
  rw [Wp,Bool.eq_iff_iff];simp
 rw [he];refine bE Tryz.func131 Tryz.ntmps131 fun hwf=>?_;refine bk ?_;refine QP ?_;refine QL ci ?_;refine bz ?_;exact bw
theorem jcn (ro:Nat) (l:List Int) (hl0:l.length<2^63):RdM Tryz.prog 94 [.ptr ro 0,vl bH l] ro bI (lift (one l)):=by
 refine Jq fun b a ty im fu pg mo gl ex st da ops S E h1 h2 h3 h4 hs hE => ?_;refine jc (c:=jf Tryz.f94) Tryz.func94 rfl rfl (by simp [Tryz.ntmps94]) ?_;rw [Tryz.ntmps94];intro hwf;have hl:=jx hwf hs;have hg:=old1 hl;have hu:=oldU hl;rw [show St S [] []=St S [(ro,some (12,[vl vb b,bI a,ty,im,fu,pg,mo,gl,ex,st,da,bI ops]))] [] from old0 hl hs];refine bk ?_;refine XQ E ?_;refine jL rfl (jao ro) hl ?_ ?_
 .intro e he;exact hE e (by simp [one,Rd.bind_apply,he])
 intro c a1 hc ha1;have cc:=aiq l (c:Int) hl0;by_cases hm:(c:Int)∈l
 .have hp:one l b a = .ok (c,a1):=by simp [one,Rd.bind_apply,hc,zE,hm,Rd.pure_apply]
  rw [bf hm] at cc;refine XN ?_;refine ja ?_;refine bk ?_;refine XQ E ?_;refine qr rfl (cc) ?_;refine XN ?_;refine ja ?_;refine bk ?_;exact qK hwf hs hp ha1 (by simp) (by simp)
 .have hp:one l b a = .error (6,(a1:Int)-1,0):=by simp [one,Rd.bind_apply,hc,zE,failAt,hm]
  rw [bg hm] at cc;have w1:IntKind.i64.wrap ((a1:Int)-1)=(a1:Int)-1:=wrap_i64 (by omega) (by omega);refine XN ?_;refine ja ?_;refine bk ?_;refine XQ E ?_;refine qr rfl (cc) ?_;refine XN ?_;refine ja ?_;refine bk ?_;refine XQ E ?_ (r:=by conv=>lhs;simp[QV,hg,w1]);refine jb rfl (qI _ _ _ E (fun T hk=>(hE _ hp) T (hk.up ?_ ?_))) ?_
  .simp
  .simp
  .rintro _ _ h; exact h.elim
theorem jaN (ro:Nat):RdM Tryz.prog 96 [.ptr ro 0] ro bI (lift kind):=by
 refine Jq fun b a ty im fu pg mo gl ex st da ops S E h1 h2 h3 h4 hs hE => ?_;refine jc (c:=jf Tryz.f96) Tryz.func96 rfl rfl (by simp [Tryz.ntmps96]) ?_;rw [Tryz.ntmps96];intro hwf;have hl:=jx hwf hs;have hg:=old1 hl;have hu:=oldU hl;rw [show St S [] []=St S [(ro,some (12,[vl vb b,bI a,ty,im,fu,pg,mo,gl,ex,st,da,bI ops]))] [] from old0 hl hs];refine bk ?_;refine XQ E ?_;refine jL rfl (jao ro) hl ?_ ?_
 .intro e he;exact hE e (by simp [kind,Rd.bind_apply,he])
 intro c a1 hc ha1;have w1:IntKind.i64.wrap ((a1:Int)-1)=(a1:Int)-1:=wrap_i64 (by omega) (by omega);refine XN ?_;refine ja ?_;by_cases c1:c=127
 .subst c1;have hp:kind b a = .ok (127,a1):=by simp [kind,Rd.bind_apply,hc,Rd.pure_apply]
  refine bk ?_;exact qK hwf hs hp ha1 (by simp) (by simp)
 have d1 : ¬ (c:Int)=127:=by omega
 by_cases c2:c=126
 .subst c2;have hp:kind b a = .ok (126,a1):=by simp [kind,Rd.bind_apply,hc,Rd.pure_apply]
  refine bk ?_;exact qK hwf hs hp ha1 (by simp) (by simp)
 have d2 : ¬ (c:Int)=126:=by omega
 by_cases c3:c=125
 .subst c3;have hp:kind b a = .error (11,(a1:Int)-1,0):=by simp [kind,Rd.bind_apply,hc,failAt]
  refine bk ?_;refine XQ E ?_ (r:=by conv=>lhs;simp[QV,hg,w1]);refine jb rfl (qI _ _ _ E (fun T hk=>(hE _ hp) T (hk.up ?_ ?_))) ?_
  .simp
  .simp
  .rintro _ _ h; exact h.elim
 have d3 : ¬ (c:Int)=125:=by omega
 by_cases c4:c=124
 .subst c4;have hp:kind b a = .error (11,(a1:Int)-1,0):=by simp [kind,Rd.bind_apply,hc,failAt]
  refine bk ?_;refine XQ E ?_ (r:=by conv=>lhs;simp[QV,hg,w1]);refine jb rfl (qI _ _ _ E (fun T hk=>(hE _ hp) T (hk.up ?_ ?_))) ?_
  .simp
  .simp
  .rintro _ _ h; exact h.elim
 have d4 : ¬ (c:Int)=124:=by omega
 have hp:kind b a = .error (6,(a1:Int)-1,0):=by simp [kind,Rd.bind_apply,hc,failAt,c1,c2,c3,c4]
 refine bq d1 d2 d3 d4 ?_;refine XQ E ?_ (r:=by conv=>lhs;simp[QV,hg,w1]);refine jb rfl (qI _ _ _ E (fun T hk=>(hE _ hp) T (hk.up ?_ ?_))) ?_
 .simp
 .simp
 .rintro _ _ h; exact h.elim
theorem qR {x:V} (h:x.closed=true):(x.cells.all V.one)=true:=by
 cases x with
 | agg xs =>
  simp only [V.closed,V.cells,ax] at h ⊢;intro y hy;have:=h y hy;cases y<;>first | rfl | simp [V.bK] at this
 | _=>simp only [V.cells,List.all_cons,List.all_nil,Bool.and_true]; first | rfl | simp [V.closed,V.bK] at h
theorem YZ (zs:List V):rep0 zs 1=zs:=by
 unfold rep0;split<;>simp
theorem aa3 {σ α:Type} (L:RL σ) (read:V) (enc:α->V) (p:σ->Except Flt (α × σ)) (most:Nat) (hmost:most<=4096) (hs : ∀ a,(enc a).cells.length=1) (hc : ∀ a,(enc a).closed=true) (hp:RdL Tryz.prog L read [] enc p) (hrd:OldV L.n0 read) (s:σ) (S:Store) (E:EP)
  (hi:L.inv s) (hh:HasU S (L.us s)) (hn:L.n0<=S.nx) (hE : ∀ e T,jI L most p s = .error e->Kept S L.ws T->E (jY 46 e) T) :
  VCallsX Tryz.prog 95 [.ptr L.ro 0,bH most,read] S (fun r T => ∃ xs s',jI L most p s = .ok (xs,s')/\L.inv s'/\r=vl enc xs/\T=putU S (L.us s')) E:=by
 have hm:=u_v L.ro most 7 (by omega);have w0:IntKind.u64.wrap (most:Int)=(most:Int):=by rw [jZ]; omega
 refine jc (c:=jf Tryz.f95) Tryz.func95 rfl rfl (by simp [Tryz.ntmps95]) ?_;rw [Tryz.ntmps95];intro hwf;have hk0:=L.lt hwf hh;have hrd':OldV S.nx read:=zW (fun o ho=>by simp at ho ⊢; omega) read hrd;have hd1:=hrd'.ren;have hd2:=hrd'.ids;rw [<-WS hh];refine bk ?_;refine Wa 7 1 rfl (by conv=>lhs; simp [Fr.set]) ?_;refine XQ E ?_ (r:=by conv=>lhs;simp[QV,w0]);refine jb rfl (rl_u hm hi hh hk0 fun e T he hk=>hE e T (by simp only [jI,he]) hk) ?_;rintro r T ⟨n,s1,hq,hi1,rfl,rfl⟩;have hall:jI L most p s=zO p n s1:=by simp only [jI,hq]
 have hn1:n<=most:=by
  simp only [qD,u] at hq;split at hq
  .cases hq
  .rename_i x a' h;split at h
   .cases h
   .split at h
    .cases h
    .cases h; cases hq; omega
 rw [hall] at hE ⊢;refine XN ?_;refine ja ?_;refine bk ?_;refine bB [2,7,11,12] (fun c σ' S' => ∃ (k:Nat) (xs:List α) (sk:_),k<=n/\c=n-k/\xs.length=k/\zO p k s1 = .ok (xs,sk)/\L.inv sk/\σ'=[(2,read),(7, .slice (lid S.nx 0) 0 k),(11,bI n),(12,bI k)]/\S'=St S (upsU (L.us sk)) [some (1,jF enc xs)]) n ?_ ?_
 .exact ⟨0,[],s1,by omega,rfl,rfl,rfl,hi1,by simp [Fr.oy],by simp [jF]⟩
 .rintro c σ' T ⟨k,xs,sk,hk,rfl,hlen,hxs,hik,rfl,rfl⟩;by_cases hkt:k<n
  .have hw:=jP hkt (by omega);refine bi hkt ?_;refine XQ E ?_;refine jV rfl rfl (Ys hp hik hh hk0 hn fun e T he hk'=>hE e T (Js k n s1 xs sk e hxs he hkt) hk') ?_;rintro r T ⟨x,s2,hx,hi2,rfl,rfl⟩;have hsn:=zT k s1 xs sk hxs;rw [hx] at hsn;have hz:=hs x;have hz1:(enc x).ncells=1:=by rw [<-hz]; cases enc x<;>rfl
   have hz2:((enc x).cells.all V.one)=true:=qR (hc x);have hb1:(k+1)*8<=140737488355328:=by omega
   have hb2:k+1<=140737488355328:=by omega
   have hfl:(jF enc xs).length=k*1:=by rw [zS hs,hlen]
   have hfs:jF enc (xs++[x])=jF enc xs++(enc x).cells:=zD enc xs x;have hgg:=fun ks=>WK (L.oldS hi2 hn) ks;have hr1:=fun f=>Ju hc f;have hr2:=fun p=>Je hc p;refine XN ?_ (r:=by conv=>lhs;simp[QV,-qx,qZ,YZ,hz1,hz2,hz,hb1,hb2,hfl]);rw [<-hfs];refine ja ?_;refine bi hw ?_;refine Jj [2] (by conv=>lhs; simp [Fr.oy]) hwf (by decide) (by simp [hgg,hr1,hr2,hd1,hd2]) (by conv=>lhs; simp [hgg,hr1,hr2,hd1,hd2]) (by conv=>lhs; simp [hgg,hr1,hr2,hd1,hd2]) (by conv=>lhs; simp [hgg,hr1,hr2,hd1,hd2]) ⟨?_,k+1,xs++[x],s2,hkt,rfl,by simp [hlen],hsn,hi2,by simp [hw],rfl⟩;omega
  .have hke:k=n:=by omega
   subst hke;refine bi hkt ?_;refine Ws (s0:=s) hs hc hwf hh hik hn (by simp [hlen]) ?_;exact ⟨_,_,hxs,hik,rfl,rfl⟩
theorem ag0 {σ α:Type} (L:RL σ) (read:V) (enc:α->V) (p:σ->Except Flt (α × σ)) (most:Nat) (hmost:most<=4096) (hs : ∀ a,(enc a).cells.length=1) (hc : ∀ a,(enc a).closed=true) (hp:RdL Tryz.prog L read [] enc p) (hrd:OldV L.n0 read) (s:σ) (S:Store) (E:EP)
  (hi:L.inv s) (hh:HasU S (L.us s)) (hn:L.n0<=S.nx) (hE : ∀ e T,jI L most p s = .error e->Kept S L.ws T->E (jY 46 e) T) :
  VCallsX Tryz.prog 115 [.ptr L.ro 0,bH most,read] S (fun r T => ∃ xs s',jI L most p s = .ok (xs,s')/\L.inv s'/\r=vl enc xs/\T=putU S (L.us s')) E:=by
 have hm:=u_v L.ro most 7 (by omega);have w0:IntKind.u64.wrap (most:Int)=(most:Int):=by rw [jZ]; omega
 refine jc (c:=jf Tryz.f115) Tryz.func115 rfl rfl (by simp [Tryz.ntmps115]) ?_;rw [Tryz.ntmps115];intro hwf;have hk0:=L.lt hwf hh;have hrd':OldV S.nx read:=zW (fun o ho=>by simp at ho ⊢; omega) read hrd;have hd1:=hrd'.ren;have hd2:=hrd'.ids;rw [<-WS hh];refine bk ?_;refine Wa 7 1 rfl (by conv=>lhs; simp [Fr.set]) ?_;refine XQ E ?_ (r:=by conv=>lhs;simp[QV,w0]);refine jb rfl (rl_u hm hi hh hk0 fun e T he hk=>hE e T (by simp only [jI,he]) hk) ?_;rintro r T ⟨n,s1,hq,hi1,rfl,rfl⟩;have hall:jI L most p s=zO p n s1:=by simp only [jI,hq]
 have hn1:n<=most:=by
  simp only [qD,u] at hq;split at hq
  .cases hq
  .rename_i x a' h;split at h
   .cases h
   .split at h
    .cases h
    .cases h; cases hq; omega
 rw [hall] at hE ⊢;refine XN ?_;refine ja ?_;refine bk ?_;refine bB [2,7,11,12] (fun c σ' S' => ∃ (k:Nat) (xs:List α) (sk:_),k<=n/\c=n-k/\xs.length=k/\zO p k s1 = .ok (xs,sk)/\L.inv sk/\σ'=[(2,read),(7, .slice (lid S.nx 0) 0 k),(11,bI n),(12,bI k)]/\S'=St S (upsU (L.us sk)) [some (1,jF enc xs)]) n ?_ ?_
 .exact ⟨0,[],s1,by omega,rfl,rfl,rfl,hi1,by simp [Fr.oy],by simp [jF]⟩
 .rintro c σ' T ⟨k,xs,sk,hk,rfl,hlen,hxs,hik,rfl,rfl⟩;by_cases hkt:k<n
  .have hw:=jP hkt (by omega);refine bi hkt ?_;refine XQ E ?_;refine jV rfl rfl (Ys hp hik hh hk0 hn fun e T he hk'=>hE e T (Js k n s1 xs sk e hxs he hkt) hk') ?_;rintro r T ⟨x,s2,hx,hi2,rfl,rfl⟩;have hsn:=zT k s1 xs sk hxs;rw [hx] at hsn;have hz:=hs x;have hz1:(enc x).ncells=1:=by rw [<-hz]; cases enc x<;>rfl
   have hz2:((enc x).cells.all V.one)=true:=qR (hc x);have hb1:(k+1)*1<=140737488355328:=by omega
   have hb2:k+1<=140737488355328:=by omega
   have hfl:(jF enc xs).length=k*1:=by rw [zS hs,hlen]
   have hfs:jF enc (xs++[x])=jF enc xs++(enc x).cells:=zD enc xs x;have hgg:=fun ks=>WK (L.oldS hi2 hn) ks;have hr1:=fun f=>Ju hc f;have hr2:=fun p=>Je hc p;refine XN ?_ (r:=by conv=>lhs;simp[QV,-qx,qZ,YZ,hz1,hz2,hz,hb1,hb2,hfl]);rw [<-hfs];refine ja ?_;refine bi hw ?_;refine Jj [2] (by conv=>lhs; simp [Fr.oy]) hwf (by decide) (by simp [hgg,hr1,hr2,hd1,hd2]) (by conv=>lhs; simp [hgg,hr1,hr2,hd1,hd2]) (by conv=>lhs; simp [hgg,hr1,hr2,hd1,hd2]) (by conv=>lhs; simp [hgg,hr1,hr2,hd1,hd2]) ⟨?_,k+1,xs++[x],s2,hkt,rfl,by simp [hlen],hsn,hi2,by simp [hw],rfl⟩;omega
  .have hke:k=n:=by omega
   subst hke;refine bi hkt ?_;refine Ws (s0:=s) hs hc hwf hh hik hn (by simp [hlen]) ?_;exact ⟨_,_,hxs,hik,rfl,rfl⟩
theorem arv {σ α:Type} (L:RL σ) (read:V) (enc:α->V) (p:σ->Except Flt (α × σ)) (most:Nat) (hmost:most<=4096) (hs : ∀ a,(enc a).cells.length=2) (hc : ∀ a,(enc a).closed=true) (hp:RdL Tryz.prog L read [] enc p) (hrd:OldV L.n0 read) (s:σ) (S:Store) (E:EP)
  (hi:L.inv s) (hh:HasU S (L.us s)) (hn:L.n0<=S.nx) (hE : ∀ e T,jI L most p s = .error e->Kept S L.ws T->E (jY 46 e) T) :
  VCallsX Tryz.prog 92 [.ptr L.ro 0,bH most,read] S (fun r T => ∃ xs s',jI L most p s = .ok (xs,s')/\L.inv s'/\r=vl enc xs/\T=putU S (L.us s')) E:=by
 have hm:=u_v L.ro most 7 (by omega);have w0:IntKind.u64.wrap (most:Int)=(most:Int):=by rw [jZ]; omega
 refine jc (c:=jf Tryz.f92) Tryz.func92 rfl rfl (by simp [Tryz.ntmps92]) ?_;rw [Tryz.ntmps92];intro hwf;have hk0:=L.lt hwf hh;have hrd':OldV S.nx read:=zW (fun o ho=>by simp at ho ⊢; omega) read hrd;have hd1:=hrd'.ren;have hd2:=hrd'.ids;rw [<-WS hh];refine bk ?_;refine Wa 7 2 rfl (by conv=>lhs; simp [Fr.set]) ?_;refine XQ E ?_ (r:=by conv=>lhs;simp[QV,w0]);refine jb rfl (rl_u hm hi hh hk0 fun e T he hk=>hE e T (by simp only [jI,he]) hk) ?_;rintro r T ⟨n,s1,hq,hi1,rfl,rfl⟩;have hall:jI L most p s=zO p n s1:=by simp only [jI,hq]
 have hn1:n<=most:=by
  simp only [qD,u] at hq;split at hq
  .cases hq
  .rename_i x a' h;split at h
   .cases h
   .split at h
    .cases h
    .cases h; cases hq; omega
 rw [hall] at hE ⊢;refine XN ?_;refine ja ?_;refine bk ?_;refine bB [2,7,11,12] (fun c σ' S' => ∃ (k:Nat) (xs:List α) (sk:_),k<=n/\c=n-k/\xs.length=k/\zO p k s1 = .ok (xs,sk)/\L.inv sk/\σ'=[(2,read),(7, .slice (lid S.nx 0) 0 k),(11,bI n),(12,bI k)]/\S'=St S (upsU (L.us sk)) [some (2,jF enc xs)]) n ?_ ?_
 .exact ⟨0,[],s1,by omega,rfl,rfl,rfl,hi1,by simp [Fr.oy],by simp [jF]⟩
 .rintro c σ' T ⟨k,xs,sk,hk,rfl,hlen,hxs,hik,rfl,rfl⟩;by_cases hkt:k<n
  .have hw:=jP hkt (by omega);refine bi hkt ?_;refine XQ E ?_;refine jV rfl rfl (Ys hp hik hh hk0 hn fun e T he hk'=>hE e T (Js k n s1 xs sk e hxs he hkt) hk') ?_;rintro r T ⟨x,s2,hx,hi2,rfl,rfl⟩;have hsn:=zT k s1 xs sk hxs;rw [hx] at hsn;have hz:=hs x;have hz1:(enc x).ncells=2:=by rw [<-hz]; cases enc x<;>rfl
   have hz2:((enc x).cells.all V.one)=true:=qR (hc x);have hb1:(k+1)*48<=140737488355328:=by omega
   have hb2:k+1<=140737488355328:=by omega
   have hfl:(jF enc xs).length=k*2:=by rw [zS hs,hlen]
   have hfs:jF enc (xs++[x])=jF enc xs++(enc x).cells:=zD enc xs x;have hgg:=fun ks=>WK (L.oldS hi2 hn) ks;have hr1:=fun f=>Ju hc f;have hr2:=fun p=>Je hc p;refine XN ?_ (r:=by conv=>lhs;simp[QV,-qx,qZ,YZ,hz1,hz2,hz,hb1,hb2,hfl]);rw [<-hfs];refine ja ?_;refine bi hw ?_;refine Jj [2] (by conv=>lhs; simp [Fr.oy]) hwf (by decide) (by simp [hgg,hr1,hr2,hd1,hd2]) (by conv=>lhs; simp [hgg,hr1,hr2,hd1,hd2]) (by conv=>lhs; simp [hgg,hr1,hr2,hd1,hd2]) (by conv=>lhs; simp [hgg,hr1,hr2,hd1,hd2]) ⟨?_,k+1,xs++[x],s2,hkt,rfl,by simp [hlen],hsn,hi2,by simp [hw],rfl⟩;omega
  .have hke:k=n:=by omega
   subst hke;refine bi hkt ?_;refine Ws (s0:=s) hs hc hwf hh hik hn (by simp [hlen]) ?_;exact ⟨_,_,hxs,hik,rfl,rfl⟩
theorem atl {σ α:Type} (L:RL σ) (read:V) (enc:α->V) (p:σ->Except Flt (α × σ)) (most:Nat) (hmost:most<=4096) (hs : ∀ a,(enc a).cells.length=3) (hc : ∀ a,(enc a).closed=true) (hp:RdL Tryz.prog L read [] enc p) (hrd:OldV L.n0 read) (s:σ) (S:Store) (E:EP)
  (hi:L.inv s) (hh:HasU S (L.us s)) (hn:L.n0<=S.nx) (hE : ∀ e T,jI L most p s = .error e->Kept S L.ws T->E (jY 46 e) T) :
  VCallsX Tryz.prog 97 [.ptr L.ro 0,bH most,read] S (fun r T => ∃ xs s',jI L most p s = .ok (xs,s')/\L.inv s'/\r=vl enc xs/\T=putU S (L.us s')) E:=by
 have hm:=u_v L.ro most 7 (by omega);have w0:IntKind.u64.wrap (most:Int)=(most:Int):=by rw [jZ]; omega
 refine jc (c:=jf Tryz.f97) Tryz.func97 rfl rfl (by simp [Tryz.ntmps97]) ?_;rw [Tryz.ntmps97];intro hwf;have hk0:=L.lt hwf hh;have hrd':OldV S.nx read:=zW (fun o ho=>by simp at ho ⊢; omega) read hrd;have hd1:=hrd'.ren;have hd2:=hrd'.ids;rw [<-WS hh];refine bk ?_;refine Wa 7 3 rfl (by conv=>lhs; simp [Fr.set]) ?_;refine XQ E ?_ (r:=by conv=>lhs;simp[QV,w0]);refine jb rfl (rl_u hm hi hh hk0 fun e T he hk=>hE e T (by simp only [jI,he]) hk) ?_;rintro r T ⟨n,s1,hq,hi1,rfl,rfl⟩;have hall:jI L most p s=zO p n s1:=by simp only [jI,hq]
 have hn1:n<=most:=by
  simp only [qD,u] at hq;split at hq
  .cases hq
  .rename_i x a' h;split at h
   .cases h
   .split at h
    .cases h
    .cases h; cases hq; omega
 rw [hall] at hE ⊢;refine XN ?_;refine ja ?_;refine bk ?_;refine bB [2,7,11,12] (fun c σ' S' => ∃ (k:Nat) (xs:List α) (sk:_),k<=n/\c=n-k/\xs.length=k/\zO p k s1 = .ok (xs,sk)/\L.inv sk/\σ'=[(2,read),(7, .slice (lid S.nx 0) 0 k),(11,bI n),(12,bI k)]/\S'=St S (upsU (L.us sk)) [some (3,jF enc xs)]) n ?_ ?_
 .exact ⟨0,[],s1,by omega,rfl,rfl,rfl,hi1,by simp [Fr.oy],by simp [jF]⟩
 .rintro c σ' T ⟨k,xs,sk,hk,rfl,hlen,hxs,hik,rfl,rfl⟩;by_cases hkt:k<n
  .have hw:=jP hkt (by omega);refine bi hkt ?_;refine XQ E ?_;refine jV rfl rfl (Ys hp hik hh hk0 hn fun e T he hk'=>hE e T (Js k n s1 xs sk e hxs he hkt) hk') ?_;rintro r T ⟨x,s2,hx,hi2,rfl,rfl⟩;have hsn:=zT k s1 xs sk hxs;rw [hx] at hsn;have hz:=hs x;have hz1:(enc x).ncells=3:=by rw [<-hz]; cases enc x<;>rfl
   have hz2:((enc x).cells.all V.one)=true:=qR (hc x);have hb1:(k+1)*40<=140737488355328:=by omega
   have hb2:k+1<=140737488355328:=by omega
   have hfl:(jF enc xs).length=k*3:=by rw [zS hs,hlen]
   have hfs:jF enc (xs++[x])=jF enc xs++(enc x).cells:=zD enc xs x;have hgg:=fun ks=>WK (L.oldS hi2 hn) ks;have hr1:=fun f=>Ju hc f;have hr2:=fun p=>Je hc p;refine XN ?_ (r:=by conv=>lhs;simp[QV,-qx,qZ,YZ,hz1,hz2,hz,hb1,hb2,hfl]);rw [<-hfs];refine ja ?_;refine bi hw ?_;refine Jj [2] (by conv=>lhs; simp [Fr.oy]) hwf (by decide) (by simp [hgg,hr1,hr2,hd1,hd2]) (by conv=>lhs; simp [hgg,hr1,hr2,hd1,hd2]) (by conv=>lhs; simp [hgg,hr1,hr2,hd1,hd2]) (by conv=>lhs; simp [hgg,hr1,hr2,hd1,hd2]) ⟨?_,k+1,xs++[x],s2,hkt,rfl,by simp [hlen],hsn,hi2,by simp [hw],rfl⟩;omega
  .have hke:k=n:=by omega
   subst hke;refine bi hkt ?_;refine Ws (s0:=s) hs hc hwf hh hik hn (by simp [hlen]) ?_;exact ⟨_,_,hxs,hik,rfl,rfl⟩
theorem aun {σ α:Type} (L:RL σ) (read:V) (enc:α->V) (p:σ->Except Flt (α × σ)) (most:Nat) (hmost:most<=4096) (hs : ∀ a,(enc a).cells.length=3) (hc : ∀ a,(enc a).closed=true) (hp:RdL Tryz.prog L read [] enc p) (hrd:OldV L.n0 read) (s:σ) (S:Store) (E:EP)
  (hi:L.inv s) (hh:HasU S (L.us s)) (hn:L.n0<=S.nx) (hE : ∀ e T,jI L most p s = .error e->Kept S L.ws T->E (jY 46 e) T) :
  VCallsX Tryz.prog 104 [.ptr L.ro 0,bH most,read] S (fun r T => ∃ xs s',jI L most p s = .ok (xs,s')/\L.inv s'/\r=vl enc xs/\T=putU S (L.us s')) E:=by
 have hm:=u_v L.ro most 7 (by omega);have w0:IntKind.u64.wrap (most:Int)=(most:Int):=by rw [jZ]; omega
 refine jc (c:=jf Tryz.f104) Tryz.func104 rfl rfl (by simp [Tryz.ntmps104]) ?_;rw [Tryz.ntmps104];intro hwf;have hk0:=L.lt hwf hh;have hrd':OldV S.nx read:=zW (fun o ho=>by simp at ho ⊢; omega) read hrd;have hd1:=hrd'.ren;have hd2:=hrd'.ids;rw [<-WS hh];refine bk ?_;refine Wa 7 3 rfl (by conv=>lhs; simp [Fr.set]) ?_;refine XQ E ?_ (r:=by conv=>lhs;simp[QV,w0]);refine jb rfl (rl_u hm hi hh hk0 fun e T he hk=>hE e T (by simp only [jI,he]) hk) ?_;rintro r T ⟨n,s1,hq,hi1,rfl,rfl⟩;have hall:jI L most p s=zO p n s1:=by simp only [jI,hq]
 have hn1:n<=most:=by
  simp only [qD,u] at hq;split at hq
  .cases hq
  .rename_i x a' h;split at h
   .cases h
   .split at h
    .cases h
    .cases h; cases hq; omega
 rw [hall] at hE ⊢;refine XN ?_;refine ja ?_;refine bk ?_;refine bB [2,7,11,12] (fun c σ' S' => ∃ (k:Nat) (xs:List α) (sk:_),k<=n/\c=n-k/\xs.length=k/\zO p k s1 = .ok (xs,sk)/\L.inv sk/\σ'=[(2,read),(7, .slice (lid S.nx 0) 0 k),(11,bI n),(12,bI k)]/\S'=St S (upsU (L.us sk)) [some (3,jF enc xs)]) n ?_ ?_
 .exact ⟨0,[],s1,by omega,rfl,rfl,rfl,hi1,by simp [Fr.oy],by simp [jF]⟩
 .rintro c σ' T ⟨k,xs,sk,hk,rfl,hlen,hxs,hik,rfl,rfl⟩;by_cases hkt:k<n
  .have hw:=jP hkt (by omega);refine bi hkt ?_;refine XQ E ?_;refine jV rfl rfl (Ys hp hik hh hk0 hn fun e T he hk'=>hE e T (Js k n s1 xs sk e hxs he hkt) hk') ?_;rintro r T ⟨x,s2,hx,hi2,rfl,rfl⟩;have hsn:=zT k s1 xs sk hxs;rw [hx] at hsn;have hz:=hs x;have hz1:(enc x).ncells=3:=by rw [<-hz]; cases enc x<;>rfl
   have hz2:((enc x).cells.all V.one)=true:=qR (hc x);have hb1:(k+1)*24<=140737488355328:=by omega
   have hb2:k+1<=140737488355328:=by omega
   have hfl:(jF enc xs).length=k*3:=by rw [zS hs,hlen]
   have hfs:jF enc (xs++[x])=jF enc xs++(enc x).cells:=zD enc xs x;have hgg:=fun ks=>WK (L.oldS hi2 hn) ks;have hr1:=fun f=>Ju hc f;have hr2:=fun p=>Je hc p;refine XN ?_ (r:=by conv=>lhs;simp[QV,-qx,qZ,YZ,hz1,hz2,hz,hb1,hb2,hfl]);rw [<-hfs];refine ja ?_;refine bi hw ?_;refine Jj [2] (by conv=>lhs; simp [Fr.oy]) hwf (by decide) (by simp [hgg,hr1,hr2,hd1,hd2]) (by conv=>lhs; simp [hgg,hr1,hr2,hd1,hd2]) (by conv=>lhs; simp [hgg,hr1,hr2,hd1,hd2]) (by conv=>lhs; simp [hgg,hr1,hr2,hd1,hd2]) ⟨?_,k+1,xs++[x],s2,hkt,rfl,by simp [hlen],hsn,hi2,by simp [hw],rfl⟩;omega
  .have hke:k=n:=by omega
   subst hke;refine bi hkt ?_;refine Ws (s0:=s) hs hc hwf hh hik hn (by simp [hlen]) ?_;exact ⟨_,_,hxs,hik,rfl,rfl⟩
theorem auh {σ α:Type} (L:RL σ) (read:V) (enc:α->V) (p:σ->Except Flt (α × σ)) (most:Nat) (hmost:most<=4096) (hs : ∀ a,(enc a).cells.length=3) (hc : ∀ a,(enc a).closed=true) (hp:RdL Tryz.prog L read [] enc p) (hrd:OldV L.n0 read) (s:σ) (S:Store) (E:EP)
  (hi:L.inv s) (hh:HasU S (L.us s)) (hn:L.n0<=S.nx) (hE : ∀ e T,jI L most p s = .error e->Kept S L.ws T->E (jY 46 e) T) :
  VCallsX Tryz.prog 107 [.ptr L.ro 0,bH most,read] S (fun r T => ∃ xs s',jI L most p s = .ok (xs,s')/\L.inv s'/\r=vl enc xs/\T=putU S (L.us s')) E:=by
 have hm:=u_v L.ro most 7 (by omega);have w0:IntKind.u64.wrap (most:Int)=(most:Int):=by rw [jZ]; omega
 refine jc (c:=jf Tryz.f107) Tryz.func107 rfl rfl (by simp [Tryz.ntmps107]) ?_;rw [Tryz.ntmps107];intro hwf;have hk0:=L.lt hwf hh;have hrd':OldV S.nx read:=zW (fun o ho=>by simp at ho ⊢; omega) read hrd;have hd1:=hrd'.ren;have hd2:=hrd'.ids;rw [<-WS hh];refine bk ?_;refine Wa 7 3 rfl (by conv=>lhs; simp [Fr.set]) ?_;refine XQ E ?_ (r:=by conv=>lhs;simp[QV,w0]);refine jb rfl (rl_u hm hi hh hk0 fun e T he hk=>hE e T (by simp only [jI,he]) hk) ?_;rintro r T ⟨n,s1,hq,hi1,rfl,rfl⟩;have hall:jI L most p s=zO p n s1:=by simp only [jI,hq]
 have hn1:n<=most:=by
  simp only [qD,u] at hq;split at hq
  .cases hq
  .rename_i x a' h;split at h
   .cases h
   .split at h
    .cases h
    .cases h; cases hq; omega
 rw [hall] at hE ⊢;refine XN ?_;refine ja ?_;refine bk ?_;refine bB [2,7,11,12] (fun c σ' S' => ∃ (k:Nat) (xs:List α) (sk:_),k<=n/\c=n-k/\xs.length=k/\zO p k s1 = .ok (xs,sk)/\L.inv sk/\σ'=[(2,read),(7, .slice (lid S.nx 0) 0 k),(11,bI n),(12,bI k)]/\S'=St S (upsU (L.us sk)) [some (3,jF enc xs)]) n ?_ ?_
 .exact ⟨0,[],s1,by omega,rfl,rfl,rfl,hi1,by simp [Fr.oy],by simp [jF]⟩
 .rintro c σ' T ⟨k,xs,sk,hk,rfl,hlen,hxs,hik,rfl,rfl⟩;by_cases hkt:k<n
  .have hw:=jP hkt (by omega);refine bi hkt ?_;refine XQ E ?_;refine jV rfl rfl (Ys hp hik hh hk0 hn fun e T he hk'=>hE e T (Js k n s1 xs sk e hxs he hkt) hk') ?_;rintro r T ⟨x,s2,hx,hi2,rfl,rfl⟩;have hsn:=zT k s1 xs sk hxs;rw [hx] at hsn;have hz:=hs x;have hz1:(enc x).ncells=3:=by rw [<-hz]; cases enc x<;>rfl
   have hz2:((enc x).cells.all V.one)=true:=qR (hc x);have hb1:(k+1)*32<=140737488355328:=by omega
   have hb2:k+1<=140737488355328:=by omega
   have hfl:(jF enc xs).length=k*3:=by rw [zS hs,hlen]
   have hfs:jF enc (xs++[x])=jF enc xs++(enc x).cells:=zD enc xs x;have hgg:=fun ks=>WK (L.oldS hi2 hn) ks;have hr1:=fun f=>Ju hc f;have hr2:=fun p=>Je hc p;refine XN ?_ (r:=by conv=>lhs;simp[QV,-qx,qZ,YZ,hz1,hz2,hz,hb1,hb2,hfl]);rw [<-hfs];refine ja ?_;refine bi hw ?_;refine Jj [2] (by conv=>lhs; simp [Fr.oy]) hwf (by decide) (by simp [hgg,hr1,hr2,hd1,hd2]) (by conv=>lhs; simp [hgg,hr1,hr2,hd1,hd2]) (by conv=>lhs; simp [hgg,hr1,hr2,hd1,hd2]) (by conv=>lhs; simp [hgg,hr1,hr2,hd1,hd2]) ⟨?_,k+1,xs++[x],s2,hkt,rfl,by simp [hlen],hsn,hi2,by simp [hw],rfl⟩;omega
  .have hke:k=n:=by omega
   subst hke;refine bi hkt ?_;refine Ws (s0:=s) hs hc hwf hh hik hn (by simp [hlen]) ?_;exact ⟨_,_,hxs,hik,rfl,rfl⟩
theorem arw {σ α:Type} (L:RL σ) (read:V) (enc:α->V) (p:σ->Except Flt (α × σ)) (most:Nat) (hmost:most<=4096) (hs : ∀ a,(enc a).cells.length=2) (hc : ∀ a,(enc a).closed=true) (hp:RdL Tryz.prog L read [] enc p) (hrd:OldV L.n0 read) (s:σ) (S:Store) (E:EP)
  (hi:L.inv s) (hh:HasU S (L.us s)) (hn:L.n0<=S.nx) (hE : ∀ e T,jI L most p s = .error e->Kept S L.ws T->E (jY 46 e) T) :
  VCallsX Tryz.prog 113 [.ptr L.ro 0,bH most,read] S (fun r T => ∃ xs s',jI L most p s = .ok (xs,s')/\L.inv s'/\r=vl enc xs/\T=putU S (L.us s')) E:=by
 have hm:=u_v L.ro most 7 (by omega);have w0:IntKind.u64.wrap (most:Int)=(most:Int):=by rw [jZ]; omega
 refine jc (c:=jf Tryz.f113) Tryz.func113 rfl rfl (by simp [Tryz.ntmps113]) ?_;rw [Tryz.ntmps113];intro hwf;have hk0:=L.lt hwf hh;have hrd':OldV S.nx read:=zW (fun o ho=>by simp at ho ⊢; omega) read hrd;have hd1:=hrd'.ren;have hd2:=hrd'.ids;rw [<-WS hh];refine bk ?_;refine Wa 7 2 rfl (by conv=>lhs; simp [Fr.set]) ?_;refine XQ E ?_ (r:=by conv=>lhs;simp[QV,w0]);refine jb rfl (rl_u hm hi hh hk0 fun e T he hk=>hE e T (by simp only [jI,he]) hk) ?_;rintro r T ⟨n,s1,hq,hi1,rfl,rfl⟩;have hall:jI L most p s=zO p n s1:=by simp only [jI,hq]
 have hn1:n<=most:=by
  simp only [qD,u] at hq;split at hq
  .cases hq
  .rename_i x a' h;split at h
   .cases h
   .split at h
    .cases h
    .cases h; cases hq; omega
 rw [hall] at hE ⊢;refine XN ?_;refine ja ?_;refine bk ?_;refine bB [2,7,11,12] (fun c σ' S' => ∃ (k:Nat) (xs:List α) (sk:_),k<=n/\c=n-k/\xs.length=k/\zO p k s1 = .ok (xs,sk)/\L.inv sk/\σ'=[(2,read),(7, .slice (lid S.nx 0) 0 k),(11,bI n),(12,bI k)]/\S'=St S (upsU (L.us sk)) [some (2,jF enc xs)]) n ?_ ?_
 .exact ⟨0,[],s1,by omega,rfl,rfl,rfl,hi1,by simp [Fr.oy],by simp [jF]⟩
 .rintro c σ' T ⟨k,xs,sk,hk,rfl,hlen,hxs,hik,rfl,rfl⟩;by_cases hkt:k<n
  .have hw:=jP hkt (by omega);refine bi hkt ?_;refine XQ E ?_;refine jV rfl rfl (Ys hp hik hh hk0 hn fun e T he hk'=>hE e T (Js k n s1 xs sk e hxs he hkt) hk') ?_;rintro r T ⟨x,s2,hx,hi2,rfl,rfl⟩;have hsn:=zT k s1 xs sk hxs;rw [hx] at hsn;have hz:=hs x;have hz1:(enc x).ncells=2:=by rw [<-hz]; cases enc x<;>rfl
   have hz2:((enc x).cells.all V.one)=true:=qR (hc x);have hb1:(k+1)*32<=140737488355328:=by omega
   have hb2:k+1<=140737488355328:=by omega
   have hfl:(jF enc xs).length=k*2:=by rw [zS hs,hlen]
   have hfs:jF enc (xs++[x])=jF enc xs++(enc x).cells:=zD enc xs x;have hgg:=fun ks=>WK (L.oldS hi2 hn) ks;have hr1:=fun f=>Ju hc f;have hr2:=fun p=>Je hc p;refine XN ?_ (r:=by conv=>lhs;simp[QV,-qx,qZ,YZ,hz1,hz2,hz,hb1,hb2,hfl]);rw [<-hfs];refine ja ?_;refine bi hw ?_;refine Jj [2] (by conv=>lhs; simp [Fr.oy]) hwf (by decide) (by simp [hgg,hr1,hr2,hd1,hd2]) (by conv=>lhs; simp [hgg,hr1,hr2,hd1,hd2]) (by conv=>lhs; simp [hgg,hr1,hr2,hd1,hd2]) (by conv=>lhs; simp [hgg,hr1,hr2,hd1,hd2]) ⟨?_,k+1,xs++[x],s2,hkt,rfl,by simp [hlen],hsn,hi2,by simp [hw],rfl⟩;omega
  .have hke:k=n:=by omega
   subst hke;refine bi hkt ?_;refine Ws (s0:=s) hs hc hwf hh hik hn (by simp [hlen]) ?_;exact ⟨_,_,hxs,hik,rfl,rfl⟩
theorem ase {σ α:Type} (L:RL σ) (read:V) (enc:α->V) (p:σ->Except Flt (α × σ)) (most:Nat) (hmost:most<=4096) (hs : ∀ a,(enc a).cells.length=3) (hc : ∀ a,(enc a).closed=true) (hp:RdL Tryz.prog L read [] enc p) (hrd:OldV L.n0 read) (s:σ) (S:Store) (E:EP)
  (hi:L.inv s) (hh:HasU S (L.us s)) (hn:L.n0<=S.nx) (hE : ∀ e T,jI L most p s = .error e->Kept S L.ws T->E (jY 46 e) T) :
  VCallsX Tryz.prog 100 [.ptr L.ro 0,bH most,read] S (fun r T => ∃ xs s',jI L most p s = .ok (xs,s')/\L.inv s'/\r = .slice S.nx 0 xs.length/\T=(putU S (L.us s')).add (3,jF enc xs)) E:=by
 have hm:=u_v L.ro most 7 (by omega);have w0:IntKind.u64.wrap (most:Int)=(most:Int):=by rw [jZ]; omega
 refine jc (c:=jf Tryz.f100) Tryz.func100 rfl rfl (by simp [Tryz.ntmps100]) ?_;rw [Tryz.ntmps100];intro hwf;have hk0:=L.lt hwf hh;have hrd':OldV S.nx read:=zW (fun o ho=>by simp at ho ⊢; omega) read hrd;have hd1:=hrd'.ren;have hd2:=hrd'.ids;rw [<-WS hh];refine bk ?_;refine Wa 7 3 rfl (by conv=>lhs; simp [Fr.set]) ?_;refine XQ E ?_ (r:=by conv=>lhs;simp[QV,w0]);refine jb rfl (rl_u hm hi hh hk0 fun e T he hk=>hE e T (by simp only [jI,he]) hk) ?_;rintro r T ⟨n,s1,hq,hi1,rfl,rfl⟩;have hall:jI L most p s=zO p n s1:=by simp only [jI,hq]
 have hn1:n<=most:=by
  simp only [qD,u] at hq;split at hq
  .cases hq
  .rename_i x a' h;split at h
   .cases h
   .split at h
    .cases h
    .cases h; cases hq; omega
 rw [hall] at hE ⊢;refine XN ?_;refine ja ?_;refine bk ?_;refine bB [2,7,11,12] (fun c σ' S' => ∃ (k:Nat) (xs:List α) (sk:_),k<=n/\c=n-k/\xs.length=k/\zO p k s1 = .ok (xs,sk)/\L.inv sk/\σ'=[(2,read),(7, .slice (lid S.nx 0) 0 k),(11,bI n),(12,bI k)]/\S'=St S (upsU (L.us sk)) [some (3,jF enc xs)]) n ?_ ?_
 .exact ⟨0,[],s1,by omega,rfl,rfl,rfl,hi1,by simp [Fr.oy],by simp [jF]⟩
 .rintro c σ' T ⟨k,xs,sk,hk,rfl,hlen,hxs,hik,rfl,rfl⟩;by_cases hkt:k<n
  .have hw:=jP hkt (by omega);refine bi hkt ?_;refine XQ E ?_;refine jV rfl rfl (Ys hp hik hh hk0 hn fun e T he hk'=>hE e T (Js k n s1 xs sk e hxs he hkt) hk') ?_;rintro r T ⟨x,s2,hx,hi2,rfl,rfl⟩;have hsn:=zT k s1 xs sk hxs;rw [hx] at hsn;have hz:=hs x;have hz1:(enc x).ncells=3:=by rw [<-hz]; cases enc x<;>rfl
   have hz2:((enc x).cells.all V.one)=true:=qR (hc x);have hb1:(k+1)*56<=140737488355328:=by omega
   have hb2:k+1<=140737488355328:=by omega
   have hfl:(jF enc xs).length=k*3:=by rw [zS hs,hlen]
   have hfs:jF enc (xs++[x])=jF enc xs++(enc x).cells:=zD enc xs x;have hgg:=fun ks=>WK (L.oldS hi2 hn) ks;have hr1:=fun f=>Ju hc f;have hr2:=fun p=>Je hc p;refine XN ?_ (r:=by conv=>lhs;simp[QV,-qx,qZ,YZ,hz1,hz2,hz,hb1,hb2,hfl]);rw [<-hfs];refine ja ?_;refine bi hw ?_;refine Jj [2] (by conv=>lhs; simp [Fr.oy]) hwf (by decide) (by simp [hgg,hr1,hr2,hd1,hd2]) (by conv=>lhs; simp [hgg,hr1,hr2,hd1,hd2]) (by conv=>lhs; simp [hgg,hr1,hr2,hd1,hd2]) (by conv=>lhs; simp [hgg,hr1,hr2,hd1,hd2]) ⟨?_,k+1,xs++[x],s2,hkt,rfl,by simp [hlen],hsn,hi2,by simp [hw],rfl⟩;omega
  .have hke:k=n:=by omega
   subst hke;refine bi hkt ?_;refine jn ⟨xs,sk,hxs,hik,by simp [hlen,lid], ?_⟩;rw [aau hwf hh (by rw [L.hks,L.hks]) (by rw [L.hks]; exact L.nd),qT]; rfl
end Go.Vw
