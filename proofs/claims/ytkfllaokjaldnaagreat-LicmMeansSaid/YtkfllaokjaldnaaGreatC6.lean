import Derived.Test.YtkfllaokjaldnaaGreatC5
import Derived.ChangeSlices
import Derived.ChangeArms
import Derived.DataReads
import Derived.Below
import Derived.SizedLaws
/- Part of the proof. -/
set_option linter.unusedVariables false
set_option linter.unusedSimpArgs false
/-
 Function proofs: how they begin, and how they end; stores told one object after the other.
-/
namespace Go.Vw
open Go.RowKit
def Jb (n:Nat) (R:V->Store->Prop) (r:V) (S1:Store):Prop := ∃ x' S',GhostB n r S1 x' S'/\R x' S'
theorem ab7 {P:Program} {f:FuncId} {fn:Func} {c:Code} {ts:List Nat} {args:List V} {S:Store} {R:V->Store->Prop} (hf:P.funcs[f]? = some fn) (hb:fn.body=some c) (ht:resT fn=some ts) (hn:args.length<=fn.ntmps)
  (h:S.Wf->VWp P fn.ntmps S.nx c (bodyV ts (Jb S.nx R)) (Kj 0 args) (St S [] [])):VCalls P f args S R:=by
 refine Jm fun hwf=>zq (qD hf hb ht hn ?_)
 have:=h hwf;rw [qv hwf] at this;exact this
theorem ja {S:Store} {l:List (Option (Nat × List V))} {r X:V} (hwf:S.Wf) (hr:r=X) (hx:X.ids (fun o=>decide (o<S.nx))=true):Jb S.nx (fun r S'=>r=X/\S'=S) r (St S [] l) :=
 ⟨X,S,by subst hr; exact GhostB.done hwf hx rfl (qv hwf),rfl,rfl⟩
theorem bS {S:Store} {l:List (Option (Nat × List V))} {r X:V} (hwf:S.Wf:=by assumption) (hr:r=X:=by exact rfl) (hx:X.ids (fun o=>decide (o<S.nx))=true:=by exact rfl):Jb S.nx (fun r S'=>r=X/\S'=S) r (St S [] l) :=ja hwf hr hx
theorem jf {S:Store} {l:List (Option (Nat × List V))} {r X:V} {S1:Store} (hwf:S.Wf) (hg:GhostB S.nx r S1 X (St S [] l)) (hx:X.ids (fun o=>decide (o<S.nx))=true):Jb S.nx (fun r S'=>r=X/\S'=S) r S1 :=
 ⟨X,S,hg.trans (GhostB.done hwf hx rfl (qv hwf)),rfl,rfl⟩
theorem Ka {S S':Store} {u:Upds} {l:List (Option (Nat × List V))} {r X:V} {R:V->Store->Prop} (hwf:S.Wf) (hr:r=X) (hx:X.ids (fun o=>decide (o<S.nx))=true) (hu:Km S.nx [] u=true) (hS:St S (gcU S.nx [] u) []=S') (hR:R X S'):Jb S.nx R r (St S u l) :=
 ⟨X,S',by subst hr; exact GhostB.done hwf hx hu hS,hR⟩
theorem zM {S S':Store} {r:V} {R:V->Store->Prop} (hR:R r S'):Jb S.nx R r S':=⟨r,S',GhostB.refl _ _ _,hR⟩
theorem frz1 {B:Store} {u:Upds} {l:List (Option (Nat × List V))} {k len:Nat} {cells:List V} (hk:k<l.length) (hc:(l[k]?).join=some (1,cells)) (hcl:cells.all V.cG=true) (hl:cells.length=len) :
  Ghost (.slice (lid B.nx k) 0 len) (St B u l) (.list cells) (St B u (l.set k none)):=by
 rw [<-ab1 hk];exact Ghost.freeze1 (by rw [jB]; exact hc) hcl hl
theorem jo {α:Type} (enc:α->V) (h : ∀ x,(enc x).cG=true) (l:List α):(l.map enc).all V.cG=true:=by simp [h]
/-! ### Names in values -/
section
variable (f:Nat->Nat) (p:Nat->Bool)
theorem agz (b):(V.bool b).ren f = .bool b:=nr (by simp [V.ren])
theorem awk (k n):(V.int k n).ren f = .int k n:=nr (by simp [V.ren])
theorem auu (s):(V.str s).ren f = .str s:=nr (by simp [V.ren])
theorem af4:V.nils.ren f = .nils:=nr (by simp [V.ren])
theorem ar8:V.nilp.ren f = .nilp:=nr (by simp [V.ren])
theorem ar2:V.nilm.ren f = .nilm:=nr (by simp [V.ren])
theorem arx:V.nilf.ren f = .nilf:=nr (by simp [V.ren])
theorem att:V.junk.ren f = .junk:=nr (by simp [V.ren])
theorem asg (xs):(V.list xs).ren f = .list xs:=nr (by simp [V.ren])
theorem awm (x):(V.ref x).ren f = .ref x:=nr (by simp [V.ren])
theorem awv (xs):(V.agg xs).ren f = .agg (V.renL f xs):=nr (by simp [V.ren])
theorem aoc (xs):(V.tuple xs).ren f = .tuple (V.renL f xs):=nr (by simp [V.ren])
theorem aq2 (g xs):(V.func g xs).ren f = .func g (V.renL f xs):=nr (by simp [V.ren])
theorem an0 (o a b):(V.slice o a b).ren f = .slice (f o) a b:=nr (by simp [V.ren])
theorem aww (o a):(V.ptr o a).ren f = .ptr (f o) a:=nr (by simp [V.ren])
theorem avj (o):(V.map o).ren f = .map (f o):=nr (by simp [V.ren])
theorem ao8 {α:Type} (enc:α->V) (l:List α):(vl enc l).ren f=vl enc l:=nr (by simp [vl,V.ren])
theorem aga (n):(cj n).ren f=cj n:=nr (by simp [cj,V.ren])
theorem age (n):(cu n).ren f=cu n:=nr (by simp [cu,V.ren])
theorem atv:V.renL f []=[]:=nr (by simp [V.renL])
theorem apc (x xs):V.renL f (x::xs)=x.ren f::V.renL f xs:=nr (by simp [V.renL])
theorem jaz (xs ys):V.renL f (xs++ys)=V.renL f xs++V.renL f ys:=by simp [qi]
theorem ZQ {α:Type} (enc:α->V) (h : ∀ x,(enc x).ren f=enc x) (l:List α):V.renL f (l.map enc)=l.map enc:=by simp [qi,h]
theorem jay (l:List Nat):V.renL f (l.map cu)=l.map cu:=ZQ f cu (age f) l
theorem am4 (l:List Int):V.renL f (l.map cj)=l.map cj:=ZQ f cj (aga f) l
theorem ad3 (l:List Bool):V.renL f (l.map V.bool)=l.map V.bool:=ZQ f V.bool (agz f) l
theorem ai9 {α:Type} (enc:α->V) (l:List (List α)):V.renL f (l.map (vl enc))=l.map (vl enc):=ZQ f (vl enc) (ao8 f enc) l
theorem afn (b):(V.bool b).ids p=true:=nr (by simp [V.ids])
theorem awr (k n):(V.int k n).ids p=true:=nr (by simp [V.ids])
theorem awo (s):(V.str s).ids p=true:=nr (by simp [V.ids])
theorem afb:V.nils.ids p=true:=nr (by simp [V.ids])
theorem atk:V.nilp.ids p=true:=nr (by simp [V.ids])
theorem arb:V.nilm.ids p=true:=nr (by simp [V.ids])
theorem auk:V.nilf.ids p=true:=nr (by simp [V.ids])
theorem atw:V.junk.ids p=true:=nr (by simp [V.ids])
theorem atl (xs):(V.list xs).ids p=true:=nr (by simp [V.ids])
theorem avd (x):(V.ref x).ids p=true:=nr (by simp [V.ids])
theorem axa (xs):(V.agg xs).ids p=V.idsL p xs:=nr (by simp [V.ids])
theorem ant (xs):(V.tuple xs).ids p=V.idsL p xs:=nr (by simp [V.ids])
theorem aq4 (g xs):(V.func g xs).ids p=V.idsL p xs:=nr (by simp [V.ids])
theorem apy (o a b):(V.slice o a b).ids p=p o:=nr (by simp [V.ids])
theorem awp (o a):(V.ptr o a).ids p=p o:=nr (by simp [V.ids])
theorem avx (o):(V.map o).ids p=p o:=nr (by simp [V.ids])
theorem amv {α:Type} (enc:α->V) (l:List α):(vl enc l).ids p=true:=nr (by simp [vl,V.ids])
theorem afu (n):(cj n).ids p=true:=nr (by simp [cj,V.ids])
theorem agj (n):(cu n).ids p=true:=nr (by simp [cu,V.ids])
theorem art:V.idsL p []=true:=nr (by simp [V.idsL])
theorem aqh (x xs):V.idsL p (x::xs)=(x.ids p&&V.idsL p xs):=nr (by simp [V.idsL])
theorem jaV (xs ys):V.idsL p (xs++ys)=(V.idsL p xs&&V.idsL p ys):=by simp [qF]
theorem ZV {α:Type} (enc:α->V) (h : ∀ x,(enc x).ids p=true) (l:List α):V.idsL p (l.map enc)=true:=by simp [qF,h]
theorem jaU (l:List Nat):V.idsL p (l.map cu)=true:=ZV p cu (agj p) l
theorem aoq (l:List Int):V.idsL p (l.map cj)=true:=ZV p cj (afu p) l
theorem adf (l:List Bool):V.idsL p (l.map V.bool)=true:=ZV p V.bool (afn p) l
theorem ajo {α:Type} (enc:α->V) (l:List (List α)):V.idsL p (l.map (vl enc))=true:=ZV p (vl enc) (amv p enc) l
end
theorem Yq {P:Program} {N:Nat} {Q:Exit->Fr->Store->Prop} {σ σ':Fr} {B:Store} {u u':Upds} {l l':List (Option (Nat × List V))} {c:Code} (ks:List Nat) (hw:B.Wf) (h1:ks.Nodup) (h2:(Km B.nx ks u&&YU B.nx ks l ks&&idsF (gcP B.nx ks) σ)=true)
  (hu:gcU B.nx ks u=u') (hl:gcL B.nx ks l ks=l') (hσ:renF (gcTo B.nx ks) σ=σ') (h:VWp P N B.nx c Q σ' (St B u' l')):VWp P N B.nx c Q σ (St B u l) :=
 jv (Reach.gc ks hw h1 h2 hu hl hσ) h
theorem qh {N:Nat} {I:Nat->Fr->Store->Prop} {ks:List Nat} {n n':Nat} {σ σ1 σ':Fr} {B:Store} {u u':Upds} {l l':List (Option (Nat × List V))} (gs:List Nat) (hσ1:σ.oy ks=σ1) (hw:B.Wf) (h1:gs.Nodup)
  (h2:(Km B.nx gs u&&YU B.nx gs l gs&&idsF (gcP B.nx gs) σ1)=true) (hu:gcU B.nx gs u=u') (hl:gcL B.nx gs l gs=l') (hσ:renF (gcTo B.nx gs) σ1=σ')
  (h:n'<n/\I n' σ' (St B u' l')):jx N B.nx I ks n σ (St B u l) :=
 ⟨n',h.1,σ',_,by rw [hσ1]; exact Reach.gc gs hw h1 h2 hu hl hσ,h.2⟩
/-! ### Operations on objects of one's own -/
section
variable {S:Store} {s b:Nat}
theorem ahx {k:IntKind} {o off len:Nat} {n:Int} (ho:(S.get o).isSome=true) (h0:0<=n) (h1:n<len):jF s S (.slice o off len) (.int k n)=some (.ptr o (off+n.toNat*s)):=by
 simp [jF,ho,h0,h1]
theorem am5 {o off len:Nat} (ho:(S.get o).isSome=true):KY S (.slice o off len)=some (.int .i64 (len:Int)):=by simp [KY,ho]
theorem zl {α:Type} {enc:α->V} {l:List α} {k:IntKind} {i:Nat} {x:α} (hs:(enc x).ncells=s) (h:l[i]? = some x):jF s S (vl enc l) (.int k (i:Int))=some (.ref (enc x)):=by
 simp [jF,vl,h,hs]
theorem jaI {α:Type} {enc:α->V} {l:List α} {k:IntKind} {x:α} (hs:(enc x).ncells=s) (h:l[0]? = some x):jF s S (vl enc l) (.int k 0)=some (.ref (enc x)):=by
 have:=zl (S:=S) (k:=k) hs h;simpa using this
theorem ak5 {k:IntKind} {o off len:Nat} {h:Int} {c:Nat × List V} (ho:S.get o=some c) (hs:c.1=s) (h0:0<=h) (h1:h<=len):qp s S (.slice o off len) none (some (.int k h)) none=some (.slice o off h.toNat):=by
 have e:h.toNat<=len:=by omega
 simp [qp,qG,h0,ho,hs,e]
theorem aht {k:IntKind} {o off len:Nat} {h:Int} {c:Nat × List V} (ho:S.get o=some c) (hs:c.1=s) (h0:0<=h) (h1:h<=len):qp s S (.slice o off len) (some (.int k h)) none none=some (.slice o (off+h.toNat*s) (len-h.toNat)):=by
 have e:h.toNat<=len:=by omega
 simp [qp,qG,h0,ho,hs,e]
theorem jcR {α:Type} {enc:α->V} {l:List α} {k:IntKind} {h:Int} (h0:0<=h) (h1:h<=l.length):qp s S (vl enc l) none (some (.int k h)) none=some (vl enc (l.take h.toNat)):=by
 have e:h.toNat<=l.length:=by omega
 simp [qp,qG,vl,h0,e]
theorem Kx {α:Type} {enc:α->V} {l:List α} {k:IntKind} {h:Int} (hs : ∀ x,(enc x).ncells=s) (h0:0<=h) (h1:h<=l.length):qp s S (vl enc l) (some (.int k h)) none none=some (vl enc (l.drop h.toNat)):=by
 have e:h.toNat<=l.length:=by omega
 simp [qp,qG,vl,h0,e,hs,List.take_of_length_le]
theorem akt:KY S .nils=some (.int .i64 0):=nr rfl
theorem jY {o o' len k:Nat} {cells new:List V} (ho:S.get o=some (s,cells)) (ho':S.get o'=some (s,new)) (hl:len*s=cells.length) (hk:k*s=new.length) (hb:(len+k)*b<=140737488355328) (hb1:len+k<=140737488355328) :
  jU s b S (.slice o 0 len) (.slice o' 0 k)=some (.slice S.nx 0 (len+k),(S.del o).add (s,cells++new)):=by
 have e1:jS s S (.slice o' 0 k)=some (new,k):=by simp [jS,ho',hk]
 simp [jU,e1,ho,hl,hb,hb1]
theorem jQ {o' k:Nat} {new:List V} (ho':S.get o'=some (s,new)) (hk:k*s=new.length) (hb:k*b<=140737488355328) (hb1:k<=140737488355328) :
  jU s b S .nils (.slice o' 0 k)=some (.slice S.nx 0 k,S.add (s,new)):=by
 have e1:jS s S (.slice o' 0 k)=some (new,k):=by simp [jS,ho',hk]
 simp [jU,e1,hb,hb1]
theorem jcV {o len:Nat} {xs:List V} {cells:List V} (ho:S.get o=some (s,cells)) (hx : ∀ x∈xs,x.ncells=s) (hl:len*s=cells.length) (hb:(len+xs.length)*b<=140737488355328) (hb1:len+xs.length<=140737488355328) :
  jU s b S (.slice o 0 len) (.list xs)=some (.slice S.nx 0 (len+xs.length),(S.del o).add (s,cells++xs.flatMap V.cells)):=by
 have e1:jS s S (.list xs)=some (xs.flatMap V.cells,xs.length):=by simpa [jS] using hx
 simp [jU,e1,ho,hl,hb,hb1]
theorem zS {xs:List V} (hx : ∀ x∈xs,x.ncells=s) (hb:xs.length*b<=140737488355328) (hb1:xs.length<=140737488355328) :
  jU s b S .nils (.list xs)=some (.slice S.nx 0 xs.length,S.add (s,xs.flatMap V.cells)):=by
 have e1:jS s S (.list xs)=some (xs.flatMap V.cells,xs.length):=by simpa [jS] using hx
 simp [jU,e1,hb,hb1]
theorem alp {zero:List V} {n:Nat} (hb:n*b<=140737488355328) (hb1:n<=140737488355328):WR s b zero S (.int .i64 (n:Int)) (.int .i64 (n:Int))=some (.slice S.nx 0 n,S.add (s,rep0 zero n)):=by
 simp [WR]; omega
theorem jcK (z:V) (n:Nat):rep0 [z] n=List.replicate n z:=nr rfl
theorem ahy (ρ:Arg->V) (cells:List V):ql ρ cells []=some cells:=nr rfl
theorem ahm (ρ:Arg->V) (cells:List V) (off sz:Nat) (x:Arg) (r:List (Nat × Nat × Arg)) :
  ql ρ cells ((off,sz,x)::r)=if (ρ x).ncells=sz/\off+sz<=cells.length/\((ρ x).cells.all V.one)=true then ql ρ (qg cells off (ρ x).cells) r else none:=nr rfl
end
theorem ao9 (cs:List V) (off:Nat) (xs:List V):qg cs off xs=cs.take off++xs++cs.drop (off+xs.length):=nr rfl
theorem aud (l:List Nat) (k x:Nat):(l.map cu).set k (.int .i64 (x:Int))=(l.set k x).map cu:=by simp [cu,List.map_set]
theorem ao3 (l:List Nat) (k x:Nat):(l.map cu).set k (.int .i64 ((x:Int)+1))=(l.set k (x+1)).map cu:=by simp [cu,List.map_set]
theorem auh (l:List Int) (k:Nat) (x:Int):(l.map cj).set k (.int .i64 x)=(l.set k x).map cj:=by simp [cj,List.map_set]
theorem auo (l:List Bool) (k:Nat) (x:Bool):(l.map V.bool).set k (.bool x)=(l.set k x).map V.bool:=by simp [List.map_set]
theorem jK {P:Program} {σ:Fr} {S:Store} {K:Fr->Store->Prop} {d:Option Nat} {f:FuncId} {args:List Arg} {xs:List V} {r:List CO} {R:V->Store->Prop} (ha:args.map (ev σ)=xs) (h:VCalls P f xs S R) (H : ∀ X S',R X S'->jI P none r K (σ.put d X) S'):jI P none (⟨d,none, .call f args⟩::r) K σ S:=by
 rw [Wj,ha]; exact h.mono H
theorem zH {P:Program} {σ:Fr} {S:Store} {K:Fr->Store->Prop} {d:Option Nat} {g:FuncId} {caps:List V} {fz:Arg} {args:List Arg} {xs:List V} {r:List CO} {R:V->Store->Prop} (hf:ev σ fz = .func g caps) (hc:jT P g=true) (ha:args.map (ev σ)++caps=xs) (h:VCalls P g xs S R) (H : ∀ X S',R X S'->jI P none r K (σ.put d X) S'):jI P none (⟨d,none, .callv fz args⟩::r) K σ S:=by
 rw [jcr,hf]; simp only [vcallv]; rw [ha]; exact ⟨hc,h.mono H⟩
def GhostArgs (xs:List V) (S:Store) (xs':List V) (S':Store):Prop := ∀ m β w vs,Holds S m β w->RepL m β xs vs -> ∃ m' β',Holds S' m' β' w/\Ext m β w m' β' w/\RepL m' β' xs' vs
theorem GhostArgs.one (pre post:List V) {x x':V} {S S':Store} (hg:Ghost x S x' S'):GhostArgs (pre++x::post) S (pre++x'::post) S':=by
 intro m β w vs hS hr;have hi:pre.length<vs.length:=by rw [<-hr.1]; simp
 obtain ⟨m',β',h1,h2,h3⟩:=hg m β w vs[pre.length] hS (hr.2 pre.length x _ (by simp) (ac hi));refine ⟨m',β',h1,h2,by rw [<-hr.1]; simp,fun i y u hy hu => ?_⟩
 by_cases e:i=pre.length
 .subst e;simp at hy; subst hy;rw [ac hi] at hu; cases hu;exact h3
 .refine h2.rep (hr.2 i y u ?_ hu);rw [<-hy];simp only [List.getElem?_append];split
  .rfl
  .rename_i hlt;have:i-pre.length=(i-pre.length-1)+1:=by omega
   rw [this]; rfl
theorem GhostArgs.trans {xs xs' xs'':List V} {S S' S'':Store} (h:GhostArgs xs S xs' S') (k:GhostArgs xs' S' xs'' S''):GhostArgs xs S xs'' S'':=by
 intro m β w vs hS hr;obtain ⟨m',β',h1,h2,h3⟩:=h m β w vs hS hr;obtain ⟨m'',β'',k1,k2,k3⟩:=k m' β' w vs h1 h3;exact ⟨m'',β'',k1,h2.trans k2,k3⟩
theorem Ke {P:Program} {f:FuncId} {xs xs':List V} {S S':Store} {R:V->Store->Prop} (hg:GhostArgs xs S xs' S') (h:VCalls P f xs' S' R):VCalls P f xs S R:=by
 intro m β w vs hS hr;obtain ⟨m',β',h1,h2,h3⟩:=hg m β w vs hS hr;refine (h m' β' w vs h1 h3).mono ?_;rintro e w' ⟨v,x,S1,m1,β1,he,hQ,k1,k2,k3⟩;exact ⟨v,x,S1,m1,β1,he,hQ,k1,k2,h2.trans k3⟩
theorem zf {P:Program} {σ:Fr} {S S':Store} {K:Fr->Store->Prop} {d:Option Nat} {f:FuncId} {args:List Arg} {xs xs':List V} {r:List CO} {X:V} (ha:args.map (ev σ)=xs) (hg:GhostArgs xs S xs' S') (h:VPure P f xs' X) (H:jI P none r K (σ.put d X) S'):jI P none (⟨d,none, .call f args⟩::r) K σ S:=by
 rw [Wj,ha]; exact Ke hg (h.use H)
theorem axn {P:Program} {N b:Nat} {Q:Exit->Fr->Store->Prop} {σ:Fr} {S:Store} {c:Code} (Φ:Store->Prop) (h:Φ S) (k : ∀ T,Φ T->VWp P N b c Q σ T):VWp P N b c Q σ S:=k S h
theorem au7 (a b:Int):(a==b)=decide (a=b):=by
 by_cases h:a=b<;>simp [h]
theorem avb (a b:Int):(a != b) = !decide (a=b):=by
 by_cases h:a=b<;>simp [h]
def upTo {α:Type} (f:Nat->α) (n:Nat):List α:=(List.range n).map f
theorem agm {α:Type} (f:Nat->α) (n:Nat):(upTo f n).length=n:=by simp [upTo]
theorem am6 {α:Type} (f:Nat->α) (n:Nat):upTo f (n+1)=upTo f n++[f n]:=by simp [upTo,List.range_succ]
theorem amt {α:Type} (f:Nat->α):upTo f 0=[]:=rfl
/-! ### Parts of a store -/
def subL:List (Option (Nat × List V))->List (Option (Nat × List V))->Prop
 | [],_=>True
 | none::r,[]=>subL r []
 | none::r,_::r'=>subL r r'
 | some _::_,[]=>False
 | some c::r,c'::r'=>c'=some c/\subL r r'
def shpL:List (Option (Nat × List V))->List (Option (Nat × List V))->Prop
 | [],_=>True
 | none::r,[]=>shpL r []
 | none::r,_::r'=>shpL r r'
 | some _::_,[]=>False
 | some c::r,c'::r'=>c'.map (·.1)=some c.1/\shpL r r'
theorem ZK : ∀ (l l':List (Option (Nat × List V))),subL l l' -> ∀ (k:Nat) c,(l[k]?).join=some c->(l'[k]?).join=some c
 | [],_,_,k,c,h=>by simp at h
 | none::r,[],h,0,c,hc=>by simp at hc
 | none::r,[],h,k+1,c,hc=>by
  have:=ZK r [] (by simpa [subL] using h) k c (by simpa using hc);simp at this
 | none::r,_::r',h,0,c,hc=>by simp at hc
 | none::r,_::r',h,k+1,c,hc=>by
  have:=ZK r r' (by simpa [subL] using h) k c (by simpa using hc);simpa using this
 | some _::_,[],h,_,_,_=>by simp [subL] at h
 | some d::r,c'::r',h,0,c,hc=>by
  simp only [subL] at h;obtain ⟨rfl,_⟩:=h;simpa using hc
 | some d::r,c'::r',h,k+1,c,hc=>by
  simp only [subL] at h;have:=ZK r r' h.2 k c (by simpa using hc);simpa using this
theorem ZL : ∀ (l l':List (Option (Nat × List V))),shpL l l' -> ∀ (k:Nat) c,(l[k]?).join=some c -> ∃ c',(l'[k]?).join=some c'/\c'.1=c.1
 | [],_,_,k,c,h=>by simp at h
 | none::r,[],h,0,c,hc=>by simp at hc
 | none::r,[],h,k+1,c,hc=>by
  have:=ZL r [] (by simpa [shpL] using h) k c (by simpa using hc);simp at this
 | none::r,_::r',h,0,c,hc=>by simp at hc
 | none::r,_::r',h,k+1,c,hc=>by
  have:=ZL r r' (by simpa [shpL] using h) k c (by simpa using hc);simpa using this
 | some _::_,[],h,_,_,_=>by simp [shpL] at h
 | some d::r,c'::r',h,0,c,hc=>by
  simp only [shpL] at h;simp at hc; subst hc;obtain ⟨e,he,h1⟩:=av.1 h.1;exact ⟨e,by simp [he],h1⟩
 | some d::r,c'::r',h,k+1,c,hc=>by
  simp only [shpL] at h;have:=ZL r r' h.2 k c (by simpa using hc);simpa using this
theorem Wc {B:Store} {u u':Upds} {l l':List (Option (Nat × List V))} (hu : ∀ o d c,uGet u o d=some c->uGet u' o d=some c) (h:subL l l'):(St B u l).Sub (St B u' l'):=by
 intro o c hc;rw [qJ] at hc ⊢;split
 .rename_i ho; rw [if_pos ho] at hc; exact hu _ _ _ hc
 .rename_i ho; rw [if_neg ho] at hc; exact ZK _ _ h _ _ hc
theorem ay4 {B:Store} {u u':Upds} {l l':List (Option (Nat × List V))} (hu : ∀ o d c,uGet u o d=some c -> ∃ c',uGet u' o d=some c'/\c'.1=c.1) (h:shpL l l'):(St B u l).Shp (St B u' l'):=by
 intro o c hc;rw [qJ] at hc ⊢;split
 .rename_i ho; rw [if_pos ho] at hc; exact hu _ _ _ hc
 .rename_i ho; rw [if_neg ho] at hc; exact ZL _ _ h _ _ hc
def subU:Upds->Upds->Prop
 | [],[]=>True
 | (k,c)::r,(k',c')::r'=>k=k'/\(c=none\/c'=c)/\subU r r'
 | _,_=>False
def shpU:Upds->Upds->Prop
 | [],[]=>True
 | (k,c)::r,(k',c')::r'=>k=k'/\(c=none\/c'.map (·.1)=c.map (·.1))/\shpU r r'
 | _,_=>False
theorem zu : ∀ (u u':Upds),subU u u' -> ∀ o d c,uGet u o d=some c->uGet u' o d=some c
 | [],[],_,o,d,c,h=>h
 | [],_::_,h,_,_,_,_=>by simp [subU] at h
 | _::_,[],h,_,_,_,_=>by simp [subU] at h
 | (k,c1)::r,(k',c2)::r',h,o,d,c,hc=>by
  simp only [subU] at h;obtain ⟨rfl,h1,h2⟩:=h;simp only [uGet] at hc ⊢;split
  .rename_i e;rw [if_pos e] at hc;rcases h1 with rfl | rfl
   .cases hc
   .exact hc
  .rename_i e;rw [if_neg e] at hc;exact zu r r' h2 o d c hc
theorem aez : ∀ (u u':Upds),shpU u u' -> ∀ o d c,uGet u o d=some c -> ∃ c',uGet u' o d=some c'/\c'.1=c.1
 | [],[],_,o,d,c,h=>⟨c,h,rfl⟩
 | [],_::_,h,_,_,_,_=>by simp [shpU] at h
 | _::_,[],h,_,_,_,_=>by simp [shpU] at h
 | (k,c1)::r,(k',c2)::r',h,o,d,c,hc=>by
  simp only [shpU] at h;obtain ⟨rfl,h1,h2⟩:=h;simp only [uGet] at hc ⊢;split
  .rename_i e;rw [if_pos e] at hc;subst hc;rcases h1 with h1 | h1
   .cases h1
   .obtain ⟨c',h3,h4⟩:=av.1 h1;exact ⟨c',h3,h4⟩
  .rename_i e;rw [if_neg e] at hc;exact aez r r' h2 o d c hc
theorem Ky {S0 B:Store} {uc us u:Upds} {lc ls l:List (Option (Nat × List V))} {es:List Nat} (h0:subU uc u/\shpU us u/\subL lc l/\shpL ls l):(ZZ.mk S0 (St B uc lc) (St B us ls) es).ok (St B u l) :=
 ⟨Wc (zu _ _ h0.1) h0.2.2.1,ay4 (aez _ _ h0.2.1) h0.2.2.2⟩
theorem agc {P:Program} {N b:Nat} {Q:Exit->Fr->Store->Prop} {σ σ':Fr} {S S':Store} {c:Code} {cs rest:List CO} (zc zs:Store) (es:List Nat) (h:Code.kind c=2) (hm:P.follows .mixedOrders=true) {ms:List Nat} (hM:qV (Code.ops c)=ms) (hc:qj P N (Code.ops c)=some cs) (hB:lexW es ms (Code.ops c) cs cs.length 0 (Array.replicate (Code.ops c).size false)=true)
  (hE:zD ms cs es=true) (hz:(ZZ.mk S zc zs es).ok S) (hr:runV (some (ZZ.mk S zc zs es)) cs σ S=some (rest,σ',S')) (H:jI P (some (ZZ.mk S zc zs es)) rest (Q .normal) σ' S'):VWp P N b c Q σ S :=
 jbG _ h hm hM hc hB hE hz S.sub_refl hr H
theorem jdq {S:Store} {o:Nat} {c:Nat × List V} (hwf:S.Wf) (ho:o<S.nx):St S [(o,some c)] []=S.upd o c:=by
 have := @qS S [] [] c o ho;rw [qv hwf] at this;exact this.symm
theorem Kd {B:Store} {o:Nat} {c:Nat × List V} {l:List (Option (Nat × List V))} (h:B.get o=some c):St B [] l=St B [(o,some c)] l:=by
 refine Store.ext' (funext fun o' => ?_) rfl;rw [qJ,qJ];split
 .simp only [uGet]; split
  .rename_i e; subst e; exact h
  .rfl
 .rfl
theorem Reach.trim {N b:Nat} {σ:Fr} {S:Store} {o off len:Nat} {c:Nat × List V} (t:Nat) (ht:σ.lk t = .slice o off len) (hc:S.get o=some c) (k:Nat):Reach N b σ S σ (S.upd o (c.1,c.2.take k)):=by
 intro m β w a hS hF;have hlt:=hS.lt hc;refine ⟨m,β,⟨hS.imm,hS.apart,hS.inj,hS.fresh,fun o' ho' => ?_,fun o' ho' hn => ?_,fun o' c' hc' => ?_⟩,hF,ExtB.refl _ _ _ _⟩
 .rw [qf];have:S.nx<=o':=ho';rw [if_neg (by omega)]; exact hS.gone o' ho'
 .rw [qf] at hn
  by_cases e:o'=o
  .rw [if_pos e] at hn; cases hn
  .rw [if_neg e] at hn; exact hS.dead o' ho' hn
 .rw [qf] at hc'
  by_cases e:o'=o
  .rw [if_pos e] at hc'
   cases hc'
   subst e;have hl:=hS.live o' c hc
   cases hβ:β o' with
   | fresh=>rw [hβ] at hl; exact hl.elim
   | dead=>rw [hβ] at hl; exact hl.elim
   | void=>rw [hβ] at hl; simp only [Live] at hl ⊢; rw [hl]; simp
   | lies b' base s n =>
    rw [hβ] at hl;obtain ⟨h0,arr,T,h1,h2,h3,h4⟩:=hl;refine ⟨h0,arr,T,h1,h2, ?_,fun i x hx=>h4 i x ?_⟩
    .have:(c.2.take k).length<=c.2.length:=by rw [List.length_take]; exact Nat.min_le_right _ _
     simp only at h3 ⊢; rw [List.length_take]; omega
    .simp only at hx;rw [List.getElem?_take] at hx;split at hx
     .exact hx
     .cases hx
   | mp b' =>
    exfalso
    have hr:=hF.rep t;rw [ht] at hr;generalize a.tmps.getD t undef=v at hr
    cases hr with
    | imm h=>cases h
    | sliceDead _ _ _ _ h1=>rw [hβ] at h1; cases h1
    | sliceVoid _ _ _ h1=>rw [hβ] at h1; cases h1
    | slice _ _ _ _ _ _ _ _ _ h1=>rw [hβ] at h1; cases h1
  .rw [if_neg e] at hc'; exact hS.live o' c' hc'
theorem acz {P:Program} {N:Nat} {Q:Exit->Fr->Store->Prop} {σ:Fr} {B:Store} {u:Upds} {l l':List (Option (Nat × List V))} {c:Code} {k off len s:Nat} {cells:List V} (t j:Nat) (ht:σ.lk t = .slice (lid B.nx k) off len) (hk:k<l.length) (hc:(l[k]?).join=some (s,cells))
  (hl:l.set k (some (s,cells.take j))=l') (h:VWp P N B.nx c Q σ (St B u l')):VWp P N B.nx c Q σ (St B u l):=by
 subst hl;have:=Reach.trim (N:=N) (b:=B.nx) (S:=St B u l) t ht (by rw [jB]; exact hc) j;rw [JM hk] at this;exact jv this h
theorem qZ {P:Program} {N:Nat} {Q:Exit->Fr->Store->Prop} {σ σ':Fr} {B:Store} {u:Upds} {l:List (Option (Nat × List V))} {c:Code} (t s:Nat) (ht:σ.lk t = .nils) (hs:σ.set t (.slice (lid B.nx l.length) 0 0)=σ') (h:VWp P N B.nx c Q σ' (St B u (l++[some (s,[])]))):VWp P N B.nx c Q σ (St B u l):=by
 rw [<-jbn] at h;exact jy t ht (Ghost.nils (St B u l) s) hs h
end Go.Vw
/-
 From an argument's reading to a value without addresses; from a contract to what a row asks.
-/
namespace Go.Vw
open Go.RowKit Go.ChangeShapes Go.WideShapes
def whole (w:World):Imm:=fun b=>w.heap[b]?
def ReadsC (P:Program) (t:TypeId) {α:Type} (enc:α->List V) (ok:α->Prop):Prop :=
 ∀ (H:Type) (en:TypeId × Value->H) (w:World) (fuel:Nat) (cs:List Value) d,DataW.trod en P w 0 (fun _=>true) true fuel t cs=some d->(∀ n∈d.1.weights P t,n<=reachBytes) ->
  ∃ a,ok a/\(enc a).length=cs.length/\(∀ (i:Nat) x v,(enc a)[i]? = some x->cs[i]? = some v->RepI (whole w) x v) /\ ∀ v∈cs,v.oneCell'=true
theorem ReadsC.int {P:Program} {t:TypeId} {k:IntKind} (ht:P.underlying t=some (.int k)):ReadsC P t (fun n:Int=>[.int k n]) (fun n=>(Lit.int k n).wf=true):=by
 intro H en w fuel cs d h _;obtain ⟨n,rfl,rfl,hw⟩:=DataW.trod_int ht h;refine ⟨n,hw,rfl,fun i x v hx hv => ?_,by simp [Value.oneCell']⟩
 cases i with
 | zero=>simp at hx hv; subst hx; subst hv; exact .int k n
 | succ i=>simp at hx
theorem ReadsC.bool {P:Program} {t:TypeId} (ht:P.underlying t=some .bool):ReadsC P t (fun b:Bool=>[.bool b]) (fun _=>True):=by
 intro H en w fuel cs d h _;obtain ⟨b,rfl,_⟩:=DataW.trod_bool ht h;refine ⟨b,trivial,rfl,fun i x v hx hv => ?_,by simp [Value.oneCell']⟩
 cases i with
 | zero=>simp at hx hv; subst hx; subst hv; exact .bool b
 | succ i=>simp at hx
theorem Zb {w:World} {base:Nat} {a:Addr} {n:Nat} {cs:List Value} (h:w.cells? base a n=some cs):cs.length=n /\ ∀ i,i<n->w.cell? (a.add i)=cs[i]? := by
 have:=World.cells?_some h;exact ⟨this.2.1,this.2.2⟩
theorem jab (b off n:Nat):(⟨b,off,none⟩:Addr).add n=⟨b,off+n,none⟩:=by
 unfold Addr.add; split
 .rename_i h; subst h; rfl
 .rfl
theorem adv {α β:Type} {f:Nat->Option β} : ∀ (n:Nat),(∀ i,i<n -> ∃ y,f i=some y) -> ∃ l:List β,l.length=n /\ ∀ i,i<n->l[i]? = f i
 | 0,_=>⟨[],rfl,fun i h=>by omega⟩
 | n+1,h=>by
  obtain ⟨l,h1,h2⟩:=adv (α:=α) n fun i hi=>h i (by omega)
  obtain ⟨y,hy⟩:=h n (by omega);refine ⟨l++[y],by simp [h1],fun i hi => ?_⟩
  by_cases e:i<n
  .rw [aT (by omega),h2 i e]
  .have:i=n:=by omega
   subst this;rw [bf (by omega),h1,hy]; simp
theorem Wb {H:Type} {P:Program} {e:TypeId} : ∀ {ds:List (DataW H)} {i:Nat} {d:DataW H},ds[i]? = some d -> ∀ n∈d.weights P e,n∈DataW.weightsAll P e ds
 | d0::ds,0,d,hd,n,hn=>by
  simp only [aK,ay] at hd;subst hd;simp only [DataW.weightsAll,aG];exact Or.inl hn
 | d0::ds,i+1,d,hd,n,hn=>by
  simp only [List.getElem?_cons_succ] at hd;simp only [DataW.weightsAll,aG];exact Or.inr (Wb hd n hn)
 | [],_,_,hd,_,_=>by simp at hd
theorem ReadsC.slice {P:Program} {t e:TypeId} {α:Type} {enc:α->List V} {ok:α->Prop} (elV:α->V) (ht:P.underlying t=some (.slice e)) (he:ReadsC P e enc ok) (hs:0<P.cellsOf e) (hel : ∀ a,elV a = .agg (enc a)\/enc a=[elV a]) :
  ReadsC P t (fun l:List α=>[vl elV l]) (fun l=>(l.length<2^63/\l.length*P.bytesOf e<=140737488351232) /\ ∀ a∈l,ok a):=by
 intro H en w fuel cs d h hwt;rcases DataW.trod_slice ht h with ⟨rfl,rfl⟩ | ⟨a,len,cap,elems,rest,n,rfl,rfl,rfl,hb,hl,hm,hlen,hall,_,_⟩
 .refine ⟨[],⟨⟨by simp,by simp⟩,by simp⟩,rfl,fun i x v hx hv => ?_,by simp [Value.oneCell']⟩
  cases i with
  | zero=>simp at hx hv; subst hx; subst hv; exact .list0 none 0 (Nat.zero_le _)
  | succ i=>simp at hx
 .have hml:maxLen<2^63:=by simp [maxLen]
  have hwl:(elems.length+rest.length)*P.bytesOf e<=140737488351232:=hwt _ (by simp [DataW.weights,ht]);have hwe : ∀ (i:Nat) (x:DataW H × List MemPlace),elems[i]? = some x -> ∀ n∈x.1.weights P e,n<=reachBytes:=fun i x hx n hn=>hwt n (by
   simp only [DataW.weights,ht,aL,aG];exact .inr (.inl (Wb (i:=i) (d:=x.1) (by simp [hx]) n hn)))
  -- each element's cells, and what they read as
  have each : ∀ i,i<len -> ∃ y:List Value × α,w.cells? 0 (a.add (i*P.cellsOf e)) (P.cellsOf e)=some y.1/\ok y.2/\(enc y.2).length=y.1.length/\(∀ (j:Nat) x v,(enc y.2)[j]? = some x->y.1[j]? = some v->RepI (whole w) x v) /\ ∀ v∈y.1,v.oneCell'=true:=by
   intro i hi;have:=hall i hi;have hel:elems[i]? = some elems[i]:=ac (by omega);rw [hel] at this;obtain ⟨cs,h1,h2⟩:=aN.1 this;obtain ⟨x,k1,k2,k3,k4⟩:=he H en w n cs _ h2 (hwe i _ hel);exact ⟨(cs,x),h1,k1,k2,k3,k4⟩
  classical
  obtain ⟨ys,hyl,hy⟩:=adv (α:=Nat) (f:=fun i=>if h:i<len then some (Classical.choose (each i h)) else none) len (fun i hi=>⟨_,dif_pos hi⟩);have hys : ∀ (i:Nat) y,ys[i]? = some y->i<len/\w.cells? 0 (a.add (i*P.cellsOf e)) (P.cellsOf e)=some y.1/\ok y.2/\(enc y.2).length=y.1.length/\(∀ (j:Nat) x v,(enc y.2)[j]? = some x->y.1[j]? = some v->RepI (whole w) x v) /\ ∀ v∈y.1,v.oneCell'=true:=by
   intro i y hi;have hlt:i<len:=by rw [<-hyl]; exact (ae.1 hi).1
   rw [hy i hlt,dif_pos hlt] at hi
   cases hi
   exact ⟨hlt,Classical.choose_spec (each i hlt)⟩
  refine ⟨ys.map (·.2),⟨⟨by simp; omega, ?_⟩, ?_⟩,rfl,fun i x v hx hv => ?_,by simp [Value.oneCell']⟩
  .rw [aI,hyl, <-hlen];exact bd (Nat.mul_le_mul_right _ (Nat.le_add_right _ _)) hwl
  .intro x hx;obtain ⟨y,hy1,rfl⟩:=bi.1 hx;obtain ⟨i,hi,rfl⟩:=a7 hy1;exact (hys i _ (ac hi)).2.2.1
  .cases i with
   | succ i=>simp at hx
   | zero =>
    simp at hx hv;subst hx; subst hv
    by_cases h0:len=0
    .have:ys=[]:=by cases ys<;>simp at hyl ⊢; omega
     subst this; subst h0;exact .list0 _ _ hm
    .-- the block
     obtain ⟨y0,hy0⟩ : ∃ y,ys[0]? = some y:=⟨ys[0]'(by omega),ac _⟩
     obtain ⟨_,hc0,_⟩:=hys 0 y0 hy0;obtain ⟨hcl0,hce0⟩:=Zb hc0;have hcell0:=hce0 0 hs;have hsome : ∃ v,w.cell? (a.add (0*P.cellsOf e) |>.add 0)=some v:=by
      rw [hcell0]; exact ⟨y0.1[0]'(by omega),ac _⟩
     obtain ⟨v0,hv0⟩:=hsome;have hspot:=World.cell?_spot hv0;obtain ⟨b,off,spot⟩:=a;have hsp:spot=none:=by simpa [Addr.add] using hspot
     subst hsp;obtain ⟨arr,T,fz,hheap⟩ : ∃ arr T fz,w.heap[b]? = some (.cells arr T fz):=by
      rw [jab,jab] at hv0;simp only [World.cell?] at hv0;split at hv0
      .rename_i h; exact ⟨_,_,_,h⟩
      .cases hv0
     have hat : ∀ k v,w.cell? ⟨b,k,none⟩=some v->arr[k]? = some v:=by
      intro k v hk;simp only [World.cell?,hheap] at hk;simpa using hk
     let val:List Value × α->Value:=fun y=>match elV y.2 with
      | .agg _ => .agg y.1.toArray
      | _=>y.1.headD undef
     have hval : ∀ (i:Nat) y,ys[i]? = some y->(val y).cells.size=P.cellsOf e/\RepI (whole w) (elV y.2) (val y) /\ ∀ (j:Nat) c,(val y).cells[j]? = some c->y.1[j]? = some c:=by
      intro i y hi;obtain ⟨hlt,k1,k2,k3,k4,k5⟩:=hys i y hi;obtain ⟨l1,l2⟩:=Zb k1
      by_cases hag : ∃ cs,elV y.2 = .agg cs
      .obtain ⟨cs,hcs⟩:=hag;have e1:val y = .agg y.1.toArray:=by simp only [val,hcs]
       rcases hel y.2 with h1 | h1
       .rw [hcs] at h1; cases h1;rw [e1,hcs];exact ⟨by simp [Value.cells,l1], .agg _ _ k3 (fun j x v hx hv=>k4 j x v hx hv) k5,fun j c hj=>by simpa [Value.cells] using hj⟩
       .exfalso
        have h2:y.1.length=1:=by rw [<-k3,h1]; rfl
        have h3:=k4 0 _ y.1[0] (by rw [h1]; rfl) (ac (by omega));rw [hcs] at h3;have h4:=k5 y.1[0] (ah _);generalize y.1[0]=u at h3 h4
        cases h3 with
        | agg xs vs _ _ _=>simp [Value.oneCell'] at h4
      .have e1:val y=y.1.headD undef:=by
        simp only [val];split
        .rename_i cs hcs; exact absurd ⟨cs,hcs⟩ hag
        .rfl
       rcases hel y.2 with h1 | h1
       .exact absurd ⟨_,h1⟩ hag
       .have h2:y.1.length=1:=by rw [<-k3,h1]; rfl
        have e2:val y=y.1[0]:=by
         rw [e1];obtain ⟨ya,yb⟩:=y
         cases ya with
         | nil=>simp at h2
         | cons u us=>rfl
        have h3:=k4 0 _ y.1[0] (by rw [h1]; rfl) (ac (by omega));have h4:=k5 y.1[0] (ah _);have huc:(y.1[0]).cells = #[y.1[0]]:=by
         generalize y.1[0]=u at h4
         cases u<;>first | rfl | simp [Value.oneCell'] at h4
        rw [e2,huc];refine ⟨by simp; omega,h3,fun j c hj => ?_⟩
        cases j with
        | zero=>simp at hj; subst hj; exact ac _
        | succ j=>simp at hj
     have:=RepI.list (m:=whole w) ((ys.map (·.2)).map elV) (ys.map val) b off cap (P.cellsOf e) arr T fz hheap (by simp) (by simp; omega) hm
      (fun v hv=>by
       obtain ⟨y,hy1,rfl⟩:=bi.1 hv;obtain ⟨i,hi,rfl⟩:=a7 hy1;exact (hval i _ (ac hi)).1)
      (fun i x v hx hv=>by
       simp only [a6,av] at hx hv;obtain ⟨z,⟨y,h1,rfl⟩,rfl⟩:=hx;obtain ⟨y',h2,rfl⟩:=hv;rw [h1] at h2; cases h2;exact (hval i y h1).2.1)
      (fun i v j c hv hj=>by
       simp only [a6,av] at hv;obtain ⟨y,h1,rfl⟩:=hv;have h3:=(hval i y h1).2.2 j c hj;obtain ⟨_,k1,_⟩:=hys i y h1;obtain ⟨l1,l2⟩:=Zb k1;have hj2:j<P.cellsOf e:=by rw [<-l1]; exact (ae.1 h3).1
       have:=l2 j hj2;rw [h3] at this;rw [jab,jab] at this;exact hat _ _ this)
     have e3:((ys.map (·.2)).map elV).length=len:=by simp [hyl]
     rw [e3] at this;exact this
theorem ReadsC.one {P:Program} {t:TypeId} {α:Type} {enc:α->V} {ok:α->Prop} (h:ReadsC P t (fun a=>[enc a]) ok) {H:Type} {en:TypeId × Value->H} {w:World} {v:Value} {d:DataW H} {ps:List MemPlace} (hv:v.oneCell'=true)
  (hd:DataW.Trod en P w 0 (fun _=>true) true t v d ps) (hwt : ∀ n∈d.weights P t,n<=reachBytes) : ∃ a,ok a/\RepI (whole w) (enc a) v:=by
 obtain ⟨fuel,hd⟩:=hd;have huc:v.cells = #[v]:=by cases v<;>first | rfl | simp [Value.oneCell'] at hv
 rw [huc] at hd;obtain ⟨a,h1,_,h3,_⟩:=h H en w fuel _ _ hd hwt;exact ⟨a,h1,h3 0 _ v rfl rfl⟩
theorem alj {P:Program} {f:FuncId} {xs:List V} {vs:List Value} {W:World} (hl:xs.length=vs.length) (hr : ∀ (i:Nat) x v,xs[i]? = some x->vs[i]? = some v->RepI (whole W) x v) (h:VPure P f xs (.bool true)) :
  Calls P f vs.toArray W fun e w'=>e = .returned (.bool true)/\Below W.heap.size W w':=by
 have hS:Holds ⟨fun _=>none,0⟩ (whole W) (fun _=>Loc.fresh) W:=by
  exact { imm:=fun b o hb=>hb,apart:=fun o b hb=>(by cases hb),inj:=fun o o' b hb _=>(by cases hb),fresh:=fun o=>⟨fun _=>Nat.zero_le _,fun _=>rfl⟩,gone:=fun _ _=>rfl,dead:=fun o ho=>(by cases ho),live:=fun o c hc=>(by cases hc) }
 refine (h ⟨fun _=>none,0⟩ (whole W) (fun _ => .fresh) W vs hS ⟨hl,fun i x v hx hv => .imm (hr i x v hx hv)⟩).mono ?_;rintro e w' ⟨v,x,S',m',β',rfl,⟨rfl,rfl⟩,h1,h2,h3⟩;have hv:=h1.inv_bool;subst hv;refine ⟨rfl,h3.os,h3.tape,h3.output,h3.size,fun k hk => ?_⟩;have hm:whole W k=some W.heap[k]:=by simp [whole,hk]
 have:=h2.imm k _ (h3.imm k _ hm);rw [this]; simp [hk]
end Go.Vw
/-
 From an argument's reading to a value without addresses: structs.
-/
namespace Go.Vw
open Go.RowKit Go.ChangeShapes Go.WideShapes
def ReadsF (P:Program) (fs:List Field) (base:Nat) {α:Type} (enc:α->List V) (ok:α->Prop):Prop :=
 ∀ (H:Type) (en:TypeId × Value->H) (w:World) (fuel:Nat) (cs:List Value) (xs:List (DataW H × List MemPlace)),xs.length=fs.length ->
  (∀ (i:Nat) f,fs[i]? = some f->DataW.trod en P w 0 (fun _=>true) true fuel f.type ((cs.drop f.offset).take (P.cellsOf f.type))=xs[i]?) ->
  (∀ (i:Nat) f x,fs[i]? = some f->xs[i]? = some x -> ∀ n∈x.1.weights P f.type,n<=reachBytes) ->
  cs.length=base+(fs.map fun f=>P.cellsOf f.type).sum ->
  ∃ a,ok a/\(enc a).length=(fs.map fun f=>P.cellsOf f.type).sum/\(∀ (i:Nat) x v,(enc a)[i]? = some x->cs[base+i]? = some v->RepI (whole w) x v) /\ ∀ (i:Nat) v,cs[base+i]? = some v->v.oneCell'=true
theorem ReadsF.nil {P:Program} {base:Nat}:ReadsF P [] base (fun _:Unit=>[]) (fun _=>True):=by
 intro H en w fuel cs xs hl hx hz hc;simp at hc;exact ⟨(),trivial,rfl,fun i x v h=>by simp at h,fun i v h=>by rw [aJ (by omega)] at h; cases h⟩
theorem ReadsF.cons {P:Program} {f:Field} {fs:List Field} {base:Nat} {α β:Type} {encA:α->List V} {okA:α->Prop} {encB:β->List V} {okB:β->Prop} (ho:f.offset=base)
  (hA:ReadsC P f.type encA okA) (hB:ReadsF P fs (base+P.cellsOf f.type) encB okB):ReadsF P (f::fs) base (fun p:α × β=>encA p.1++encB p.2) (fun p=>okA p.1/\okB p.2):=by
 intro H en w fuel cs xs hl hx hz hc;simp only [List.map_cons,List.sum_cons] at hc ⊢
 cases xs with
 | nil=>simp at hl
 | cons x xs =>
  have h0:=hx 0 f rfl;rw [ho] at h0;obtain ⟨a,a1,a2,a3,a4⟩:=hA H en w fuel _ x h0 (hz 0 f x rfl rfl);obtain ⟨b,b1,b2,b3,b4⟩:=hB H en w fuel cs xs (by simpa using hl) (fun i g hg=>by have:=hx (i+1) g (by simpa using hg); simpa using this) (fun i g y hg hy=>hz (i+1) g y (by simpa using hg) (by simpa using hy)) (by omega);have hlen:((cs.drop base).take (P.cellsOf f.type)).length=P.cellsOf f.type:=by simp; omega
  rw [hlen] at a2;have hat : ∀ i,i<P.cellsOf f.type->((cs.drop base).take (P.cellsOf f.type))[i]? = cs[base+i]? := fun i hi=>by simp [hi]
  refine ⟨(a,b),⟨a1,b1⟩,by simp [a2,b2],fun i y v hy hv => ?_,fun i v hv => ?_⟩
  .by_cases hi:i<P.cellsOf f.type
   .rw [aT (show i<(encA a).length by omega)] at hy;exact a3 i y v hy (by rw [hat i hi]; exact hv)
   .rw [bf (show (encA a).length<=i by omega),a2] at hy;exact b3 _ y v hy (by rw [show base+P.cellsOf f.type+(i-P.cellsOf f.type)=base+i by omega]; exact hv)
  .by_cases hi:i<P.cellsOf f.type
   .exact a4 v (aA (by rw [hat i hi]; exact hv))
   .exact b4 (i-P.cellsOf f.type) v (by rw [show base+P.cellsOf f.type+(i-P.cellsOf f.type)=base+i by omega]; exact hv)
theorem ReadsC.struct {P:Program} {t:TypeId} {fs:Array Field} {α:Type} {enc:α->List V} {ok:α->Prop} (ht:P.underlying t=some (.struct fs)) (hs:P.cellsOf t=(fs.toList.map fun f=>P.cellsOf f.type).sum)
  (hF:ReadsF P fs.toList 0 enc ok):ReadsC P t enc ok:=by
 intro H en w fuel cs d h hwt;obtain ⟨xs,n,_,hd,hl,hlen,hf⟩:=DataW.trod_struct ht h;obtain ⟨a,h1,h2,h3,h4⟩:=hF H en w n cs xs (by simpa using hlen) (fun i f hi=>hf i f (by simpa using hi)) (fun i f x hi hx k hk=>hwt k (by
  rw [hd];simp only [DataW.weights,ht];exact DataW.weights_mem_each (j:=i) (t:=f.type) (d:=x.1) (by simp [hi]) (by simp [hx]) k hk)) (by omega)
 exact ⟨a,h1,by omega,fun i x v hx hv=>h3 i x v hx (by simpa using hv),fun v hv=>by
  obtain ⟨i,hi,rfl⟩:=a7 hv;exact h4 i _ (by rw [a8]; exact ac hi)⟩
theorem ReadsC.map {P:Program} {t:TypeId} {α β:Type} {enc:α->List V} {ok:α->Prop} {encB:β->List V} {okB:β->Prop} (h:ReadsC P t enc ok) (g:α->β) (he : ∀ a,encB (g a)=enc a) (ho : ∀ a,ok a->okB (g a)):ReadsC P t encB okB:=by
 intro H en w fuel cs d hd hwt;obtain ⟨a,h1,h2,h3,h4⟩:=h H en w fuel cs d hd hwt;exact ⟨g a,ho a h1,by rw [he]; exact h2,by rw [he]; exact h3,h4⟩
theorem ReadsC.agg {P:Program} {t:TypeId} {α:Type} {enc:α->List V} {ok:α->Prop} (h:ReadsC P t enc ok) {H:Type} {en:TypeId × Value->H} {w:World} {cells:Array Value} {d:DataW H} {ps:List MemPlace}
  (hd:DataW.Trod en P w 0 (fun _=>true) true t (.agg cells) d ps) (hwt : ∀ n∈d.weights P t,n<=reachBytes) : ∃ a,ok a/\RepI (whole w) (.agg (enc a)) (.agg cells):=by
 obtain ⟨fuel,hd⟩:=hd;obtain ⟨a,h1,h2,h3,h4⟩:=h H en w fuel _ _ hd hwt;have:=RepI.agg (m:=whole w) (enc a) cells.toList (by simpa [Value.cells] using h2) (by simpa [Value.cells] using h3) (by simpa [Value.cells] using h4);exact ⟨a,h1,by simpa using this⟩
end Go.Vw
/-
 Slices of slices, and what only we see in a cell.
-/
namespace Go.Vw
open Go.RowKit
theorem Holds.reseen {S:Store} {m:Imm} {β:Objs} {w:World} (hS:Holds S m β w) {o b base s n:Nat} {c:Nat × List V} {arr:Array Value} {T:TypeId} (hc:S.get o=some c) (hβ:β o = .lies b base s n) (hb:w.heap[b]? = some (.cells arr T (0,0)))
  (cs':List V) (hl:cs'.length=c.2.length) (h : ∀ (i:Nat) (x:V) (v:Value),cs'[i]? = some x->arr[base+i]? = some v->Rep m β x v):Holds (S.upd o (c.1,cs')) m β w:=by
 have hlt:=hS.lt hc;refine ⟨hS.imm,hS.apart,hS.inj,hS.fresh,fun o' ho' => ?_,fun o' ho' hn => ?_,fun o' c' hc' => ?_⟩
 .rw [qf];have:S.nx<=o':=ho';rw [if_neg (by omega)]; exact hS.gone o' ho'
 .rw [qf] at hn
  by_cases e:o'=o
  .rw [if_pos e] at hn; cases hn
  .rw [if_neg e] at hn; exact hS.dead o' ho' hn
 .rw [qf] at hc'
  by_cases e:o'=o
  .rw [if_pos e] at hc'
   cases hc'
   subst e;have hl0:=hS.live o' c hc;rw [hβ] at hl0 ⊢;obtain ⟨h0,arr',T',h1,h2,h3,h4⟩:=hl0;rw [hb] at h1
   cases h1
   refine ⟨h0,arr,T,hb,h2,by simp only; omega,fun i x hx => ?_⟩;have hi:i<c.2.length:=by rw [<-hl]; exact (ae.1 hx).1
   obtain ⟨v,e1,e2,e3⟩:=h4 i _ (ac hi);exact ⟨v,e1,h i x v hx e1,e3⟩
  .rw [if_neg e] at hc'; exact hS.live o' c' hc'
theorem Reach.cell {N b0:Nat} {σ:Fr} {S S1:Store} {x x':V} {o i s:Nat} {cs:List V} (hg:Ghost x S x' S1) (hx:x.one=true) (hc:S.get o=some (s,cs)) (hi:cs[i]? = some x) (hc1:S1.get o=some (s,cs)) :
  Reach N b0 σ S σ (S1.upd o (s,cs.set i x')):=by
 intro m β w a hS hF;have hl:=hS.live o _ hc;have hlt:i<cs.length:=(ae.1 hi).1
 cases hβ:β o with
 | fresh=>rw [hβ] at hl; exact hl.elim
 | dead=>rw [hβ] at hl; exact hl.elim
 | void=>rw [hβ] at hl; simp only [Live] at hl; rw [hl] at hlt; simp at hlt
 | mp b' =>
  rw [hβ] at hl;obtain ⟨es,clock,h1,h2,h3⟩:=hl;have hi2:i<es.size:=by simp only at h2; omega
  obtain ⟨k,v,e1,_⟩:=h3 i x es[i] hi (Array.getElem?_eq_getElem hi2);rw [e1] at hx; simp [V.one] at hx
 | lies b base s' n =>
  rw [hβ] at hl;obtain ⟨h0,arr,T,h1,h2,h3,h4⟩:=hl;obtain ⟨v,e1,e2,e3⟩:=h4 i x hi;obtain ⟨m',β',k1,k2,k3⟩:=hg m β w v hS e2;have hb':β' o = .lies b base s' n:=by
   rcases k2.step o (by rw [hβ]; exact Loc.noConfusion) with h | h
   .rw [h,hβ]
   .have:=k1.live o _ hc1;rw [h] at this; exact this.elim
  refine ⟨m',β', ?_,hF.ext k2,k2.toB b0⟩;have:=k1.reseen hc1 hb' h1 (cs.set i x') (by simp) (fun j y u hy hu => ?_)
  .exact this
  .rw [List.getElem?_set] at hy;split at hy
   .rename_i e; subst e;simp only [hlt,if_true,ay] at hy;subst hy;rw [e1] at hu; cases hu;exact k3
   .obtain ⟨u',f1,f2,_⟩:=h4 j y hy;rw [f1] at hu; cases hu;exact k2.rep f2
structure RowsAt (S:Store) (b oo:Nat) (os:List Nat) (cells:List V) (rows:List (List V)):Prop where
 base:b<=oo
 lt:oo<S.nx
 out:oo∉os
 get:S.get oo=some (1,cells)
 len:cells.length=rows.length
 row : ∀ (k:Nat) row,rows[k]? = some row->(cells[k]? = some .nils/\row=[]) \/ ∃ id,cells[k]? = some (.slice id 0 row.length)/\S.get id=some (1,row)/\id≠oo/\b<=id/\id<S.nx/\id∉os
 inj : ∀ (j k:Nat) id l l',cells[j]? = some (.slice id 0 l)->cells[k]? = some (.slice id 0 l')->j=k
theorem RowsAt.start {S:Store} {b oo n:Nat} {os:List Nat} (h:S.get oo=some (1,List.replicate n .nils)) (hb:b<=oo) (hlt:oo<S.nx) (ho:oo∉os):RowsAt S b oo os (List.replicate n .nils) (List.replicate n []):=by
 refine ⟨hb,hlt,ho,h,by simp,fun k row hr => .inl ?_,fun j k id l l' hj _ => ?_⟩
 .simp only [List.getElem?_replicate] at hr ⊢;split at hr
  .rename_i hk; rw [if_pos hk]; cases hr; exact ⟨rfl,rfl⟩
  .cases hr
 .simp only [List.getElem?_replicate] at hj;split at hj<;>cases hj
theorem RowsAt.keep {S S':Store} {b oo:Nat} {os:List Nat} {cells:List V} {rows:List (List V)} (h:RowsAt S b oo os cells rows) (hn:S.nx<=S'.nx) (hk : ∀ o,b<=o->o<S.nx->o∉os->S'.get o=S.get o):RowsAt S' b oo os cells rows:=by
 refine ⟨h.base,aS h.lt hn,h.out,(hk oo h.base h.lt h.out).trans h.get,h.len,fun k row hr => ?_,h.inj⟩;rcases h.row k row hr with h1 | ⟨id,h1,h2,h3,h4,h5,h6⟩
 .exact .inl h1
 .exact .inr ⟨id,h1,(hk id h4 h5 h6).trans h2,h3,h4,aS h5 hn,h6⟩
section
variable {S:Store} {b oo:Nat} {os:List Nat} {cells:List V} {rows:List (List V)} {k:Nat} {row:List V} {x:V}
def jbN (S:Store) (oo:Nat) (cells:List V) (k:Nat) (x:V):Store:=((S.add (1,[x])).add (1,[x])).upd oo (1,cells.set k (.slice (S.nx+1) 0 1))
def jau (S:Store) (oo:Nat) (cells:List V) (k id:Nat) (row:List V) (x:V):Store:=(((S.add (1,[x])).del id).add (1,row++[x])).upd oo (1,cells.set k (.slice (S.nx+1) 0 (row.length+1)))
theorem ahz {o:Nat} (h:o<S.nx) (ho:o≠oo):(jbN S oo cells k x).get o=S.get o:=by
 simp only [jbN,qf,Yl];rw [if_neg ho,if_neg (by show ¬ o=S.nx+1; omega),if_neg (by omega)]
theorem aif {o id:Nat} (h:o<S.nx) (ho:o≠oo) (hid:o≠id):(jau S oo cells k id row x).get o=S.get o:=by
 simp only [jau,qf,Yl,Wh];rw [if_neg ho,if_neg (by show ¬ o=S.nx+1; omega),if_neg hid,if_neg (by omega)]
theorem RowsAt.nil (h:RowsAt S b oo os cells rows) (hr:rows[k]? = some []) (hos : ∀ o∈os,o<S.nx) (hc:cells[k]? = some .nils):RowsAt (jbN S oo cells k x) b oo os (cells.set k (.slice (S.nx+1) 0 1)) (rows.set k [x]):=by
 have hlt:=h.lt;have hb:=h.base;have hk:k<rows.length:=(ae.1 hr).1;have hkc:k<cells.length:=by rw [h.len]; exact hk
 refine ⟨h.base,by show oo<S.nx+1+1; omega,h.out,by simp [jbN,qf],by simp [h.len],fun j r hj => ?_,fun i j id l l' hi hj => ?_⟩
 .rw [List.getElem?_set] at hj ⊢
  by_cases e:k=j
  .subst e;rw [if_pos rfl,if_pos hk] at hj; cases hj;rw [if_pos rfl,if_pos hkc];refine .inr ⟨S.nx+1,rfl, ?_,by omega,by omega,by show S.nx+1<S.nx+1+1; omega,fun hm=>by have:=hos _ hm; omega⟩;simp only [jbN,qf,Yl];rw [if_neg (by omega),if_pos (by rfl)]
  .rw [if_neg e] at hj ⊢;rcases h.row j r hj with h1 | ⟨id,h1,h2,h3,h4,h5,h6⟩
   .exact .inl h1
   .exact .inr ⟨id,h1,(ahz h5 h3).trans h2,h3,h4,by show id<S.nx+1+1; omega,h6⟩
 .have old : ∀ (j id l:Nat),cells[j]? = some (V.slice id 0 l)->id<S.nx:=by
   intro j id l hj;have hjl:j<rows.length:=by rw [<-h.len]; exact (ae.1 hj).1
   rcases h.row j _ (ac hjl) with h1 | ⟨id',h1,h2,h3,h4,h5,h6⟩
   .rw [hj] at h1; cases h1.1
   .rw [hj] at h1; cases h1; exact h5
  rw [List.getElem?_set] at hi hj
  by_cases e1:k=i
  .by_cases e2:k=j
   .omega
   .rw [if_pos e1,if_pos hkc] at hi; rw [if_neg e2] at hj
    cases hi
    have:=old _ _ _ hj; omega
  .by_cases e2:k=j
   .rw [if_pos e2,if_pos hkc] at hj; rw [if_neg e1] at hi
    cases hj
    have:=old _ _ _ hi; omega
   .rw [if_neg e1] at hi; rw [if_neg e2] at hj;exact h.inj i j id l l' hi hj
theorem RowsAt.app (h:RowsAt S b oo os cells rows) (hr:rows[k]? = some row) (hos : ∀ o∈os,o<S.nx) {id:Nat} (hc:cells[k]? = some (.slice id 0 row.length)):RowsAt (jau S oo cells k id row x) b oo os (cells.set k (.slice (S.nx+1) 0 (row.length+1))) (rows.set k (row++[x])):=by
 have hlt:=h.lt;have hb:=h.base;have hk:k<rows.length:=(ae.1 hr).1;have hkc:k<cells.length:=by rw [h.len]; exact hk
 refine ⟨h.base,by show oo<S.nx+1+1; omega,h.out,by simp [jau,qf],by simp [h.len],fun j r hj => ?_,fun i j id' l l' hi hj => ?_⟩
 .rw [List.getElem?_set] at hj ⊢
  by_cases e:k=j
  .subst e;rw [if_pos rfl,if_pos hk] at hj; cases hj;rw [if_pos rfl,if_pos hkc];refine .inr ⟨S.nx+1,by simp, ?_,by omega,by omega,by show S.nx+1<S.nx+1+1; omega,fun hm=>by have:=hos _ hm; omega⟩;simp only [jau,qf,Yl];rw [if_neg (by omega),if_pos (by rfl)]
  .rw [if_neg e] at hj ⊢;rcases h.row j r hj with h1 | ⟨id',h1,h2,h3,h4,h5,h6⟩
   .exact .inl h1
   .have hne:id'≠id:=by
     intro e2; subst e2;exact e (h.inj k j _ _ _ hc h1)
    exact .inr ⟨id',h1,(aif h5 h3 hne).trans h2,h3,h4,by show id'<S.nx+1+1; omega,h6⟩
 .have old : ∀ (j id l:Nat),cells[j]? = some (V.slice id 0 l)->id<S.nx:=by
   intro j id l hj;have hjl:j<rows.length:=by rw [<-h.len]; exact (ae.1 hj).1
   rcases h.row j _ (ac hjl) with h1 | ⟨id',h1,h2,h3,h4,h5,h6⟩
   .rw [hj] at h1; cases h1.1
   .rw [hj] at h1; cases h1; exact h5
  rw [List.getElem?_set] at hi hj
  by_cases e1:k=i
  .by_cases e2:k=j
   .omega
   .rw [if_pos e1,if_pos hkc] at hi; rw [if_neg e2] at hj
    cases hi
    have:=old _ _ _ hj; omega
  .by_cases e2:k=j
   .rw [if_pos e2,if_pos hkc] at hj; rw [if_neg e1] at hi
    cases hj
    have:=old _ _ _ hi; omega
   .rw [if_neg e1] at hi; rw [if_neg e2] at hj;exact h.inj i j id' l l' hi hj
end
def Store.dels (S:Store) (ids:List Nat):Store:=ids.foldl Store.del S
theorem Za (S:Store) : ∀ (ids:List Nat) (o:Nat),(S.dels ids).get o=if o∈ids then none else S.get o
 | [],o=>by simp [Store.dels]
 | id::ids,o=>by
  have:=Za (S.del id) ids o;simp only [Store.dels,List.foldl_cons] at this ⊢;rw [this,Wh]
  by_cases h1:o∈ids
  .simp [h1]
  .by_cases h2:o=id
   .simp [h2]
   .simp [h1,h2]
theorem jdh (S:Store) : ∀ (ids:List Nat),(S.dels ids).nx=S.nx
 | []=>rfl
 | id::ids=>by
  have:=jdh (S.del id) ids;simpa only [Store.dels,List.foldl_cons,Store.del] using this
theorem jat {N b0:Nat} {σ:Fr} {b oo:Nat} {os:List Nat} : ∀ (rows:List (List V)) (done:List V) (cells:List V) (S:Store),(∀ row∈rows,row.all V.cG=true)->S.get oo=some (1,done++cells)->cells.length=rows.length ->
   (∀ (k:Nat) row,rows[k]? = some row->(cells[k]? = some .nils/\row=[]) \/ ∃ id,cells[k]? = some (.slice id 0 row.length)/\S.get id=some (1,row)/\id≠oo/\b<=id/\id∉os) ->
   (∀ (j k:Nat) id l l',cells[j]? = some (.slice id 0 l)->cells[k]? = some (.slice id 0 l')->j=k) ->
   ∃ S',Reach N b0 σ S σ S'/\S'.get oo=some (1,done++rows.map V.list)/\S'.nx=S.nx/\(∀ o,o<b\/o∈os->o≠oo->S'.get o=S.get o)/\(∀ o,S.get o=none->S'.get o=none)
 | [],done,cells,S,_,hc,hl,_,_=>⟨S,Reach.refl _ _,by
   have:cells=[]:=by simpa using hl
   subst this; simpa using hc,rfl,fun _ _ _=>rfl,fun _ h=>h⟩
 | row::rows,done,[],S,_,_,hl,_,_=>by simp at hl
 | row::rows,done,c::cells,S,hcl,hc,hl,hr,hinj=>by
  have hcl1:row.all V.cG=true:=hcl row List.mem_cons_self;have hi:(done++c::cells)[done.length]? = some c:=by simp
  have hset : ∀ y:V,(done++c::cells).set done.length y=(done++[y])++cells:=by
   intro y; rw [List.set_append_right _ _ (a9 _)]; simp
  have next : ∀ S1:Store,S1.get oo=some (1,done++c::cells)->Ghost c S (.list row) S1->c.one=true->S1.nx=S.nx->(∀ (k:Nat) row',rows[k]? = some row' -> ∀ id l,cells[k]? = some (.slice id 0 l)->id≠oo->S1.get id=S.get id)->(∀ o,o<b\/o∈os->o≠oo->S1.get o=S.get o)->(∀ o,S.get o=none->S1.get o=none) ->
    ∃ S',Reach N b0 σ S σ S'/\S'.get oo=some (1,done++(row::rows).map V.list)/\S'.nx=S.nx/\(∀ o,o<b\/o∈os->o≠oo->S'.get o=S.get o)/\(∀ o,S.get o=none->S'.get o=none):=by
   intro S1 h1 hg hone hnx hkeep hold hnone;have hre:=Reach.cell (N:=N) (b0:=b0) (σ:=σ) hg hone hc hi h1;rw [hset] at hre;obtain ⟨S',k1,k2,k3,k4,k5⟩:=jat rows (done++[.list row]) cells (S1.upd oo (1,done++[.list row]++cells)) (fun r hm=>hcl r (List.mem_cons_of_mem _ hm)) (by rw [qf,if_pos rfl]) (by simpa using hl)
    (fun k row' hk=>by
     rcases hr (k+1) row' (by simpa using hk) with h2 | ⟨id,h2,h3,h4,h5,h6⟩
     .exact .inl (by simpa using h2)
     .refine .inr ⟨id,by simpa using h2, ?_,h4,h5,h6⟩;rw [qf,if_neg h4,hkeep k row' hk id _ (by simpa using h2) h4]; exact h3)
    (fun j k id l l' hj hk=>by have:=hinj (j+1) (k+1) id l l' (by simpa using hj) (by simpa using hk); omega)
   refine ⟨S',hre.trans k1,by simpa using k2,k3.trans hnx,fun o ho hne => ?_,fun o ho=>k5 o ?_⟩
   .rw [k4 o ho hne,qf,if_neg hne,hold o ho hne]
   .have hoo:o≠oo:=by intro e; subst e; rw [hc] at ho; cases ho
    rw [qf,if_neg hoo]; exact hnone o ho
  rcases hr 0 row rfl with ⟨h1,h2⟩ | ⟨id,h1,h2,h3,h4,h5⟩
  .simp at h1; subst h1; subst h2;exact next S hc (Ghost.nl S) (by simp [V.one]) rfl (fun _ _ _ _ _ _ _=>rfl) (fun _ _ _=>rfl) (fun _ h=>h)
  .have h1':c = .slice id 0 row.length:=by simpa using h1
   subst h1';have hg:Ghost (V.slice id 0 row.length) S (V.list row) (S.del id):=Ghost.freeze1 h2 hcl1 rfl;refine next (S.del id) (by rw [Wh,if_neg (Ne.symm h3)]; exact hc) hg (by simp [V.one]) rfl (fun k row' hk id' l hid' _ => ?_) (fun o ho _ => ?_) (fun o ho => ?_)
   .rw [Wh];split
    .rename_i e; subst e;have:=hinj 0 (k+1) id' row.length l (by simp) (by simpa using hid');omega
    .rfl
   .rw [Wh];split
    .rename_i e; subst e;rcases ho with h | h
     .omega
     .exact absurd h h5
    .rfl
   .rw [Wh]; split
    .rfl
    .exact ho
theorem RowsAt.freeze {S:Store} {N b0 b oo:Nat} {σ:Fr} {os:List Nat} {cells:List V} {rows:List (List V)} (h:RowsAt S b oo os cells rows) (hcl : ∀ row∈rows,row.all V.cG=true) :
  ∃ S',Reach N b0 σ S σ S'/\S'.get oo=some (1,rows.map V.list)/\S'.nx=S.nx/\(∀ o,o<b\/o∈os->o≠oo->S'.get o=S.get o)/\(∀ o,S.get o=none->S'.get o=none):=by
 have:=jat (N:=N) (b0:=b0) (σ:=σ) (b:=b) (os:=os) rows [] cells S hcl (by simpa using h.get) h.len (fun k row hk => ?_) h.inj
 .simpa using this
 .rcases h.row k row hk with h1 | ⟨id,h1,h2,h3,h4,h5,h6⟩
  .exact .inl h1
  .exact .inr ⟨id,h1,h2,h3,h4,h6⟩
theorem Reach.frzCell {N b0:Nat} {σ:Fr} {B:Store} {u:Upds} {l:List (Option (Nat × List V))} {k j i n s:Nat} {cs cells':List V} (hkj:k≠j) (hk:k<l.length) (hj:j<l.length) (hck:(l[k]?).join=some (s,cs)) (hi:cs[i]? = some (.slice (lid B.nx j) 0 n))
  (hcj:(l[j]?).join=some (1,cells')) (hcl:cells'.all V.cG=true) (hn:cells'.length=n):Reach N b0 σ (St B u l) σ (St B u ((l.set j none).set k (some (s,cs.set i (.list cells'))))):=by
 have hg:Ghost (.slice (lid B.nx j) 0 n) (St B u l) (.list cells') (St B u (l.set j none)):=frz1 hj hcj hcl hn;have:=Reach.cell (N:=N) (b0:=b0) (σ:=σ) (o:=lid B.nx k) (i:=i) (s:=s) (cs:=cs) hg (by simp [V.one]) (by rw [jB]; exact hck) hi (by rw [jB,aQ (Ne.symm hkj)]; exact hck);rw [JM (by simpa using hk)] at this;exact this
/-! ### Small steps of a store that is not told whole -/
section
variable {S Z T:Store} {o o':Nat} {c:Nat × List V}
theorem aj3 (h:o<S.nx):(S.add c).get o=S.get o:=by rw [Yl,if_neg (by omega)]
theorem ajx:(S.add c).get S.nx=some c:=by rw [Yl,if_pos rfl]
theorem ajc:(S.add c).nx=S.nx+1:=nr rfl
theorem axc:(S.del o).nx=S.nx:=nr rfl
theorem aj7 (h:o'≠o):(S.del o).get o'=S.get o':=by rw [Wh,if_neg h]
theorem qw (h:o'≠o):(S.upd o c).get o'=S.get o':=by rw [qf,if_neg h]
theorem JR:(S.upd o c).get o=some c:=by rw [qf,if_pos rfl]
theorem Store.Sub.upd (h:Z.Sub S) (hg:Z.get o=none):Z.Sub (S.upd o c):=by
 intro o' d hd;rw [qf,if_neg (fun e=>by subst e; rw [hg] at hd; cases hd)];exact h o' d hd
theorem Store.Shp.upd {d:Nat × List V} (h:Z.Shp S) (hg:S.get o=some d) (he:c.1=d.1):Z.Shp (S.upd o c):=by
 intro o' e hd;obtain ⟨f,h1,h2⟩:=h o' e hd;rw [qf];split
 .rename_i e; subst e; rw [hg] at h1; cases h1; exact ⟨c,rfl,he.trans h2⟩
 .exact ⟨f,h1,h2⟩
theorem Store.Sub.trans (h:Z.Sub S) (k:S.Sub T):Z.Sub T:=fun o c hc=>k o c (h o c hc)
end
theorem jcn {P:Program} {N b:Nat} {Q:Exit->Fr->Store->Prop} {σ:Fr} {S:Store} {c:Code} (h:S.Wf->VWp P N b c Q σ S):VWp P N b c Q σ S :=
 fun m β w a hS hF=>h hS.wf m β w a hS hF
theorem GhostB.cut {S T:Store} {x:V} (hwf:S.Wf) (hag:Agree S T) (hx:x.ids (fun o=>decide (o<S.nx))=true):GhostB S.nx x T x S:=by
 have hf : ∀ o,o<S.nx->(fun o=>if o<S.nx then o else T.nx+o) o=o:=fun o h=>by simp [h]
 have h:RenS (fun o=>if o<S.nx then o else T.nx+o) S.nx T S:=by
  refine ⟨fun o c hc => ?_,fun o o' hs hs' he => ?_,fun o ho => ?_,hf,a9 _⟩
  .have hlt:o<S.nx:=by
    rcases bt o S.nx with h | h
    .exact h
    .rw [hwf.gone o h] at hc; cases hc
   refine ⟨hlt, ?_⟩;rw [if_pos hlt,hag.2 o hlt,hc];have:=hwf.ids o c hc;simp only [qF,aD] at this;rw [qi,(aZ fun x hm=>WI (fun o h=>hf o (by simpa using h)) x (this x hm)).trans (List.map_id _)]
  .have h1 : ∀ o,(S.get o).isSome=true->o<S.nx:=by
    intro o hs;rcases bt o S.nx with h | h
    .exact h
    .rw [hwf.gone o h] at hs; cases hs
   have e1:=hf o (h1 o hs);have e2:=hf o' (h1 o' hs');rw [<-e1, <-e2]; exact he
  .rw [if_neg (by omega)];omega
 exact GhostB.ren h (WI (fun o ho=>hf o (by simpa using ho)) x hx).symm
theorem qI {S T T':Store} {r X:V} (hwf:S.Wf) (hg:GhostB S.nx r T X T') (hag:Agree S T') (hx:X.ids (fun o=>decide (o<S.nx))=true):Jb S.nx (fun r S'=>r=X/\S'=S) r T :=
 ⟨X,S,hg.trans (GhostB.cut hwf hag hx),rfl,rfl⟩
theorem zE {S:Store} {l:List (Option (Nat × List V))}:Agree S (St S [] l):=⟨by rw [jR,lid]; omega,fun o ho=>by rw [jk ho]; rfl⟩
/-! ### Elements of several cells -/
def jq {α:Type} (enc:α->V) (ls:List α):List V:=ls.flatMap fun a=>(enc a).cells
theorem Jl {α:Type} (enc:α->V) (ls:List α) (a:α):jq enc (ls++[a])=jq enc ls++(enc a).cells:=by simp [jq]
theorem JK {α:Type} {enc:α->V} {s:Nat} (hs : ∀ a,(enc a).cells.length=s) (ls:List α):(jq enc ls).length=ls.length*s:=by
 induction ls with
 | nil=>simp [jq]
 | cons a ls ih=>simp only [jq,List.flatMap_cons,List.length_append,hs,aC,Nat.add_mul,Nat.one_mul] at ih ⊢; omega
theorem WZ {α:Type} {enc:α->V} {s:Nat} (hs : ∀ a,(enc a).cells.length=s) : ∀ (ls:List α) (i j:Nat) (a:α) (c:V),ls[i]? = some a->(enc a).cells[j]? = some c->(jq enc ls)[i*s+j]? = some c
 | [],i,j,a,c,h,_=>by simp at h
 | x::ls,0,j,a,c,h,hc=>by
  simp at h; subst h;have hj:j<(enc x).cells.length:=(ae.1 hc).1;simp only [jq,List.flatMap_cons,Nat.zero_mul,a8];rw [aT hj]; exact hc
 | x::ls,i+1,j,a,c,h,hc=>by
  have:=WZ hs ls i j a c (by simpa using h) hc;simp only [jq,List.flatMap_cons] at this ⊢;rw [bf (by rw [hs,Nat.add_mul]; omega),hs];rw [show (i+1)*s+j-s=i*s+j by rw [Nat.add_mul]; omega];exact this
theorem KG {x:V} (h:x.closed=true) : ∀ c∈x.cells,c.cG=true:=by
 intro c hc
 cases x<;>simp only [V.cells,aU] at hc<;>first | (subst hc; simpa [V.closed] using h) | skip
 rename_i xs;have : ∀ x∈xs,x.cG=true:=by simpa [V.closed] using h
 exact this c hc
theorem Zs {α:Type} {enc:α->V} (hc : ∀ a,(enc a).closed=true) (ls:List α):(jq enc ls).all V.cG=true:=by
 simp only [aD,jq,bh];rintro c ⟨a,_,ha⟩;exact KG (hc a) c ha
theorem frzS {α:Type} {enc:α->V} {s:Nat} (hs : ∀ a,(enc a).cells.length=s) (hc : ∀ a,(enc a).closed=true) {S:Store} {o:Nat} (ls:List α) (hg:S.get o=some (s,jq enc ls)):Ghost (.slice o 0 ls.length) S (vl enc ls) (S.del o):=by
 refine Ghost.freeze hg (Zs hc ls) (ls.map enc) (by simp) fun i x hx => ?_
 simp only [a6,av] at hx;obtain ⟨a,ha,rfl⟩:=hx;refine ⟨hs a,hc a,fun j c hj => ?_⟩;rw [a8];exact WZ hs ls i j a c ha hj
theorem aej {α:Type} {enc:α->V} {s:Nat} (hs : ∀ a,(enc a).cells.length=s) (hc : ∀ a,(enc a).closed=true) {B:Store} {u:Upds} {l:List (Option (Nat × List V))} {k:Nat} (ls:List α) (hk:k<l.length) (hg:(l[k]?).join=some (s,jq enc ls)):Ghost (.slice (lid B.nx k) 0 ls.length) (St B u l) (vl enc ls) (St B u (l.set k none)):=by
 rw [<-ab1 hk];exact frzS hs hc ls (by rw [jB]; exact hg)
theorem KC {α:Type} {enc:α->V} (hc : ∀ a,(enc a).closed=true) (f:Nat->Nat) (ls:List α):V.renL f (jq enc ls)=jq enc ls:=by
 rw [qi];refine (aZ fun c hm => ?_).trans (List.map_id _);simp only [jq,bh] at hm;obtain ⟨a,_,ha⟩:=hm;have:=KG (hc a) c ha
 cases c<;>first | rfl | (simp [V.cG] at this)
theorem KD {α:Type} {enc:α->V} (hc : ∀ a,(enc a).closed=true) (p:Nat->Bool) (ls:List α):V.idsL p (jq enc ls)=true:=by
 rw [qF,aD];intro c hm;simp only [jq,bh] at hm;obtain ⟨a,_,ha⟩:=hm;have:=KG (hc a) c ha
 cases c<;>first | rfl | (simp [V.cG] at this)
theorem Reach.voidCell {N b0:Nat} {σ:Fr} {B:Store} {u:Upds} {l:List (Option (Nat × List V))} {k i s:Nat} {cs:List V} (s':Nat) (hk:k<l.length) (hck:(l[k]?).join=some (s,cs)) (hi:cs[i]? = some .nils) :
  Reach N b0 σ (St B u l) σ (St B u ((l++[some (s',[])]).set k (some (s,cs.set i (.slice (lid B.nx l.length) 0 0))))):=by
 have hg:=Ghost.nils (St B u l) s';rw [jbn,jR] at hg;have:=Reach.cell (N:=N) (b0:=b0) (σ:=σ) (o:=lid B.nx k) (i:=i) (s:=s) (cs:=cs) hg (by simp [V.one]) (by rw [jB]; exact hck) hi (by rw [jB,aT hk]; exact hck);rw [JM (by simp; omega)] at this;exact this
section
variable {S:Store} {s b:Nat}
theorem Wq {α:Type} {enc:α->V} {o len:Nat} {cells:List V} {l:List α} (hs : ∀ a,(enc a).ncells=s) (ho:S.get o=some (s,cells)) (hl:len*s=cells.length) (hb:(len+l.length)*b<=140737488355328) (hb1:len+l.length<=140737488355328) :
  jU s b S (.slice o 0 len) (vl enc l)=some (.slice S.nx 0 (len+l.length),(S.del o).add (s,cells++jq enc l)):=by
 have:=jcV (S:=S) (s:=s) (b:=b) (o:=o) (len:=len) (xs:=l.map enc) (cells:=cells) ho (fun x hx=>by
  obtain ⟨a,_,rfl⟩:=bi.1 hx;exact hs a) hl (by simpa using hb) (by simpa using hb1)
 simpa [vl,jq,List.flatMap_map] using this
end
theorem al2 (l:List Nat):jq cu l=l.map cu:=by
 induction l with
 | nil=>rfl
 | cons x l ih =>
  simp only [jq,List.flatMap_cons,List.map_cons] at ih ⊢;rw [ih]; rfl
end Go.Vw
/-
 The rules by which a walk writes out a run.
-/
namespace Go.Vw
attribute [simp] axg at4 aw7 alr alo asf axi jcG asm ahj aoo av9 amg agh jcF aty akf jcB atq aen opList Kf awn aqg am8 awj aqz au5 agb ae9 ah9 ay2 ar1 awz ayv aux av6 asx ax5 atg jcC awi aqq ah5 ayn ay3 opBeq aze avh ah4 ag7 alh am1 ahi as5 af7 asb ag9 axw ava ape aw5 aly apq an8 am0 av3 arn ev Fr.lk Fr.put Fr.set Kj opPick opBox Js YF opNil opUn opConv opExtract opLenS jbv jJ okSz WQ ac1 ajw azc aq0 aw0 avg aqw atm asw as3 arq aw9 anz awa ath awe amk aok ang akq ale aki al9 al4 aor aid ana ald apn ark ax8 aya aws avu av2 avp aw3 ay1 at6 axo avm axu apr axx Yh cj cu atz ate ayj au7 avb agm jB jbn JM ab1 jR ahx am5 akt jY jQ alp jcK ao9 ahy ahm jE zl jaI ak5 aht jcR Kx Km YU jbz gcL gcE gcU aro auv idsF renF agz afn awk awr auu awo af4 afb ar8 atk arx auk ar2 arb att atw asg atl awm avd awv axa aoc ant aq2 aq4 an0 apy aww awp avj avx ao8 amv aga afu age agj atv apc jaz jay am4 ad3 ai9 art aqh jaV jaU aoq adf ajo uGet uSet
attribute [simp] List.idxOf_cons
section
variable {P:Program} {N b:Nat} {Q:Exit->Fr->Store->Prop} {σ σ':Fr} {S S':Store} {c:Code} {cs:List CO}
end
section
variable {P:Program} {N b:Nat} {Q:Exit->Fr->Store->Prop} {σ σ':Fr} {S S':Store} {c:Code} {cs rest:List CO}
theorem QV:(∀ (l:List Nat) (k x:Nat),(l.map cu).set k (.int .i64 (x:Int))=(l.set k x).map cu)/\(∀ (l:List Nat) (k x:Nat),(l.map cu).set k (.int .i64 ((x:Int)+1))=(l.set k (x+1)).map cu)/\(∀ (l:List Int) (k:Nat) (x:Int),(l.map cj).set k (.int .i64 x)=(l.set k x).map cj) /\ ∀ (l:List Bool) (k:Nat) (x:Bool),(l.map V.bool).set k (.bool x)=(l.set k x).map V.bool :=
 ⟨aud,ao3,auh,auo⟩
theorem QG {G:Prop} (H:G) (h:G->VWp P N b c Q σ S:=by first | exact fun H=>JO rfl H | exact fun H=>ake rfl H | exact fun H=>ak7 rfl H | exact fun H=>jz rfl H | exact fun H=>jP _ rfl rfl H | exact fun H=>jH rfl H | (refine fun H=>jC rfl rfl ?_ H; focus (simp [ev,Fr.lk]; done)) | (refine fun H=>jD rfl rfl ?_ H; focus (simp [ev,Fr.lk]; done)) | exact fun H=>jL _ rfl rfl H):VWp P N b c Q σ S:=h H
def kz:Nat->Store->Option (Option ZZ)
 | 1,_=>some none
 | 2,S=>some (some (ZZ.plain S))
 | _,_=>none
def km (P:Program) (c:Code) (ms:List Nat) (cs:List CO):Nat->Bool
 | 1=>true
 | _=>P.follows .mixedOrders&&lexZ ms (Code.ops c) cs cs.length 0 (Array.replicate (Code.ops c).size false)
def kms:Nat->Code->List Nat
 | 1,_=>[]
 | _,c=>qV (Code.ops c)
theorem QX {z:Option ZZ} {ms:List Nat} (h:kz (Code.kind c) S=some z:=by exact rfl) (hc:(kms (Code.kind c) c,qj P N (Code.ops c))=(ms,some cs):=by (conv=>lhs; reduce)) (hB:km P c ms cs (Code.kind c)=true:=by kernel_rfl)
  (r:runV z cs σ S=some ([],σ',S')) (k:Q .normal σ' S'):VWp P N b c Q σ S:=by
 by_cases h1:Code.kind c=1
 .rw [h1] at h
  cases h
  exact jX h1 (Prod.mk.inj hc).2 r (jam k)
 .by_cases h2:Code.kind c=2
  .rw [h2] at h hc hB
   cases h
   obtain ⟨e1,e2⟩:=Bool.and_eq_true_iff.1 hB;exact Kq h2 e1 (Prod.mk.inj hc).1 (Prod.mk.inj hc).2 e2 r (jam k)
  .have:kz (Code.kind c) S=none:=by
    unfold kz;split<;>simp_all
   rw [this] at h; cases h
theorem QR (h:Code.kind c=1:=by exact rfl) (hc:qj P N (Code.ops c)=some cs:=by (conv=>lhs; reduce)) (r:runV none cs σ S=some (rest,σ',S')) (k:jI P none rest (Q .normal) σ' S'):VWp P N b c Q σ S:=jX h hc r k
theorem QD {ms:List Nat} (h:Code.kind c=2:=by exact rfl) (hm:P.follows .mixedOrders=true:=by kernel_rfl) (hM:qV (Code.ops c)=ms:=by (conv=>lhs; reduce)) (hc:qj P N (Code.ops c)=some cs:=by (conv=>lhs; reduce)) (hB:lexZ ms (Code.ops c) cs cs.length 0 (Array.replicate (Code.ops c).size false)=true:=by kernel_rfl)
  (r:runV (some (ZZ.plain S)) cs σ S=some (rest,σ',S')) (k:jI P (some (ZZ.plain S)) rest (Q .normal) σ' S'):VWp P N b c Q σ S:=Kq h hm hM hc hB r k
theorem QL {z:Option ZZ} {K:Fr->Store->Prop} {d:Option Nat} {f:FuncId} {args:List Arg} {xs:List V} {r:List CO} {X:V} (h:VPure P f xs X) (H:jI P z r K (σ.put d X) S) (ha:args.map (ev σ)=xs:=by rfl) (hz:noW z d=true:=by rfl):jI P z (⟨d,none,.call f args⟩::r) K σ S:=jb ha h H hz
theorem QB {f:FuncId} {fn:Func} {c:Code} {ts:List Nat} {args:List V} {R:V->Store->Prop} {n:Nat} (hf:P.funcs[f]?=some fn) (hk:fn.ntmps=n) (h:S.Wf->VWp P n S.nx c (bodyV ts (Jb S.nx R)) (Kj 0 args) (St S [] [])) (hb:fn.body=some c:=by exact rfl) (ht:resT fn=some ts:=by exact rfl) (hn:args.length<=n:=by simp):VCalls P f args S R:=by
 subst hk;exact ab7 hf hb ht hn h
theorem b7 {f:FuncId} {fn:Func} {ts:List Nat} {args:List V} {R:V->Store->Prop} {n:Nat} (hf:P.funcs[f]?=some fn) (hk:fn.ntmps=n) (h:S.Wf->VWp P n S.nx (jc fn) (bodyV ts (Jb S.nx R)) (Kj 0 args) (St S [] [])) (hb:fn.body=some (jc fn):=by exact rfl) (ht:resT fn=some ts:=by exact rfl) (hn:args.length<=n:=by simp):VCalls P f args S R:=by
 subst hk;exact ab7 hf hb ht hn h
theorem QO (ks:List Nat) (H:VWp P N b c Q σ' S) (hk:σ.oy ks=σ':=by conv=>lhs; simp [Fr.oy,Fr.lk]):VWp P N b c Q σ S:=atb ks hk H
theorem QK {B:Store} {u u':Upds} {l l':List (Option (Nat × List V))} (ks:List Nat) (H:VWp P N B.nx c Q σ' (St B u' l')) (hw:B.Wf:=by assumption) (h1:ks.Nodup:=by decide) (h2:(Km B.nx ks u&&YU B.nx ks l ks&&idsF (gcP B.nx ks) σ)=true:=by simp) (hu:gcU B.nx ks u=u':=by conv=>lhs; simp) (hl:gcL B.nx ks l ks=l':=by conv=>lhs; simp) (hs:renF (gcTo B.nx ks) σ=σ':=by conv=>lhs; simp):VWp P N B.nx c Q σ (St B u l):=Yq ks hw h1 h2 hu hl hs H
def unS (P:Program) (N b:Nat):Nat->Code->(Exit->Fr->Store->Prop)->Code × (Exit->Fr->Store->Prop)
 | 0,c,Q=>(c,Q)
 | n+1,c,Q=>match Code.kind c with
  | 3=>unS P N b n (Code.fst c) (JS (VWp P N b (Code.snd c) Q) Q)
  | _=>(c,Q)
theorem aa2 {P:Program} {N b:Nat} {σ:Fr} {S:Store}:∀ (n:Nat) (c:Code) (Q:Exit->Fr->Store->Prop),VWp P N b (unS P N b n c Q).1 (unS P N b n c Q).2 σ S->VWp P N b c Q σ S
 | 0,_,_,h=>h
 | n+1,c,Q,h=>by
  unfold unS at h;split at h
  .exact JO (by assumption) (aa2 n _ _ h)
  .exact h
theorem QT {c':Code} {Q':Exit->Fr->Store->Prop} (k:VWp P N b c' Q' σ S) (h:unS P N b 9 c Q=(c',Q'):=by exact rfl):VWp P N b c Q σ S:=aa2 9 c Q (by rw [h]; exact k)
theorem QP {c':Code} {Q':Exit->Fr->Store->Prop} (k:jI P none rest (Q' .normal) σ' S') (t:unS P N b 9 c Q=(c',Q'):=by exact rfl) (h:Code.kind c'=1:=by exact rfl) (hc:qj P N (Code.ops c')=some cs:=by (conv=>lhs; reduce)) (r:runV none cs σ S=some (rest,σ',S'):=by conv=>lhs;simp[QV]):VWp P N b c Q σ S:=aa2 9 c Q (by rw [t]; exact QR h hc r k)
theorem QY {c':Code} {Q':Exit->Fr->Store->Prop} {z:Option ZZ} {ms:List Nat} (k:Q' .normal σ' S') (t:unS P N b 9 c Q=(c',Q'):=by exact rfl) (h:kz (Code.kind c') S=some z:=by exact rfl) (hc:(kms (Code.kind c') c',qj P N (Code.ops c'))=(ms,some cs):=by (conv=>lhs; reduce)) (hB:km P c' ms cs (Code.kind c')=true:=by kernel_rfl)
  (r:runV z cs σ S=some ([],σ',S'):=by conv=>lhs;simp[QV]):VWp P N b c Q σ S:=aa2 9 c Q (by rw [t]; exact QX h hc hB r k)
theorem QE {Z:ZZ} {K:Fr->Store->Prop} {d:Option Nat} {op:COp} (hz:Z.ok S') (H:jI P (some Z) rest K σ' S') (r:runV none [⟨d,none,op⟩] σ S=some ([],σ',S'):=by conv=>lhs;simp[QV]) (hk:(op.isCall||op.reader)=false:=by exact rfl):jI P (some Z) (⟨d,none,op⟩::rest) K σ S:=zd hk r hz H
theorem QI {B:Store} {u:Upds} {l lc ls:List (Option (Nat × List V))} {us uc:Upds} {S0:Store} {es:List Nat} {K:Fr->Store->Prop} {d:Option Nat} {op:COp} (H:jI P (some (ZZ.mk S0 (St B uc lc) (St B us ls) es)) rest K σ' (St B u l)) (r:runV none [⟨d,none,op⟩] σ S=some ([],σ',St B u l):=by conv=>lhs;simp[QV]) (hk:(op.isCall||op.reader)=false:=by exact rfl) (hz:subU uc u/\shpU us u/\subL lc l/\shpL ls l:=by simp [subU,shpU,subL,shpL]):jI P (some (ZZ.mk S0 (St B uc lc) (St B us ls) es)) (⟨d,none,op⟩::rest) K σ S:=zd hk r (Ky hz) H
theorem QJ (zc zs:Store) (es:List Nat) (H:jI P (some (ZZ.mk S zc zs es)) rest (Q .normal) σ' S') (h:Code.kind c=2:=by exact rfl) (hm:P.follows .mixedOrders=true:=by kernel_rfl) {ms:List Nat} (hM:qV (Code.ops c)=ms:=by (conv=>lhs; reduce)) (hc:qj P N (Code.ops c)=some cs:=by (conv=>lhs; reduce)) (hB:lexW es ms (Code.ops c) cs cs.length 0 (Array.replicate (Code.ops c).size false)=true:=by kernel_rfl) (hE:zD ms cs es=true:=by kernel_rfl) (hz:(ZZ.mk S zc zs es).ok S:=by exact Ky (by simp [subU,shpU,subL,shpL])) (r:runV (some (ZZ.mk S zc zs es)) cs σ S=some (rest,σ',S')):VWp P N b c Q σ S:=agc zc zs es h hm hM hc hB hE hz r H
theorem QW {z:Option ZZ} {K:Fr->Store->Prop} (k:K σ' S') (r:runV z cs σ S=some ([],σ',S'):=by conv=>lhs;simp[QV]):jI P z cs K σ S:=WD r k
theorem QZ {z:Option ZZ} {K:Fr->Store->Prop} (k:jI P z rest K σ' S') (r:runV z cs σ S=some (rest,σ',S'):=by conv=>lhs;simp[QV]):jI P z cs K σ S:=WD r k
theorem QM {z:Option ZZ} {K:Fr->Store->Prop} (r:runV z cs σ S=some (rest,σ',S')) (k:jI P z rest K σ' S'):jI P z cs K σ S:=WD r k
theorem bX {c':Code} {Q':Exit->Fr->Store->Prop} (ks:List Nat) (I:Nat->Fr->Store->Prop) (n0:Nat) (h0:I n0 (σ.oy ks) S) (round:∀ n σ S,I n σ S->VWp P N b (Code.inner c') (JS (jx N b I ks n) Q') σ S) (t:unS P N b 9 c Q=(c',Q'):=by exact rfl) (h:Code.kind c'=6:=by exact rfl):VWp P N b c Q σ S:=aa2 9 c Q (by rw [t]; exact jd ks h I n0 h0 round)
theorem bY {c':Code} {Q':Exit->Fr->Store->Prop} {ms:List Nat} (t:unS P N b 9 c Q=(c',Q'):=by exact rfl) (h:Code.kind c'=2:=by exact rfl) (hm:P.follows .mixedOrders=true:=by kernel_rfl) (hM:qV (Code.ops c')=ms:=by (conv=>lhs; reduce)) (hc:qj P N (Code.ops c')=some cs:=by (conv=>lhs; reduce)) (hB:lexZ ms (Code.ops c') cs cs.length 0 (Array.replicate (Code.ops c').size false)=true:=by kernel_rfl)
  (r:runV (some (ZZ.plain S)) cs σ S=some (rest,σ',S')) (k:jI P (some (ZZ.plain S)) rest (Q' .normal) σ' S'):VWp P N b c Q σ S:=aa2 9 c Q (by rw [t]; exact Kq h hm hM hc hB r k)
theorem bZ {c':Code} {Q':Exit->Fr->Store->Prop} (zc zs:Store) (es:List Nat) (H:jI P (some (ZZ.mk S zc zs es)) rest (Q' .normal) σ' S') (t:unS P N b 9 c Q=(c',Q'):=by exact rfl) (h:Code.kind c'=2:=by exact rfl) (hm:P.follows .mixedOrders=true:=by kernel_rfl) {ms:List Nat} (hM:qV (Code.ops c')=ms:=by (conv=>lhs; reduce)) (hc:qj P N (Code.ops c')=some cs:=by (conv=>lhs; reduce)) (hB:lexW es ms (Code.ops c') cs cs.length 0 (Array.replicate (Code.ops c').size false)=true:=by kernel_rfl) (hE:zD ms cs es=true:=by kernel_rfl) (hz:(ZZ.mk S zc zs es).ok S:=by exact Ky (by simp [subU,shpU,subL,shpL])) (r:runV (some (ZZ.mk S zc zs es)) cs σ S=some (rest,σ',S')):VWp P N b c Q σ S:=aa2 9 c Q (by rw [t]; exact agc zc zs es h hm hM hc hB hE hz r H)
theorem QN {z:Option ZZ} {K:Fr->Store->Prop} (h:K σ S):jI P z [] K σ S:=h
theorem bz {G:Prop} (H:G) (h:G->VWp P N b c Q σ S:=by intro H; (repeat first|refine QG ?_|refine QY ?_ (r:=by conv=>lhs;simp[QV])); exact H):VWp P N b c Q σ S:=h H
theorem bD {A0:Prop} {G:A0->Prop} (a0:A0) (H:G a0) (h:∀ (a0:A0),G a0->VWp P N b c Q σ S:=by intro a0 H; (repeat first|refine QG ?_|refine QY ?_ (r:=by conv=>lhs;simp[QV,a0])); exact H):VWp P N b c Q σ S:=h a0 H
theorem bF {A0 B0:Prop} {G:A0->B0->Prop} (a0:A0) (a1:B0) (H:G a0 a1) (h:∀ (a0:A0) (a1:B0),G a0 a1->VWp P N b c Q σ S:=by intro a0 a1 H; (repeat first|refine QG ?_|refine QY ?_ (r:=by conv=>lhs;simp[QV,a0,a1])); exact H):VWp P N b c Q σ S:=h a0 a1 H
theorem bG {A0 B0 C0:Prop} {G:A0->B0->C0->Prop} (a0:A0) (a1:B0) (a2:C0) (H:G a0 a1 a2) (h:∀ (a0:A0) (a1:B0) (a2:C0),G a0 a1 a2->VWp P N b c Q σ S:=by intro a0 a1 a2 H; (repeat first|refine QG ?_|refine QY ?_ (r:=by conv=>lhs;simp[QV,a0,a1,a2])); exact H):VWp P N b c Q σ S:=h a0 a1 a2 H
theorem bH {A0 B0 C0 D0:Prop} {G:A0->B0->C0->D0->Prop} (a0:A0) (a1:B0) (a2:C0) (a3:D0) (H:G a0 a1 a2 a3) (h:∀ (a0:A0) (a1:B0) (a2:C0) (a3:D0),G a0 a1 a2 a3->VWp P N b c Q σ S:=by intro a0 a1 a2 a3 H; (repeat first|refine QG ?_|refine QY ?_ (r:=by conv=>lhs;simp[QV,a0,a1,a2,a3])); exact H):VWp P N b c Q σ S:=h a0 a1 a2 a3 H
theorem bO {A0 B0 C0 D0 E0:Prop} {G:A0->B0->C0->D0->E0->Prop} (a0:A0) (a1:B0) (a2:C0) (a3:D0) (a4:E0) (H:G a0 a1 a2 a3 a4) (h:∀ (a0:A0) (a1:B0) (a2:C0) (a3:D0) (a4:E0),G a0 a1 a2 a3 a4->VWp P N b c Q σ S:=by intro a0 a1 a2 a3 a4 H; (repeat first|refine QG ?_|refine QY ?_ (r:=by conv=>lhs;simp[QV,a0,a1,a2,a3,a4])); exact H):VWp P N b c Q σ S:=h a0 a1 a2 a3 a4 H
theorem bB {A0 B0 C0 D0 E0 F0:Prop} {G:A0->B0->C0->D0->E0->F0->Prop} (a0:A0) (a1:B0) (a2:C0) (a3:D0) (a4:E0) (a5:F0) (H:G a0 a1 a2 a3 a4 a5) (h:∀ (a0:A0) (a1:B0) (a2:C0) (a3:D0) (a4:E0) (a5:F0),G a0 a1 a2 a3 a4 a5->VWp P N b c Q σ S:=by intro a0 a1 a2 a3 a4 a5 H; (repeat first|refine QG ?_|refine QY ?_ (r:=by conv=>lhs;simp[QV,a0,a1,a2,a3,a4,a5])); exact H):VWp P N b c Q σ S:=h a0 a1 a2 a3 a4 a5 H
theorem bJ {A0:Prop} {z:Option ZZ} {K:Fr->Store->Prop} {rest:A0->List CO} {σ':A0->Fr} {S':A0->Store} (a0:A0) (k:jI P z (rest a0) K (σ' a0) (S' a0)) (r:∀ (a0:A0),runV z cs σ S=some ((rest a0),(σ' a0),(S' a0)):=by intro a0; conv=>lhs;simp[QV,a0]):jI P z cs K σ S:=QM (r a0) k
theorem bK {A0 B0:Prop} {z:Option ZZ} {K:Fr->Store->Prop} {rest:A0->B0->List CO} {σ':A0->B0->Fr} {S':A0->B0->Store} (a0:A0) (a1:B0) (k:jI P z (rest a0 a1) K (σ' a0 a1) (S' a0 a1)) (r:∀ (a0:A0) (a1:B0),runV z cs σ S=some ((rest a0 a1),(σ' a0 a1),(S' a0 a1)):=by intro a0 a1; conv=>lhs;simp[QV,a0,a1]):jI P z cs K σ S:=QM (r a0 a1) k
theorem bM {A0 B0 C0:Prop} {z:Option ZZ} {K:Fr->Store->Prop} {rest:A0->B0->C0->List CO} {σ':A0->B0->C0->Fr} {S':A0->B0->C0->Store} (a0:A0) (a1:B0) (a2:C0) (k:jI P z (rest a0 a1 a2) K (σ' a0 a1 a2) (S' a0 a1 a2)) (r:∀ (a0:A0) (a1:B0) (a2:C0),runV z cs σ S=some ((rest a0 a1 a2),(σ' a0 a1 a2),(S' a0 a1 a2)):=by intro a0 a1 a2; conv=>lhs;simp[QV,a0,a1,a2]):jI P z cs K σ S:=QM (r a0 a1 a2) k
theorem bN {A0:Prop} {rest:A0->List CO} {σ':A0->Fr} {S':A0->Store} {c':Code} {Q':Exit->Fr->Store->Prop} (a0:A0) (k:jI P none (rest a0) (Q' .normal) (σ' a0) (S' a0)) (t:unS P N b 9 c Q=(c',Q'):=by exact rfl) (h:Code.kind c'=1:=by exact rfl) (hc:qj P N (Code.ops c')=some cs:=by (conv=>lhs; reduce)) (r:∀ (a0:A0),runV none cs σ S=some ((rest a0),(σ' a0),(S' a0)):=by intro a0; conv=>lhs;simp[QV,a0]):VWp P N b c Q σ S:=aa2 9 c Q (by rw [t]; exact QR h hc (r a0) k)
theorem bQ {A0 B0:Prop} {rest:A0->B0->List CO} {σ':A0->B0->Fr} {S':A0->B0->Store} {c':Code} {Q':Exit->Fr->Store->Prop} (a0:A0) (a1:B0) (k:jI P none (rest a0 a1) (Q' .normal) (σ' a0 a1) (S' a0 a1)) (t:unS P N b 9 c Q=(c',Q'):=by exact rfl) (h:Code.kind c'=1:=by exact rfl) (hc:qj P N (Code.ops c')=some cs:=by (conv=>lhs; reduce)) (r:∀ (a0:A0) (a1:B0),runV none cs σ S=some ((rest a0 a1),(σ' a0 a1),(S' a0 a1)):=by intro a0 a1; conv=>lhs;simp[QV,a0,a1]):VWp P N b c Q σ S:=aa2 9 c Q (by rw [t]; exact QR h hc (r a0 a1) k)
theorem bR {A0:Prop} {σ':A0->Fr} {S':A0->Store} {c':Code} {Q':Exit->Fr->Store->Prop} {z:Option ZZ} {ms:List Nat} (a0:A0) (k:Q' .normal (σ' a0) (S' a0)) (t:unS P N b 9 c Q=(c',Q'):=by exact rfl) (h:kz (Code.kind c') S=some z:=by exact rfl) (hc:(kms (Code.kind c') c',qj P N (Code.ops c'))=(ms,some cs):=by (conv=>lhs; reduce)) (hB:km P c' ms cs (Code.kind c')=true:=by kernel_rfl)
  (r:∀ (a0:A0),runV z cs σ S=some ([],(σ' a0),(S' a0)):=by intro a0; conv=>lhs;simp[QV,a0]):VWp P N b c Q σ S:=aa2 9 c Q (by rw [t]; exact QX h hc hB (r a0) k)
theorem bV {z:Option ZZ} {K:Fr->Store->Prop} {G:Prop} (H:G) (h:G->jI P z cs K σ S:=by intro H; refine QW ?_; (repeat first|refine QG ?_|refine QY ?_); exact H):jI P z cs K σ S:=h H
theorem bW {z:Option ZZ} {K:Fr->Store->Prop} {G:Prop} (H:G) (h:G->jI P z [] K σ S:=by intro H; refine QN ?_; (repeat first|refine QG ?_|refine QY ?_); exact H):jI P z [] K σ S:=h H
theorem QS (H:VWp P N b (Code.fst c) (JS (VWp P N b (Code.snd c) Q) Q) σ S) (h:Code.kind c=3:=by exact rfl):VWp P N b c Q σ S:=JO h H
end
theorem QA {N:Nat} {I:Nat->Fr->Store->Prop} {ks:List Nat} {n n':Nat} {σ σ1 σ':Fr} {B:Store} {u u':Upds} {l l':List (Option (Nat × List V))} (gs:List Nat) (hσ1:σ.oy ks=σ1:=by conv=>lhs; simp [Fr.oy]) (hw:B.Wf:=by assumption) (h1:gs.Nodup:=by decide)
  (h2:(Km B.nx gs u&&YU B.nx gs l gs&&idsF (gcP B.nx gs) σ1)=true:=by simp) (hu:gcU B.nx gs u=u':=by conv=>lhs; simp) (hl:gcL B.nx gs l gs=l':=by conv=>lhs; simp) (hσ:renF (gcTo B.nx gs) σ1=σ':=by conv=>lhs; simp)
  (h:n'<n/\I n' σ' (St B u' l')):jx N B.nx I ks n σ (St B u l):=qh gs hσ1 hw h1 h2 hu hl hσ h
end Go.Vw
