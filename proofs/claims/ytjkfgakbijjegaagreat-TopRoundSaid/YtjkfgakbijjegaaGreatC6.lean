import Derived.Test.YtjkfgakbijjegaaGreatC5
import Derived.ChangeSlices
import Derived.ChangeArms
import Derived.DataReads
import Derived.Below
import Derived.SizedLaws
import Derived.Test.YtjkfgakbijjegaaGreatProg
/- Part of the proof. -/
set_option linter.unusedVariables false
set_option linter.unusedSimpArgs false
namespace Go.Vw
open Go.RowKit
def zq (n:Nat) (R:V->Store->Prop) (r:V) (S1:Store):Prop := ∃ x' S',GhostB n r S1 x' S'/\R x' S'
theorem aah {P:Program} {f:FuncId} {fn:Func} {c:Code} {ts:List Nat} {args:List V} {S:Store} {R:V->Store->Prop} (hf:P.funcs[f]? = some fn) (hb:fn.body=some c) (ht:resT fn=some ts) (hn:args.length<=fn.ntmps)
  (h:S.Wf->VWp P fn.ntmps S.nx c (bodyV ts (zq S.nx R)) (zC 0 args) (St S [] [])):VCalls P f args S R:=by
 refine jcR fun hwf=>Km (afl hf hb ht hn ?_);have:=h hwf;rw [jh hwf] at this;exact this
theorem jd {S:Store} {l:OL} {r X:V} (hwf:S.Wf) (hr:r=X) (hx:X.ids (fun o=>decide (o<S.nx))=true):zq S.nx (fun r S'=>r=X/\S'=S) r (St S [] l) :=
 ⟨X,S,by subst hr; exact GhostB.done hwf hx rfl (jh hwf),rfl,rfl⟩
theorem bw {S:Store} {l:OL} {r X:V} (hwf:S.Wf:=by assumption) (hr:r=X:=by exact rfl) (hx:X.ids (fun o=>decide (o<S.nx))=true:=by exact rfl):zq S.nx (fun r S'=>r=X/\S'=S) r (St S [] l) :=jd hwf hr hx
theorem qc {S:Store} {l:OL} {r X:V} {S1:Store} (hwf:S.Wf) (hg:GhostB S.nx r S1 X (St S [] l)) (hx:X.ids (fun o=>decide (o<S.nx))=true):zq S.nx (fun r S'=>r=X/\S'=S) r S1 :=
 ⟨X,S,hg.trans (GhostB.done hwf hx rfl (jh hwf)),rfl,rfl⟩
theorem agf {S S':Store} {u:Upds} {l:OL} {r X:V} {R:V->Store->Prop} (hwf:S.Wf) (hr:r=X) (hx:X.ids (fun o=>decide (o<S.nx))=true) (hu:ZO S.nx [] u=true) (hS:St S (gcU S.nx [] u) []=S') (hR:R X S'):zq S.nx R r (St S u l) :=
 ⟨X,S',by subst hr; exact GhostB.done hwf hx hu hS,hR⟩
theorem jn {S S':Store} {r:V} {R:V->Store->Prop} (hR:R r S'):zq S.nx R r S':=⟨r,S',GhostB.refl _ _ _,hR⟩
theorem frz1 {B:Store} {u:Upds} {l:OL} {k len:Nat} {cells:List V} (hk:k<l.length) (hc:(l[k]?).join=some (1,cells)) (hcl:cells.all V.bK=true) (hl:cells.length=len) :
  Ghost (.slice (lid B.nx k) 0 len) (St B u l) (.list cells) (St B u (l.set k none)):=by
 rw [<-YQ hk];exact Ghost.freeze1 (by rw [Yo]; exact hc) hcl hl
theorem YH {α:Type} (enc:α->V) (h : ∀ x,(enc x).bK=true) (l:List α):(l.map enc).all V.bK=true:=by simp [h]
section
variable (f:Nat->Nat) (p:Nat->Bool)
theorem acr (b):(V.bool b).ren f = .bool b:=nr (by simp [V.ren])
theorem ar2 (k n):(V.int k n).ren f = .int k n:=nr (by simp [V.ren])
theorem aso (s):(V.str s).ren f = .str s:=nr (by simp [V.ren])
theorem apb:V.nils.ren f = .nils:=nr (by simp [V.ren])
theorem aqg:V.nilp.ren f = .nilp:=nr (by simp [V.ren])
theorem anv:V.nilm.ren f = .nilm:=nr (by simp [V.ren])
theorem ap0:V.nilf.ren f = .nilf:=nr (by simp [V.ren])
theorem aq1:V.junk.ren f = .junk:=nr (by simp [V.ren])
theorem anw (xs):(V.list xs).ren f = .list xs:=nr (by simp [V.ren])
theorem asf (x):(V.ref x).ren f = .ref x:=nr (by simp [V.ren])
theorem aup (xs):(V.agg xs).ren f = .agg (V.renL f xs):=nr (by simp [V.ren])
theorem aml (xs):(V.tuple xs).ren f = .tuple (V.renL f xs):=nr (by simp [V.ren])
theorem aqz (g xs):(V.func g xs).ren f = .func g (V.renL f xs):=nr (by simp [V.ren])
theorem aoh (g x):(V.meth g x).ren f = .meth g (x.ren f):=nr (by simp [V.ren])
theorem atz (v):(V.raw v).ren f = .raw v:=nr (by simp [V.ren])
theorem akp (o a b):(V.slice o a b).ren f = .slice (f o) a b:=nr (by simp [V.ren])
theorem asy (o a):(V.ptr o a).ren f = .ptr (f o) a:=nr (by simp [V.ren])
theorem ar4 (o):(V.map o).ren f = .map (f o):=nr (by simp [V.ren])
theorem jeB {α:Type} (enc:α->V) (l:List α):(vl enc l).ren f=vl enc l:=nr (by simp [vl,V.ren])
theorem adu (n):(bH n).ren f=bH n:=nr (by simp [bH,V.ren])
theorem Zu (n):(bI n).ren f=bI n:=nr (by simp [bI,V.ren])
theorem jaD:V.renL f []=[]:=nr (by simp [V.renL])
theorem Za (x xs):V.renL f (x::xs)=x.ren f::V.renL f xs:=nr (by simp [V.renL])
theorem af6 (xs ys):V.renL f (xs++ys)=V.renL f xs++V.renL f ys:=by simp [zy]
theorem jaE {α:Type} (enc:α->V) (h : ∀ x,(enc x).ren f=enc x) (l:List α):V.renL f (l.map enc)=l.map enc:=by simp [zy,h]
theorem akk (l:List Nat):V.renL f (l.map bI)=l.map bI:=jaE f bI (Zu f) l
theorem ab4 (l:List Int):V.renL f (l.map bH)=l.map bH:=jaE f bH (adu f) l
theorem akm (l:List Bool):V.renL f (l.map V.bool)=l.map V.bool:=jaE f V.bool (acr f) l
theorem auo {α:Type} (enc:α->V) (l:List (List α)):V.renL f (l.map (vl enc))=l.map (vl enc):=jaE f (vl enc) (jeB f enc) l
theorem afd (b):(V.bool b).ids p=true:=nr (by simp [V.ids])
theorem ath (k n):(V.int k n).ids p=true:=nr (by simp [V.ids])
theorem at8 (s):(V.str s).ids p=true:=nr (by simp [V.ids])
theorem aq3:V.nils.ids p=true:=nr (by simp [V.ids])
theorem aov:V.nilp.ids p=true:=nr (by simp [V.ids])
theorem apo:V.nilm.ids p=true:=nr (by simp [V.ids])
theorem aqd:V.nilf.ids p=true:=nr (by simp [V.ids])
theorem aq2:V.junk.ids p=true:=nr (by simp [V.ids])
theorem aqy (xs):(V.list xs).ids p=true:=nr (by simp [V.ids])
theorem at0 (x):(V.ref x).ids p=true:=nr (by simp [V.ids])
theorem ar3 (xs):(V.agg xs).ids p=V.idsL p xs:=nr (by simp [V.ids])
theorem amy (xs):(V.tuple xs).ids p=V.idsL p xs:=nr (by simp [V.ids])
theorem aff (g xs):(V.func g xs).ids p=V.idsL p xs:=nr (by simp [V.ids])
theorem aeb (g x):(V.meth g x).ids p=x.ids p:=nr (by simp [V.ids])
theorem auw (v):(V.raw v).ids p=true:=nr (by simp [V.ids])
theorem amc (o a b):(V.slice o a b).ids p=p o:=nr (by simp [V.ids])
theorem jdC (o a):(V.ptr o a).ids p=p o:=nr (by simp [V.ids])
theorem atn (o):(V.map o).ids p=p o:=nr (by simp [V.ids])
theorem jaQ {α:Type} (enc:α->V) (l:List α):(vl enc l).ids p=true:=nr (by simp [vl,V.ids])
theorem aer (n):(bH n).ids p=true:=nr (by simp [bH,V.ids])
theorem YC (n):(bI n).ids p=true:=nr (by simp [bI,V.ids])
theorem KO:V.idsL p []=true:=nr (by simp [V.idsL])
theorem JU (x xs):V.idsL p (x::xs)=(x.ids p&&V.idsL p xs):=nr (by simp [V.idsL])
theorem af0 (xs ys):V.idsL p (xs++ys)=(V.idsL p xs&&V.idsL p ys):=by simp [Jc]
theorem jaR {α:Type} (enc:α->V) (h : ∀ x,(enc x).ids p=true) (l:List α):V.idsL p (l.map enc)=true:=by simp [Jc,h]
theorem am4 (l:List Nat):V.idsL p (l.map bI)=true:=jaR p bI (YC p) l
theorem abx (l:List Int):V.idsL p (l.map bH)=true:=jaR p bH (aer p) l
theorem ak2 (l:List Bool):V.idsL p (l.map V.bool)=true:=jaR p V.bool (afd p) l
theorem ary {α:Type} (enc:α->V) (l:List (List α)):V.idsL p (l.map (vl enc))=true:=jaR p (vl enc) (jaQ p enc) l
end
theorem axn {P:Program} {N:Nat} {Q:Exit->Fr->Store->Prop} {σ σ':Fr} {B:Store} {u u':Upds} {l l':OL} {c:Code} (ks:List Nat) (hw:B.Wf) (h1:ks.Nodup) (h2:(ZO B.nx ks u&&jco B.nx ks l ks&&idsF (gcP B.nx ks) σ)=true)
  (hu:gcU B.nx ks u=u') (hl:gcL B.nx ks l ks=l') (hσ:renF (gcTo B.nx ks) σ=σ') (h:VWp P N B.nx c Q σ' (St B u' l')):VWp P N B.nx c Q σ (St B u l) :=
 Jf (Reach.gc ks hw h1 h2 hu hl hσ) h
theorem Jj {N:Nat} {I:Nat->Fr->Store->Prop} {ks:List Nat} {n n':Nat} {σ σ1 σ':Fr} {B:Store} {u u':Upds} {l l':OL} (gs:List Nat) (hσ1:σ.oy ks=σ1) (hw:B.Wf) (h1:gs.Nodup)
  (h2:(ZO B.nx gs u&&jco B.nx gs l gs&&idsF (gcP B.nx gs) σ1)=true) (hu:gcU B.nx gs u=u') (hl:gcL B.nx gs l gs=l') (hσ:renF (gcTo B.nx gs) σ1=σ')
  (h:n'<n/\I n' σ' (St B u' l')):zI N B.nx I ks n σ (St B u l) :=
 ⟨n',h.1,σ',_,by rw [hσ1]; exact Reach.gc gs hw h1 h2 hu hl hσ,h.2⟩
section
variable {S:Store} {s b:Nat}
theorem agm {k:IntKind} {o off len:Nat} {n:Int} (ho:(S.get o).isSome=true) (h0:0<=n) (h1:n<len):jz s S (.slice o off len) (.int k n)=some (.ptr o (off+n.toNat*s)):=by
 simp [jz,ho,h0,h1]
theorem al5 {o off len:Nat} (ho:(S.get o).isSome=true):Yf S (.slice o off len)=some (.int .i64 (len:Int)):=by simp [Yf,ho]
theorem jdo {α:Type} {enc:α->V} {l:List α} {k:IntKind} {i:Nat} {x:α} (hs:(enc x).ncells=s) (h:l[i]? = some x):jz s S (vl enc l) (.int k (i:Int))=some (.ref (enc x)):=by
 simp [jz,vl,h,hs]
theorem agh {α:Type} {enc:α->V} {l:List α} {k:IntKind} {x:α} (hs:(enc x).ncells=s) (h:l[0]? = some x):jz s S (vl enc l) (.int k 0)=some (.ref (enc x)):=by
 have:=jdo (S:=S) (k:=k) hs h;simpa using this
theorem aik {k:IntKind} {o off len:Nat} {h:Int} {c:Nat × List V} (ho:S.get o=some c) (hs:c.1=s) (h0:0<=h) (h1:h<=len):qN s S (.slice o off len) none (some (.int k h)) none=some (.slice o off h.toNat):=by
 have e:h.toNat<=len:=by omega
 simp [qN,zd,h0,ho,hs,e]
theorem ac6 {k:IntKind} {o off len:Nat} {h:Int} {c:Nat × List V} (ho:S.get o=some c) (hs:c.1=s) (h0:0<=h) (h1:h<=len):qN s S (.slice o off len) (some (.int k h)) none none=some (.slice o (off+h.toNat*s) (len-h.toNat)):=by
 have e:h.toNat<=len:=by omega
 simp [qN,zd,h0,ho,hs,e]
theorem jfE {α:Type} {enc:α->V} {l:List α} {k:IntKind} {h:Int} (h0:0<=h) (h1:h<=l.length):qN s S (vl enc l) none (some (.int k h)) none=some (vl enc (l.take h.toNat)):=by
 have e:h.toNat<=l.length:=by omega
 simp [qN,zd,vl,h0,e]
theorem jdm {α:Type} {enc:α->V} {l:List α} {k:IntKind} {h:Int} (hs : ∀ x,(enc x).ncells=s) (h0:0<=h) (h1:h<=l.length):qN s S (vl enc l) (some (.int k h)) none none=some (vl enc (l.drop h.toNat)):=by
 have e:h.toNat<=l.length:=by omega
 simp [qN,zd,vl,h0,e,hs,List.take_of_length_le]
theorem ahq:Yf S .nils=some (.int .i64 0):=nr rfl
theorem qH {o o' len k:Nat} {cells new:List V} (ho:S.get o=some (s,cells)) (ho':S.get o'=some (s,new)) (hl:len*s=cells.length) (hk:k*s=new.length) (hb:(len+k)*b<=140737488355328) (hb1:len+k<=140737488355328) :
  jB s b S (.slice o 0 len) (.slice o' 0 k)=some (.slice S.nx 0 (len+k),(S.del o).add (s,cells++new)):=by
 have e1:qb s S (.slice o' 0 k)=some (new,k):=by simp [qb,ho',hk]
 simp [jB,e1,ho,hl,hb,hb1]
theorem Yw {o' k:Nat} {new:List V} (ho':S.get o'=some (s,new)) (hk:k*s=new.length) (hb:k*b<=140737488355328) (hb1:k<=140737488355328) :
  jB s b S .nils (.slice o' 0 k)=some (.slice S.nx 0 k,S.add (s,new)):=by
 have e1:qb s S (.slice o' 0 k)=some (new,k):=by simp [qb,ho',hk]
 simp [jB,e1,hb,hb1]
theorem jfG {o len:Nat} {xs:List V} {cells:List V} (ho:S.get o=some (s,cells)) (hx : ∀ x∈xs,x.ncells=s) (hl:len*s=cells.length) (hb:(len+xs.length)*b<=140737488355328) (hb1:len+xs.length<=140737488355328) :
  jB s b S (.slice o 0 len) (.list xs)=some (.slice S.nx 0 (len+xs.length),(S.del o).add (s,cells++xs.flatMap V.cells)):=by
 have e1:qb s S (.list xs)=some (xs.flatMap V.cells,xs.length):=by simpa [qb] using hx
 simp [jB,e1,ho,hl,hb,hb1]
theorem jeg {xs:List V} (hx : ∀ x∈xs,x.ncells=s) (hb:xs.length*b<=140737488355328) (hb1:xs.length<=140737488355328) :
  jB s b S .nils (.list xs)=some (.slice S.nx 0 xs.length,S.add (s,xs.flatMap V.cells)):=by
 have e1:qb s S (.list xs)=some (xs.flatMap V.cells,xs.length):=by simpa [qb] using hx
 simp [jB,e1,hb,hb1]
theorem jeE {zero:List V} {n:Nat} (hb:n*b<=140737488355328) (hb1:n<=140737488355328):YN s b zero S (.int .i64 (n:Int)) (.int .i64 (n:Int))=some (.slice S.nx 0 n,S.add (s,rep0 zero n)):=by
 simp [YN]; omega
theorem aqt (z:V) (n:Nat):rep0 [z] n=List.replicate n z:=nr rfl
theorem afu (ρ:Arg->V) (cells:List V):qP ρ cells []=some cells:=nr rfl
theorem qx (ρ:Arg->V) (cells:List V) (off sz:Nat) (x:Arg) (r:List (Nat × Nat × Arg)) :
  qP ρ cells ((off,sz,x)::r)=if (ρ x).ncells=sz/\off+sz<=cells.length/\((ρ x).cells.all V.one)=true then qP ρ (Jn cells off (ρ x).cells) r else none:=nr rfl
end
theorem aj5 (cs:List V) (off:Nat) (xs:List V):Jn cs off xs=cs.take off++xs++cs.drop (off+xs.length):=nr rfl
theorem aqb (l:List Nat) (k x:Nat):(l.map bI).set k (.int .i64 (x:Int))=(l.set k x).map bI:=by simp [bI,List.map_set]
theorem al9 (l:List Nat) (k x:Nat):(l.map bI).set k (.int .i64 ((x:Int)+1))=(l.set k (x+1)).map bI:=by simp [bI,List.map_set]
theorem apn (l:List Int) (k:Nat) (x:Int):(l.map bH).set k (.int .i64 x)=(l.set k x).map bH:=by simp [bH,List.map_set]
theorem aph (l:List Bool) (k:Nat) (x:Bool):(l.map V.bool).set k (.bool x)=(l.set k x).map V.bool:=by simp [List.map_set]
theorem Kn {P:Program} {σ:Fr} {S:Store} {K:Fr->Store->Prop} {d:Option Nat} {f:FuncId} {args:List Arg} {xs:List V} {r:List CO} {R:V->Store->Prop} (ha:args.map (ev σ)=xs) (h:VCalls P f xs S R) (H : ∀ X S',R X S'->qy P none r K (σ.put d X) S'):qy P none (⟨d,none, .call f args⟩::r) K σ S:=by
 rw [agq,ha]; exact h.mono H
def GhostArgs (xs:List V) (S:Store) (xs':List V) (S':Store):Prop := ∀ m β w vs,Holds S m β w->RepL m β xs vs -> ∃ m' β',Holds S' m' β' w/\Ext m β w m' β' w/\RepL m' β' xs' vs
theorem GhostArgs.one (pre post:List V) {x x':V} {S S':Store} (hg:Ghost x S x' S'):GhostArgs (pre++x::post) S (pre++x'::post) S':=by
 intro m β w vs hS hr;have hi:pre.length<vs.length:=by rw [<-hr.1]; simp
 obtain ⟨m',β',h1,h2,h3⟩:=hg m β w vs[pre.length] hS (hr.2 pre.length x _ (by simp) (aa hi));refine ⟨m',β',h1,h2,by rw [<-hr.1]; simp,fun i y u hy hu => ?_⟩;by_cases e:i=pre.length
 .subst e;simp at hy; subst hy;rw [aa hi] at hu; cases hu;exact h3
 .refine h2.rep (hr.2 i y u ?_ hu);rw [<-hy];simp only [List.getElem?_append];split
  .rfl
  .rename_i hlt;have:i-pre.length=(i-pre.length-1)+1:=by omega
   rw [this]; rfl
theorem GhostArgs.trans {xs xs' xs'':List V} {S S' S'':Store} (h:GhostArgs xs S xs' S') (k:GhostArgs xs' S' xs'' S''):GhostArgs xs S xs'' S'':=by
 intro m β w vs hS hr;obtain ⟨m',β',h1,h2,h3⟩:=h m β w vs hS hr;obtain ⟨m'',β'',k1,k2,k3⟩:=k m' β' w vs h1 h3;exact ⟨m'',β'',k1,h2.trans k2,k3⟩
theorem jcj {P:Program} {f:FuncId} {xs xs':List V} {S S':Store} {R:V->Store->Prop} (hg:GhostArgs xs S xs' S') (h:VCalls P f xs' S' R):VCalls P f xs S R:=by
 intro m β w vs hS hr;obtain ⟨m',β',h1,h2,h3⟩:=hg m β w vs hS hr;refine (h m' β' w vs h1 h3).mono ?_;rintro e w' ⟨v,x,S1,m1,β1,he,hQ,k1,k2,k3⟩;exact ⟨v,x,S1,m1,β1,he,hQ,k1,k2,h2.trans k3⟩
theorem auy (a b:Int):(a==b)=decide (a=b):=by
 by_cases h:a=b<;>simp [h]
theorem aux (a b:Int):(a != b) = !decide (a=b):=by
 by_cases h:a=b<;>simp [h]
def upTo {α:Type} (f:Nat->α) (n:Nat):List α:=(List.range n).map f
theorem apt {α:Type} (f:Nat->α) (n:Nat):(upTo f n).length=n:=by simp [upTo]
def subL:OL->OL->Prop
 | [],_=>True
 | none::r,[]=>subL r []
 | none::r,_::r'=>subL r r'
 | some _::_,[]=>False
 | some c::r,c'::r'=>c'=some c/\subL r r'
def shpL:OL->OL->Prop
 | [],_=>True
 | none::r,[]=>shpL r []
 | none::r,_::r'=>shpL r r'
 | some _::_,[]=>False
 | some c::r,c'::r'=>c'.map (·.1)=some c.1/\shpL r r'
theorem jcv : ∀ (l l':OL),subL l l' -> ∀ (k:Nat) c,(l[k]?).join=some c->(l'[k]?).join=some c
 | [],_,_,k,c,h=>by simp at h
 | none::r,[],h,0,c,hc=>by simp at hc
 | none::r,[],h,k+1,c,hc=>by
  have:=jcv r [] (by simpa [subL] using h) k c (by simpa using hc);simp at this
 | none::r,_::r',h,0,c,hc=>by simp at hc
 | none::r,_::r',h,k+1,c,hc=>by
  have:=jcv r r' (by simpa [subL] using h) k c (by simpa using hc);simpa using this
 | some _::_,[],h,_,_,_=>by simp [subL] at h
 | some d::r,c'::r',h,0,c,hc=>by
  simp only [subL] at h;obtain ⟨rfl,_⟩:=h;simpa using hc
 | some d::r,c'::r',h,k+1,c,hc=>by
  simp only [subL] at h;have:=jcv r r' h.2 k c (by simpa using hc);simpa using this
theorem jcx : ∀ (l l':OL),shpL l l' -> ∀ (k:Nat) c,(l[k]?).join=some c -> ∃ c',(l'[k]?).join=some c'/\c'.1=c.1
 | [],_,_,k,c,h=>by simp at h
 | none::r,[],h,0,c,hc=>by simp at hc
 | none::r,[],h,k+1,c,hc=>by
  have:=jcx r [] (by simpa [shpL] using h) k c (by simpa using hc);simp at this
 | none::r,_::r',h,0,c,hc=>by simp at hc
 | none::r,_::r',h,k+1,c,hc=>by
  have:=jcx r r' (by simpa [shpL] using h) k c (by simpa using hc);simpa using this
 | some _::_,[],h,_,_,_=>by simp [shpL] at h
 | some d::r,c'::r',h,0,c,hc=>by
  simp only [shpL] at h;simp at hc; subst hc;obtain ⟨e,he,h1⟩:=aq.1 h.1;exact ⟨e,by simp [he],h1⟩
 | some d::r,c'::r',h,k+1,c,hc=>by
  simp only [shpL] at h;have:=jcx r r' h.2 k c (by simpa using hc);simpa using this
theorem acs {B:Store} {u u':Upds} {l l':OL} (hu : ∀ o d c,uGet u o d=some c->uGet u' o d=some c) (h:subL l l'):(St B u l).Sub (St B u' l'):=by
 intro o c hc;rw [zj] at hc ⊢;split
 .rename_i ho; rw [if_pos ho] at hc; exact hu _ _ _ hc
 .rename_i ho; rw [if_neg ho] at hc; exact jcv _ _ h _ _ hc
theorem awa {B:Store} {u u':Upds} {l l':OL} (hu : ∀ o d c,uGet u o d=some c -> ∃ c',uGet u' o d=some c'/\c'.1=c.1) (h:shpL l l'):(St B u l).Shp (St B u' l'):=by
 intro o c hc;rw [zj] at hc ⊢;split
 .rename_i ho; rw [if_pos ho] at hc; exact hu _ _ _ hc
 .rename_i ho; rw [if_neg ho] at hc; exact jcx _ _ h _ _ hc
def subU:Upds->Upds->Prop
 | [],[]=>True
 | (k,c)::r,(k',c')::r'=>k=k'/\(c=none\/c'=c)/\subU r r'
 | _,_=>False
def shpU:Upds->Upds->Prop
 | [],[]=>True
 | (k,c)::r,(k',c')::r'=>k=k'/\(c=none\/c'.map (·.1)=c.map (·.1))/\shpU r r'
 | _,_=>False
theorem jcu : ∀ (u u':Upds),subU u u' -> ∀ o d c,uGet u o d=some c->uGet u' o d=some c
 | [],[],_,o,d,c,h=>h
 | [],_::_,h,_,_,_,_=>by simp [subU] at h
 | _::_,[],h,_,_,_,_=>by simp [subU] at h
 | (k,c1)::r,(k',c2)::r',h,o,d,c,hc=>by
  simp only [subU] at h;obtain ⟨rfl,h1,h2⟩:=h;simp only [uGet] at hc ⊢;split
  .rename_i e;rw [if_pos e] at hc;rcases h1 with rfl | rfl
   .cases hc
   .exact hc
  .rename_i e;rw [if_neg e] at hc;exact jcu r r' h2 o d c hc
theorem aey : ∀ (u u':Upds),shpU u u' -> ∀ o d c,uGet u o d=some c -> ∃ c',uGet u' o d=some c'/\c'.1=c.1
 | [],[],_,o,d,c,h=>⟨c,h,rfl⟩
 | [],_::_,h,_,_,_,_=>by simp [shpU] at h
 | _::_,[],h,_,_,_,_=>by simp [shpU] at h
 | (k,c1)::r,(k',c2)::r',h,o,d,c,hc=>by
  simp only [shpU] at h;obtain ⟨rfl,h1,h2⟩:=h;simp only [uGet] at hc ⊢;split
  .rename_i e;rw [if_pos e] at hc;subst hc;rcases h1 with h1 | h1
   .cases h1
   .obtain ⟨c',h3,h4⟩:=aq.1 h1;exact ⟨c',h3,h4⟩
  .rename_i e;rw [if_neg e] at hc;exact aey r r' h2 o d c hc
theorem zH {S0 B:Store} {uc us u:Upds} {lc ls l:OL} {es:List Nat} (h0:subU uc u/\shpU us u/\subL lc l/\shpL ls l):(ZZ.mk S0 (St B uc lc) (St B us ls) es).ok (St B u l) :=
 ⟨acs (jcu _ _ h0.1) h0.2.2.1,awa (aey _ _ h0.2.1) h0.2.2.2⟩
theorem zOk {S0 B:Store} {uc us u:Upds} {lc ls l:OL} {es:List Nat} (h0:subU uc u/\shpU us u/\subL lc l/\shpL ls l:=by simp [subU,shpU,subL,shpL]):(ZZ.mk S0 (St B uc lc) (St B us ls) es).ok (St B u l):=zH h0
theorem aek {P:Program} {N b:Nat} {Q:Exit->Fr->Store->Prop} {σ σ':Fr} {S S':Store} {c:Code} {cs rest:List CO} (zc zs:Store) (es:List Nat) (h:Code.kind c=2) (hm:P.follows .mixedOrders=true) {ms:List Nat} (hM:zX (Code.ops c)=ms) (hc:qj P N (Code.ops c)=some cs) (hB:lexW es ms (Code.ops c) cs cs.length 0 (Array.replicate (Code.ops c).size false)=true)
  (hE:JW ms cs es=true) (hz:(ZZ.mk S zc zs es).ok S) (hr:runV (some (ZZ.mk S zc zs es)) cs σ S=some (rest,σ',S')) (H:qy P (some (ZZ.mk S zc zs es)) rest (Q .normal) σ' S'):VWp P N b c Q σ S :=
 jer _ h hm hM hc hB hE hz S.sub_refl hr H
theorem Wa {P:Program} {N:Nat} {Q:Exit->Fr->Store->Prop} {σ σ':Fr} {B:Store} {u:Upds} {l:OL} {c:Code} (t s:Nat) (ht:σ.lk t = .nils) (hs:σ.set t (.slice (lid B.nx l.length) 0 0)=σ') (h:VWp P N B.nx c Q σ' (St B u (l++[some (s,[])]))):VWp P N B.nx c Q σ (St B u l):=by
 rw [<-qT] at h;exact qi t ht (Ghost.nils (St B u l) s) hs h
end Go.Vw
namespace Go.Vw
open Go.RowKit Go.ChangeShapes Go.WideShapes
def whole (w:World):Imm:=fun b=>w.heap[b]?
def ReadsC (P:Program) (t:TypeId) {α:Type} (enc:α->List V) (ok:α->Prop):Prop :=
 ∀ (H:Type) (en:TypeId × Value->H) (w:World) (fuel:Nat) (cs:List Value) d,DataW.trod en P w 0 (fun _=>true) true fuel t cs=some d->(∀ n∈d.1.weights P t,n<=reachBytes) ->
  ∃ a,ok a/\(enc a).length=cs.length/\(∀ (i:Nat) x v,(enc a)[i]? = some x->cs[i]? = some v->RepI (whole w) x v) /\ ∀ v∈cs,v.oneCell'=true
theorem ReadsC.int {P:Program} {t:TypeId} {k:IntKind} (ht:P.underlying t=some (.int k)):ReadsC P t (fun n:Int=>[.int k n]) (fun n=>(Lit.int k n).wf=true):=by
 intro H en w fuel cs d h _;obtain ⟨n,rfl,rfl,hw⟩:=DataW.trod_int ht h;refine ⟨n,hw,rfl,fun i x v hx hv => ?_,by simp [Value.oneCell']⟩;cases i with
 | zero=>simp at hx hv; subst hx; subst hv; exact .int k n
 | succ i=>simp at hx
theorem ReadsC.bool {P:Program} {t:TypeId} (ht:P.underlying t=some .bool):ReadsC P t (fun b:Bool=>[.bool b]) (fun _=>True):=by
 intro H en w fuel cs d h _;obtain ⟨b,rfl,_⟩:=DataW.trod_bool ht h;refine ⟨b,trivial,rfl,fun i x v hx hv => ?_,by simp [Value.oneCell']⟩;cases i with
 | zero=>simp at hx hv; subst hx; subst hv; exact .bool b
 | succ i=>simp at hx
theorem jbP {w:World} {base:Nat} {a:Addr} {n:Nat} {cs:List Value} (h:w.cells? base a n=some cs):cs.length=n /\ ∀ i,i<n->w.cell? (a.add i)=cs[i]? := by
 have:=World.cells?_some h;exact ⟨this.2.1,this.2.2⟩
theorem jcK (b off n:Nat):(⟨b,off,none⟩:Addr).add n=⟨b,off+n,none⟩:=by
 unfold Addr.add; split
 .rename_i h; subst h; rfl
 .rfl
theorem ab1 {α β:Type} {f:Nat->Option β} : ∀ (n:Nat),(∀ i,i<n -> ∃ y,f i=some y) -> ∃ l:List β,l.length=n /\ ∀ i,i<n->l[i]? = f i
 | 0,_=>⟨[],rfl,fun i h=>by omega⟩
 | n+1,h=>by
  obtain ⟨l,h1,h2⟩:=ab1 (α:=α) n fun i hi=>h i (by omega);obtain ⟨y,hy⟩:=h n (by omega);refine ⟨l++[y],by simp [h1],fun i hi => ?_⟩;by_cases e:i<n
  .rw [aL (by omega),h2 i e]
  .have:i=n:=by omega
   subst this;rw [aV (by omega),h1,hy]; simp
theorem ZP {H:Type} {P:Program} {e:TypeId} : ∀ {ds:List (DataW H)} {i:Nat} {d:DataW H},ds[i]? = some d -> ∀ n∈d.weights P e,n∈DataW.weightsAll P e ds
 | d0::ds,0,d,hd,n,hn=>by
  simp only [aD,ar] at hd;subst hd;simp only [DataW.weightsAll,az];exact Or.inl hn
 | d0::ds,i+1,d,hd,n,hn=>by
  simp only [List.getElem?_cons_succ] at hd;simp only [DataW.weightsAll,az];exact Or.inr (ZP hd n hn)
 | [],_,_,hd,_,_=>by simp at hd
theorem ReadsC.slice {P:Program} {t e:TypeId} {α:Type} {enc:α->List V} {ok:α->Prop} (elV:α->V) (ht:P.underlying t=some (.slice e)) (he:ReadsC P e enc ok) (hs:0<P.cellsOf e) (hel : ∀ a,elV a = .agg (enc a)\/enc a=[elV a]) :
  ReadsC P t (fun l:List α=>[vl elV l]) (fun l=>(l.length<2^63/\l.length*P.bytesOf e<=140737488351232) /\ ∀ a∈l,ok a):=by
 intro H en w fuel cs d h hwt;rcases DataW.trod_slice ht h with ⟨rfl,rfl⟩ | ⟨a,len,cap,elems,rest,n,rfl,rfl,rfl,hb,hl,hm,hlen,hall,_,_⟩
 .refine ⟨[],⟨⟨by simp,by simp⟩,by simp⟩,rfl,fun i x v hx hv => ?_,by simp [Value.oneCell']⟩;cases i with
  | zero=>simp at hx hv; subst hx; subst hv; exact .list0 none 0 (Nat.zero_le _)
  | succ i=>simp at hx
 .have hml:maxLen<2^63:=by simp [maxLen]
  have hwl:(elems.length+rest.length)*P.bytesOf e<=140737488351232:=hwt _ (by simp [DataW.weights,ht]);have hwe : ∀ (i:Nat) (x:DataW H × List MemPlace),elems[i]? = some x -> ∀ n∈x.1.weights P e,n<=reachBytes:=fun i x hx n hn=>hwt n (by
   simp only [DataW.weights,ht,aE,az];exact .inr (.inl (ZP (i:=i) (d:=x.1) (by simp [hx]) n hn)))
  -- each element's cells, and what they read aZZ
  have each : ∀ i,i<len -> ∃ y:List Value × α,w.cells? 0 (a.add (i*P.cellsOf e)) (P.cellsOf e)=some y.1/\ok y.2/\(enc y.2).length=y.1.length/\(∀ (j:Nat) x v,(enc y.2)[j]? = some x->y.1[j]? = some v->RepI (whole w) x v) /\ ∀ v∈y.1,v.oneCell'=true:=by
   intro i hi;have:=hall i hi;have hel:elems[i]? = some elems[i]:=aa (by omega);rw [hel] at this;obtain ⟨cs,h1,h2⟩:=aG.1 this;obtain ⟨x,k1,k2,k3,k4⟩:=he H en w n cs _ h2 (hwe i _ hel);exact ⟨(cs,x),h1,k1,k2,k3,k4⟩
  classical
  obtain ⟨ys,hyl,hy⟩:=ab1 (α:=Nat) (f:=fun i=>if h:i<len then some (Classical.choose (each i h)) else none) len (fun i hi=>⟨_,dif_pos hi⟩);have hys : ∀ (i:Nat) y,ys[i]? = some y->i<len/\w.cells? 0 (a.add (i*P.cellsOf e)) (P.cellsOf e)=some y.1/\ok y.2/\(enc y.2).length=y.1.length/\(∀ (j:Nat) x v,(enc y.2)[j]? = some x->y.1[j]? = some v->RepI (whole w) x v) /\ ∀ v∈y.1,v.oneCell'=true:=by
   intro i y hi;have hlt:i<len:=by rw [<-hyl]; exact (ab.1 hi).1
   rw [hy i hlt,dif_pos hlt] at hi;cases hi;exact ⟨hlt,Classical.choose_spec (each i hlt)⟩
  refine ⟨ys.map (·.2),⟨⟨by simp; omega, ?_⟩, ?_⟩,rfl,fun i x v hx hv => ?_,by simp [Value.oneCell']⟩
  .rw [aB,hyl, <-hlen];exact aU (Nat.mul_le_mul_right _ (Nat.le_add_right _ _)) hwl
  .intro x hx;obtain ⟨y,hy1,rfl⟩:=List.mem_map.1 hx;obtain ⟨i,hi,rfl⟩:=aR hy1;exact (hys i _ (aa hi)).2.2.1
  .cases i with
   | succ i=>simp at hx
   | zero =>
    simp at hx hv;subst hx; subst hv;by_cases h0:len=0
    .have:ys=[]:=by cases ys<;>simp at hyl ⊢; omega
     subst this; subst h0;exact .list0 _ _ hm
    .-- the block
     obtain ⟨y0,hy0⟩ : ∃ y,ys[0]? = some y:=⟨ys[0]'(by omega),aa _⟩
     obtain ⟨_,hc0,_⟩:=hys 0 y0 hy0;obtain ⟨hcl0,hce0⟩:=jbP hc0;have hcell0:=hce0 0 hs;have hsome : ∃ v,w.cell? (a.add (0*P.cellsOf e) |>.add 0)=some v:=by
      rw [hcell0]; exact ⟨y0.1[0]'(by omega),aa _⟩
     obtain ⟨v0,hv0⟩:=hsome;have hspot:=World.cell?_spot hv0;obtain ⟨b,off,spot⟩:=a;have hsp:spot=none:=by simpa [Addr.add] using hspot
     subst hsp;obtain ⟨arr,T,fz,hheap⟩ : ∃ arr T fz,w.heap[b]? = some (.cells arr T fz):=by
      rw [jcK,jcK] at hv0;simp only [World.cell?] at hv0;split at hv0
      .rename_i h; exact ⟨_,_,_,h⟩
      .cases hv0
     have hat : ∀ k v,w.cell? ⟨b,k,none⟩=some v->arr[k]? = some v:=by
      intro k v hk;simp only [World.cell?,hheap] at hk;simpa using hk
     let val:List Value × α->Value:=fun y=>match elV y.2 with
      | .agg _ => .agg y.1.toArray
      | _=>y.1.headD undef
     have hval : ∀ (i:Nat) y,ys[i]? = some y->(val y).cells.size=P.cellsOf e/\RepI (whole w) (elV y.2) (val y) /\ ∀ (j:Nat) c,(val y).cells[j]? = some c->y.1[j]? = some c:=by
      intro i y hi;obtain ⟨hlt,k1,k2,k3,k4,k5⟩:=hys i y hi;obtain ⟨l1,l2⟩:=jbP k1;by_cases hag : ∃ cs,elV y.2 = .agg cs
      .obtain ⟨cs,hcs⟩:=hag;have e1:val y = .agg y.1.toArray:=by simp only [val,hcs]
       rcases hel y.2 with h1 | h1
       .rw [hcs] at h1; cases h1;rw [e1,hcs];exact ⟨by simp [Value.cells,l1], .agg _ _ k3 (fun j x v hx hv=>k4 j x v hx hv) k5,fun j c hj=>by simpa [Value.cells] using hj⟩
       .exfalso
        have h2:y.1.length=1:=by rw [<-k3,h1]; rfl
        have h3:=k4 0 _ y.1[0] (by rw [h1]; rfl) (aa (by omega));rw [hcs] at h3;have h4:=k5 y.1[0] (ah _);generalize y.1[0]=u at h3 h4;cases h3 with
        | agg xs vs _ _ _=>simp [Value.oneCell'] at h4
      .have e1:val y=y.1.headD undef:=by
        simp only [val];split
        .rename_i cs hcs; exact absurd ⟨cs,hcs⟩ hag
        .rfl
       rcases hel y.2 with h1 | h1
       .exact absurd ⟨_,h1⟩ hag
       .have h2:y.1.length=1:=by rw [<-k3,h1]; rfl
        have e2:val y=y.1[0]:=by
         rw [e1];obtain ⟨ya,yb⟩:=y;cases ya with
         | nil=>simp at h2
         | cons u us=>rfl
        have h3:=k4 0 _ y.1[0] (by rw [h1]; rfl) (aa (by omega));have h4:=k5 y.1[0] (ah _);have huc:(y.1[0]).cells = #[y.1[0]]:=by
         generalize y.1[0]=u at h4;cases u<;>first | rfl | simp [Value.oneCell'] at h4
        rw [e2,huc];refine ⟨by simp; omega,h3,fun j c hj => ?_⟩;cases j with
        | zero=>simp at hj; subst hj; exact aa _
        | succ j=>simp at hj
     have:=RepI.list (m:=whole w) ((ys.map (·.2)).map elV) (ys.map val) b off cap (P.cellsOf e) arr T fz hheap (by simp) (by simp; omega) hm
      (fun v hv=>by
       obtain ⟨y,hy1,rfl⟩:=List.mem_map.1 hv;obtain ⟨i,hi,rfl⟩:=aR hy1;exact (hval i _ (aa hi)).1)
      (fun i x v hx hv=>by
       simp only [aQ,aq] at hx hv;obtain ⟨z,⟨y,h1,rfl⟩,rfl⟩:=hx;obtain ⟨y',h2,rfl⟩:=hv;rw [h1] at h2; cases h2;exact (hval i y h1).2.1)
      (fun i v j c hv hj=>by
       simp only [aQ,aq] at hv;obtain ⟨y,h1,rfl⟩:=hv;have h3:=(hval i y h1).2.2 j c hj;obtain ⟨_,k1,_⟩:=hys i y h1;obtain ⟨l1,l2⟩:=jbP k1;have hj2:j<P.cellsOf e:=by rw [<-l1]; exact (ab.1 h3).1
       have:=l2 j hj2;rw [h3] at this;rw [jcK,jcK] at this;exact hat _ _ this)
     have e3:((ys.map (·.2)).map elV).length=len:=by simp [hyl]
     rw [e3] at this;exact this
theorem ReadsC.one {P:Program} {t:TypeId} {α:Type} {enc:α->V} {ok:α->Prop} (h:ReadsC P t (fun a=>[enc a]) ok) {H:Type} {en:TypeId × Value->H} {w:World} {v:Value} {d:DataW H} {ps:List MemPlace} (hv:v.oneCell'=true)
  (hd:DataW.Trod en P w 0 (fun _=>true) true t v d ps) (hwt : ∀ n∈d.weights P t,n<=reachBytes) : ∃ a,ok a/\RepI (whole w) (enc a) v:=by
 obtain ⟨fuel,hd⟩:=hd;have huc:v.cells = #[v]:=by cases v<;>first | rfl | simp [Value.oneCell'] at hv
 rw [huc] at hd;obtain ⟨a,h1,_,h3,_⟩:=h H en w fuel _ _ hd hwt;exact ⟨a,h1,h3 0 _ v rfl rfl⟩
theorem ah5 {P:Program} {f:FuncId} {xs:List V} {vs:List Value} {W:World} (hl:xs.length=vs.length) (hr : ∀ (i:Nat) x v,xs[i]? = some x->vs[i]? = some v->RepI (whole W) x v) (h:VPure P f xs (.bool true)) :
  Calls P f vs.toArray W fun e w'=>e = .returned (.bool true)/\Below W.heap.size W w':=by
 have hS:Holds ⟨fun _=>none,0⟩ (whole W) (fun _=>Loc.fresh) W:=by
  exact { imm:=fun b o hb=>hb,apart:=fun o b hb=>(by cases hb),inj:=fun o o' b hb _=>(by cases hb),fresh:=fun o=>⟨fun _=>Nat.zero_le _,fun _=>rfl⟩,gone:=fun _ _=>rfl,dead:=fun o ho=>(by cases ho),live:=fun o c hc=>(by cases hc) }
 refine (h ⟨fun _=>none,0⟩ (whole W) (fun _ => .fresh) W vs hS ⟨hl,fun i x v hx hv => .imm (hr i x v hx hv)⟩).mono ?_;rintro e w' ⟨v,x,S',m',β',rfl,⟨rfl,rfl⟩,h1,h2,h3⟩;have hv:=h1.inv_bool;subst hv;refine ⟨rfl,h3.os,h3.tape,h3.output,h3.size,fun k hk => ?_⟩;have hm:whole W k=some W.heap[k]:=by simp [whole,hk]
 have:=h2.imm k _ (h3.imm k _ hm);rw [this]; simp [hk]
theorem ReadsC.map {P:Program} {t:TypeId} {α β:Type} {enc:α->List V} {ok:α->Prop} {encB:β->List V} {okB:β->Prop} (h:ReadsC P t enc ok) (g:α->β) (he : ∀ a,encB (g a)=enc a) (ho : ∀ a,ok a->okB (g a)):ReadsC P t encB okB:=by
 intro H en w fuel cs d hd hwt;obtain ⟨a,h1,h2,h3,h4⟩:=h H en w fuel cs d hd hwt;exact ⟨g a,ho a h1,by rw [he]; exact h2,by rw [he]; exact h3,h4⟩
end Go.Vw
namespace Go.Vw
open Go.Proofs Go.RowKit
abbrev bF:=VPure Tryz.prog
abbrev bG:=VCalls Tryz.prog
end Go.Vw
namespace Go.Vw
open Go.RowKit
theorem Holds.reseen {S:Store} {m:Imm} {β:Objs} {w:World} (hS:Holds S m β w) {o b base s n:Nat} {c:Nat × List V} {arr:Array Value} {T:TypeId} (hc:S.get o=some c) (hβ:β o = .lies b base s n) {fz:Nat × Nat} (hb:w.heap[b]? = some (.cells arr T fz))
  (cs':List V) (hl:cs'.length=c.2.length) (h : ∀ (i:Nat) (x:V) (v:Value),cs'[i]? = some x->arr[base+i]? = some v->Rep m β x v):Holds (S.upd o (c.1,cs')) m β w:=by
 have hlt:=hS.lt hc;refine ⟨hS.imm,hS.apart,hS.inj,hS.fresh,fun o' ho' => ?_,fun o' ho' hn => ?_,fun o' c' hc' => ?_⟩
 .rw [jQ];have:S.nx<=o':=ho';rw [if_neg (by omega)]; exact hS.gone o' ho'
 .rw [jQ] at hn;by_cases e:o'=o
  .rw [if_pos e] at hn; cases hn
  .rw [if_neg e] at hn; exact hS.dead o' ho' hn
 .rw [jQ] at hc';by_cases e:o'=o
  .rw [if_pos e] at hc';cases hc';subst e;have hl0:=hS.live o' c hc;rw [hβ] at hl0 ⊢;obtain ⟨h0,arr',T',⟨fz',hz,h1⟩,h2,h3,h4⟩:=hl0;rw [hb] at h1;cases h1;refine ⟨h0,arr,T,⟨fz,hz,hb⟩,h2,by simp only; omega,fun i x hx => ?_⟩;have hi:i<c.2.length:=by rw [<-hl]; exact (ab.1 hx).1
   obtain ⟨v,e1,e2,e3⟩:=h4 i _ (aa hi);exact ⟨v,e1,h i x v hx e1,e3⟩
  .rw [if_neg e] at hc'; exact hS.live o' c' hc'
theorem Reach.cell {N b0:Nat} {σ:Fr} {S S1:Store} {x x':V} {o i s:Nat} {cs:List V} (hg:Ghost x S x' S1) (hx:x.one=true) (hc:S.get o=some (s,cs)) (hi:cs[i]? = some x) (hc1:S1.get o=some (s,cs)) :
  Reach N b0 σ S σ (S1.upd o (s,cs.set i x')):=by
 intro m β w a hS hF;have hl:=hS.live o _ hc;have hlt:i<cs.length:=(ab.1 hi).1;cases hβ:β o with
 | fresh=>rw [hβ] at hl; exact hl.elim
 | dead=>rw [hβ] at hl; exact hl.elim
 | void=>rw [hβ] at hl; simp only [Live] at hl; rw [hl] at hlt; simp at hlt
 | mp b' =>
  rw [hβ] at hl;obtain ⟨es,clock,h1,h2,h3⟩:=hl;have hi2:i<es.size:=by simp only at h2; omega
  obtain ⟨k,v,e1,_⟩:=h3 i x es[i] hi (Array.getElem?_eq_getElem hi2);rw [e1] at hx; simp [V.one] at hx
 | lies b base s' n =>
  rw [hβ] at hl;obtain ⟨h0,arr,T,⟨fz,hz,h1⟩,h2,h3,h4⟩:=hl;obtain ⟨v,e1,e2,e3⟩:=h4 i x hi;obtain ⟨m',β',k1,k2,k3⟩:=hg m β w v hS e2;have hb':β' o = .lies b base s' n:=by
   rcases k2.step o (by rw [hβ]; exact Loc.noConfusion) with h | h
   .rw [h,hβ]
   .have:=k1.live o _ hc1;rw [h] at this; exact this.elim
  refine ⟨m',β', ?_,hF.ext k2,k2.toB b0⟩;have:=k1.reseen hc1 hb' h1 (cs.set i x') (by simp) (fun j y u hy hu => ?_)
  .exact this
  .rw [List.getElem?_set] at hy;split at hy
   .rename_i e; subst e;simp only [hlt,if_true,ar] at hy;subst hy;rw [e1] at hu; cases hu;exact k3
   .obtain ⟨u',f1,f2,_⟩:=h4 j y hy;rw [f1] at hu; cases hu;exact k2.rep f2
section
variable {S:Store} {b oo:Nat} {os:List Nat} {cells:List V} {rows:List (List V)} {k:Nat} {row:List V} {x:V}
end
section
variable {S Z T:Store} {o o':Nat} {c:Nat × List V}
theorem Store.Sub.upd (h:Z.Sub S) (hg:Z.get o=none):Z.Sub (S.upd o c):=by
 intro o' d hd;rw [jQ,if_neg (fun e=>by subst e; rw [hg] at hd; cases hd)];exact h o' d hd
theorem Store.Shp.upd {d:Nat × List V} (h:Z.Shp S) (hg:S.get o=some d) (he:c.1=d.1):Z.Shp (S.upd o c):=by
 intro o' e hd;obtain ⟨f,h1,h2⟩:=h o' e hd;rw [jQ];split
 .rename_i e; subst e; rw [hg] at h1; cases h1; exact ⟨c,rfl,he.trans h2⟩
 .exact ⟨f,h1,h2⟩
theorem Store.Sub.trans (h:Z.Sub S) (k:S.Sub T):Z.Sub T:=fun o c hc=>k o c (h o c hc)
end
def jF {α:Type} (enc:α->V) (ls:List α):List V:=ls.flatMap fun a=>(enc a).cells
theorem zD {α:Type} (enc:α->V) (ls:List α) (a:α):jF enc (ls++[a])=jF enc ls++(enc a).cells:=by simp [jF]
theorem zS {α:Type} {enc:α->V} {s:Nat} (hs : ∀ a,(enc a).cells.length=s) (ls:List α):(jF enc ls).length=ls.length*s:=by
 induction ls with
 | nil=>simp [jF]
 | cons a ls ih=>simp only [jF,List.flatMap_cons,lA,hs,av,Nat.add_mul,Nat.one_mul] at ih ⊢; omega
theorem jdG {α:Type} {enc:α->V} {s:Nat} (hs : ∀ a,(enc a).cells.length=s) : ∀ (ls:List α) (i j:Nat) (a:α) (c:V),ls[i]? = some a->(enc a).cells[j]? = some c->(jF enc ls)[i*s+j]? = some c
 | [],i,j,a,c,h,_=>by simp at h
 | x::ls,0,j,a,c,h,hc=>by
  simp at h; subst h;have hj:j<(enc x).cells.length:=(ab.1 hc).1;simp only [jF,List.flatMap_cons,Nat.zero_mul,aS];rw [aL hj]; exact hc
 | x::ls,i+1,j,a,c,h,hc=>by
  have:=jdG hs ls i j a c (by simpa using h) hc;simp only [jF,List.flatMap_cons] at this ⊢;rw [aV (by rw [hs,Nat.add_mul]; omega),hs];rw [show (i+1)*s+j-s=i*s+j by rw [Nat.add_mul]; omega];exact this
theorem Zm {x:V} (h:x.closed=true) : ∀ c∈x.cells,c.bK=true:=by
 intro c hc;cases x<;>simp only [V.cells,aM] at hc<;>first | (subst hc; simpa [V.closed] using h) | skip
 rename_i xs;have : ∀ x∈xs,x.bK=true:=by simpa [V.closed] using h
 exact this c hc
theorem aeh {α:Type} {enc:α->V} (hc : ∀ a,(enc a).closed=true) (ls:List α):(jF enc ls).all V.bK=true:=by
 simp only [ax,jF,List.mem_flatMap];rintro c ⟨a,_,ha⟩;exact Zm (hc a) c ha
theorem frzS {α:Type} {enc:α->V} {s:Nat} (hs : ∀ a,(enc a).cells.length=s) (hc : ∀ a,(enc a).closed=true) {S:Store} {o:Nat} (ls:List α) (hg:S.get o=some (s,jF enc ls)):Ghost (.slice o 0 ls.length) S (vl enc ls) (S.del o):=by
 refine Ghost.freeze hg (aeh hc ls) (ls.map enc) (by simp) fun i x hx => ?_;simp only [aQ,aq] at hx;obtain ⟨a,ha,rfl⟩:=hx;refine ⟨hs a,hc a,fun j c hj => ?_⟩;rw [aS];exact jdG hs ls i j a c ha hj
theorem jdF {α:Type} {enc:α->V} {s:Nat} (hs : ∀ a,(enc a).cells.length=s) (hc : ∀ a,(enc a).closed=true) {B:Store} {u:Upds} {l:OL} {k:Nat} (ls:List α) (hk:k<l.length) (hg:(l[k]?).join=some (s,jF enc ls)):Ghost (.slice (lid B.nx k) 0 ls.length) (St B u l) (vl enc ls) (St B u (l.set k none)):=by
 rw [<-YQ hk];exact frzS hs hc ls (by rw [Yo]; exact hg)
theorem Ju {α:Type} {enc:α->V} (hc : ∀ a,(enc a).closed=true) (f:Nat->Nat) (ls:List α):V.renL f (jF enc ls)=jF enc ls:=by
 rw [zy];refine (aP fun c hm => ?_).trans (List.map_id _);simp only [jF,List.mem_flatMap] at hm;obtain ⟨a,_,ha⟩:=hm;have:=Zm (hc a) c ha;cases c<;>first | rfl | (simp [V.bK] at this)
theorem Je {α:Type} {enc:α->V} (hc : ∀ a,(enc a).closed=true) (p:Nat->Bool) (ls:List α):V.idsL p (jF enc ls)=true:=by
 rw [Jc,ax];intro c hm;simp only [jF,List.mem_flatMap] at hm;obtain ⟨a,_,ha⟩:=hm;have:=Zm (hc a) c ha;cases c<;>first | rfl | (simp [V.bK] at this)
section
variable {S:Store} {s b:Nat}
theorem Kc {α:Type} {enc:α->V} {o len:Nat} {cells:List V} {l:List α} (hs : ∀ a,(enc a).ncells=s) (ho:S.get o=some (s,cells)) (hl:len*s=cells.length) (hb:(len+l.length)*b<=140737488355328) (hb1:len+l.length<=140737488355328) :
  jB s b S (.slice o 0 len) (vl enc l)=some (.slice S.nx 0 (len+l.length),(S.del o).add (s,cells++jF enc l)):=by
 have:=jfG (S:=S) (s:=s) (b:=b) (o:=o) (len:=len) (xs:=l.map enc) (cells:=cells) ho (fun x hx=>by
  obtain ⟨a,_,rfl⟩:=List.mem_map.1 hx;exact hs a) hl (by simpa using hb) (by simpa using hb1)
 simpa [vl,jF,List.flatMap_map] using this
end
theorem jeP (l:List Nat):jF bI l=l.map bI:=by
 induction l with
 | nil=>rfl
 | cons x l ih =>
  simp only [jF,List.flatMap_cons,List.map_cons] at ih ⊢;rw [ih]; rfl
end Go.Vw
namespace Go.Vw
attribute [simp] ank af4 anr aur ak1 akj alm apu aq0 aqq ahk aiw avm ao2 an9 avp jfz an3 ae8 ala asw aht ad7 jfy ait jfv ac5 opList YK ati alp aj4 asp apq auk acj adz afq au6 ann asa avt asj asl aol aww an0 jfw asq apr agj avy awq opBeq awy ar9 age aev aio ajo adk ao9 adv ads avb as2 ame auf ajb ak9 amt al4 arz ap2 ev Fr.lk Fr.put Fr.set zC opPick opBox Jk jbr opNil opUn opConv jaJ opLenS opBin qO okSz jcm ag2 atu axc adi aa0 aua Zx arn ap5 ap9 apf aut Kr aty ap3 arl ats ahr aka al0 aip ai4 ai1 aig ah2 ams af5 akz ais ahu al7 akd aor avo awt aru ask asm auq as8 av5 ard awf as4 asz awg awi aj2 avr ao6 bH bI afb apd jeF auy aux apt Yo qT Yn YQ jH agm al5 ahq qH Yw jeE aqt aj5 afu qx an7 jdo agh aik ac6 jfE jdm ZO jco gcOkE gcL gcE gcU aoj at3 idsF renF acr afd ar2 ath aso at8 apb aq3 aqg aov ap0 aqd anv apo aq1 aq2 anw aqy asf at0 aup ar3 aml amy aqz aoh atz aff aeb auw akp amc asy jdC ar4 atn jeB jaQ adu aer Zu YC jaD Za af6 akk ab4 akm auo KO JU af0 am4 abx ak2 ary uGet uSet
attribute [simp] List.idxOf_cons
section
variable {P:Program} {N b:Nat} {Q:Exit->Fr->Store->Prop} {σ σ':Fr} {S S':Store} {c:Code} {cs:List CO}
end
section
variable {P:Program} {N b:Nat} {Q:Exit->Fr->Store->Prop} {σ σ':Fr} {S S':Store} {c:Code} {cs rest:List CO}
theorem QV:(∀ (l:List Nat) (k x:Nat),(l.map bI).set k (.int .i64 (x:Int))=(l.set k x).map bI)/\(∀ (l:List Nat) (k x:Nat),(l.map bI).set k (.int .i64 ((x:Int)+1))=(l.set k (x+1)).map bI)/\(∀ (l:List Int) (k:Nat) (x:Int),(l.map bH).set k (.int .i64 x)=(l.set k x).map bH) /\ ∀ (l:List Bool) (k:Nat) (x:Bool),(l.map V.bool).set k (.bool x)=(l.set k x).map V.bool :=
 ⟨aqb,al9,apn,aph⟩
theorem QG {G:Prop} (H:G) (h:G->VWp P N b c Q σ S:=by first | exact fun H=>jfj rfl H | exact fun H=>vw_scopeAt rfl H | exact fun H=>vw_labelAt rfl H | exact fun H=>Kl rfl H | exact fun H=>aba _ rfl rfl H | exact fun H=>ada rfl H | (refine fun H=>jct rfl rfl ?_ H; focus (simp [ev,Fr.lk]; done)) | (refine fun H=>Zn rfl rfl ?_ H; focus (simp [ev,Fr.lk]; done)) | exact fun H=>aie _ rfl rfl H):VWp P N b c Q σ S:=h H
def kz:Nat->Store->Option (Option ZZ)
 | 1,_=>some none
 | 2,S=>some (some (ZZ.plain S))
 | _,_=>none
def km (P:Program) (c:Code) (ms:List Nat) (cs:List CO):Nat->Bool
 | 1=>true
 | _=>P.follows .mixedOrders&&lexZ ms (Code.ops c) cs cs.length 0 (Array.replicate (Code.ops c).size false)
def kms:Nat->Code->List Nat
 | 1,_=>[]
 | _,c=>zX (Code.ops c)
theorem QX {z:Option ZZ} {ms:List Nat} (h:kz (Code.kind c) S=some z:=by exact rfl) (hc:(kms (Code.kind c) c,qj P N (Code.ops c))=(ms,some cs):=by (conv=>lhs; reduce)) (hB:km P c ms cs (Code.kind c)=true:=by kernel_rfl)
  (r:runV z cs σ S=some ([],σ',S')) (k:Q .normal σ' S'):VWp P N b c Q σ S:=by
 by_cases h1:Code.kind c=1
 .rw [h1] at h;cases h;exact jbW h1 (Prod.mk.inj hc).2 r (ab3 k)
 .by_cases h2:Code.kind c=2
  .rw [h2] at h hc hB;cases h;obtain ⟨e1,e2⟩:=Bool.and_eq_true_iff.1 hB;exact jbX h2 e1 (Prod.mk.inj hc).1 (Prod.mk.inj hc).2 e2 r (ab3 k)
  .have:kz (Code.kind c) S=none:=by
    unfold kz;split<;>simp_all
   rw [this] at h; cases h
theorem QR (h:Code.kind c=1:=by exact rfl) (hc:qj P N (Code.ops c)=some cs:=by (conv=>lhs; reduce)) (r:runV none cs σ S=some (rest,σ',S')) (k:qy P none rest (Q .normal) σ' S'):VWp P N b c Q σ S:=jbW h hc r k
theorem QD {ms:List Nat} (h:Code.kind c=2:=by exact rfl) (hm:P.follows .mixedOrders=true:=by kernel_rfl) (hM:zX (Code.ops c)=ms:=by (conv=>lhs; reduce)) (hc:qj P N (Code.ops c)=some cs:=by (conv=>lhs; reduce)) (hB:lexZ ms (Code.ops c) cs cs.length 0 (Array.replicate (Code.ops c).size false)=true:=by kernel_rfl)
  (r:runV (some (ZZ.plain S)) cs σ S=some (rest,σ',S')) (k:qy P (some (ZZ.plain S)) rest (Q .normal) σ' S'):VWp P N b c Q σ S:=jbX h hm hM hc hB r k
theorem QL {z:Option ZZ} {K:Fr->Store->Prop} {d:Option Nat} {f:FuncId} {args:List Arg} {xs:List V} {r:List CO} {X:V} (h:VPure P f xs X) (H:qy P z r K (σ.put d X) S) (ha:args.map (ev σ)=xs:=by rfl) (hz:noW z d=true:=by rfl):qy P z (⟨d,none,.call f args⟩::r) K σ S:=jA ha h H hz
theorem QB {f:FuncId} {fn:Func} {c:Code} {ts:List Nat} {args:List V} {R:V->Store->Prop} {n:Nat} (hf:P.funcs[f]?=some fn) (hk:fn.ntmps=n) (h:S.Wf->VWp P n S.nx c (bodyV ts (zq S.nx R)) (zC 0 args) (St S [] [])) (hb:fn.body=some c:=by exact rfl) (ht:resT fn=some ts:=by exact rfl) (hn:args.length<=n:=by simp):VCalls P f args S R:=by
 subst hk;exact aah hf hb ht hn h
theorem bE {f:FuncId} {fn:Func} {ts:List Nat} {args:List V} {R:V->Store->Prop} {n:Nat} (hf:P.funcs[f]?=some fn) (hk:fn.ntmps=n) (h:S.Wf->VWp P n S.nx (jf fn) (bodyV ts (zq S.nx R)) (zC 0 args) (St S [] [])) (hb:fn.body=some (jf fn):=by exact rfl) (ht:resT fn=some ts:=by exact rfl) (hn:args.length<=n:=by simp):VCalls P f args S R:=by
 subst hk;exact aah hf hb ht hn h
theorem QO (ks:List Nat) (H:VWp P N b c Q σ' S) (hk:σ.oy ks=σ':=by conv=>lhs; simp [Fr.oy,Fr.lk]):VWp P N b c Q σ S:=aot ks hk H
theorem QK {B:Store} {u u':Upds} {l l':OL} (ks:List Nat) (H:VWp P N B.nx c Q σ' (St B u' l')) (hw:B.Wf:=by assumption) (h1:ks.Nodup:=by decide) (h2:(ZO B.nx ks u&&jco B.nx ks l ks&&idsF (gcP B.nx ks) σ)=true:=by simp) (hu:gcU B.nx ks u=u':=by conv=>lhs; simp) (hl:gcL B.nx ks l ks=l':=by conv=>lhs; simp) (hs:renF (gcTo B.nx ks) σ=σ':=by conv=>lhs; simp):VWp P N B.nx c Q σ (St B u l):=axn ks hw h1 h2 hu hl hs H
def unS (P:Program) (N b:Nat):Nat->Code->(Exit->Fr->Store->Prop)->Code × (Exit->Fr->Store->Prop)
 | 0,c,Q=>(c,Q)
 | n+1,c,Q=>match Code.kind c with
  | 3=>unS P N b n (Code.fst c) (jaa (VWp P N b (Code.snd c) Q) Q)
  | _=>(c,Q)
theorem aaa {P:Program} {N b:Nat} {σ:Fr} {S:Store}:∀ (n:Nat) (c:Code) (Q:Exit->Fr->Store->Prop),VWp P N b (unS P N b n c Q).1 (unS P N b n c Q).2 σ S->VWp P N b c Q σ S
 | 0,_,_,h=>h
 | n+1,c,Q,h=>by
  unfold unS at h;split at h
  .exact jfj (by assumption) (aaa n _ _ h)
  .exact h
theorem QT {c':Code} {Q':Exit->Fr->Store->Prop} (k:VWp P N b c' Q' σ S) (h:unS P N b 9 c Q=(c',Q'):=by exact rfl):VWp P N b c Q σ S:=aaa 9 c Q (by rw [h]; exact k)
theorem QP {c':Code} {Q':Exit->Fr->Store->Prop} (k:qy P none rest (Q' .normal) σ' S') (t:unS P N b 9 c Q=(c',Q'):=by exact rfl) (h:Code.kind c'=1:=by exact rfl) (hc:qj P N (Code.ops c')=some cs:=by (conv=>lhs; reduce)) (r:runV none cs σ S=some (rest,σ',S'):=by conv=>lhs;simp[QV]):VWp P N b c Q σ S:=aaa 9 c Q (by rw [t]; exact QR h hc r k)
theorem QY {c':Code} {Q':Exit->Fr->Store->Prop} {z:Option ZZ} {ms:List Nat} (k:Q' .normal σ' S') (t:unS P N b 9 c Q=(c',Q'):=by exact rfl) (h:kz (Code.kind c') S=some z:=by exact rfl) (hc:(kms (Code.kind c') c',qj P N (Code.ops c'))=(ms,some cs):=by (conv=>lhs; reduce)) (hB:km P c' ms cs (Code.kind c')=true:=by kernel_rfl)
  (r:runV z cs σ S=some ([],σ',S'):=by conv=>lhs;simp[QV]):VWp P N b c Q σ S:=aaa 9 c Q (by rw [t]; exact QX h hc hB r k)
theorem QE {Z:ZZ} {K:Fr->Store->Prop} {d:Option Nat} {op:COp} (hz:Z.ok S') (H:qy P (some Z) rest K σ' S') (r:runV none [⟨d,none,op⟩] σ S=some ([],σ',S'):=by conv=>lhs;simp[QV]) (hk:(op.isCall||op.reader)=false:=by exact rfl):qy P (some Z) (⟨d,none,op⟩::rest) K σ S:=jes hk r hz H
theorem QI {B:Store} {u:Upds} {l lc ls:OL} {us uc:Upds} {S0:Store} {es:List Nat} {K:Fr->Store->Prop} {d:Option Nat} {op:COp} (H:qy P (some (ZZ.mk S0 (St B uc lc) (St B us ls) es)) rest K σ' (St B u l)) (r:runV none [⟨d,none,op⟩] σ S=some ([],σ',St B u l):=by conv=>lhs;simp[QV]) (hk:(op.isCall||op.reader)=false:=by exact rfl) (hz:subU uc u/\shpU us u/\subL lc l/\shpL ls l:=by simp [subU,shpU,subL,shpL]):qy P (some (ZZ.mk S0 (St B uc lc) (St B us ls) es)) (⟨d,none,op⟩::rest) K σ S:=jes hk r (zH hz) H
theorem QJ (zc zs:Store) (es:List Nat) (H:qy P (some (ZZ.mk S zc zs es)) rest (Q .normal) σ' S') (h:Code.kind c=2:=by exact rfl) (hm:P.follows .mixedOrders=true:=by kernel_rfl) {ms:List Nat} (hM:zX (Code.ops c)=ms:=by (conv=>lhs; reduce)) (hc:qj P N (Code.ops c)=some cs:=by (conv=>lhs; reduce)) (hB:lexW es ms (Code.ops c) cs cs.length 0 (Array.replicate (Code.ops c).size false)=true:=by kernel_rfl) (hE:JW ms cs es=true:=by kernel_rfl) (hz:(ZZ.mk S zc zs es).ok S:=by exact zH (by simp [subU,shpU,subL,shpL])) (r:runV (some (ZZ.mk S zc zs es)) cs σ S=some (rest,σ',S')):VWp P N b c Q σ S:=aek zc zs es h hm hM hc hB hE hz r H
theorem QW {z:Option ZZ} {K:Fr->Store->Prop} (k:K σ' S') (r:runV z cs σ S=some ([],σ',S'):=by conv=>lhs;simp[QV]):qy P z cs K σ S:=jcP r k
theorem QZ {z:Option ZZ} {K:Fr->Store->Prop} (k:qy P z rest K σ' S') (r:runV z cs σ S=some (rest,σ',S'):=by conv=>lhs;simp[QV]):qy P z cs K σ S:=jcP r k
theorem QM {z:Option ZZ} {K:Fr->Store->Prop} (r:runV z cs σ S=some (rest,σ',S')) (k:qy P z rest K σ' S'):qy P z cs K σ S:=jcP r k
theorem bB {c':Code} {Q':Exit->Fr->Store->Prop} (ks:List Nat) (I:Nat->Fr->Store->Prop) (n0:Nat) (h0:I n0 (σ.oy ks) S) (round:∀ n σ S,I n σ S->VWp P N b (Code.inner c') (jaa (zI N b I ks n) Q') σ S) (t:unS P N b 9 c Q=(c',Q'):=by exact rfl) (h:Code.kind c'=6:=by exact rfl):VWp P N b c Q σ S:=aaa 9 c Q (by rw [t]; exact js ks h I n0 h0 round)
theorem bC {c':Code} {Q':Exit->Fr->Store->Prop} {ms:List Nat} (t:unS P N b 9 c Q=(c',Q'):=by exact rfl) (h:Code.kind c'=2:=by exact rfl) (hm:P.follows .mixedOrders=true:=by kernel_rfl) (hM:zX (Code.ops c')=ms:=by (conv=>lhs; reduce)) (hc:qj P N (Code.ops c')=some cs:=by (conv=>lhs; reduce)) (hB:lexZ ms (Code.ops c') cs cs.length 0 (Array.replicate (Code.ops c').size false)=true:=by kernel_rfl)
  (r:runV (some (ZZ.plain S)) cs σ S=some (rest,σ',S')) (k:qy P (some (ZZ.plain S)) rest (Q' .normal) σ' S'):VWp P N b c Q σ S:=aaa 9 c Q (by rw [t]; exact jbX h hm hM hc hB r k)
theorem bD {c':Code} {Q':Exit->Fr->Store->Prop} (zc zs:Store) (es:List Nat) (H:qy P (some (ZZ.mk S zc zs es)) rest (Q' .normal) σ' S') (t:unS P N b 9 c Q=(c',Q'):=by exact rfl) (h:Code.kind c'=2:=by exact rfl) (hm:P.follows .mixedOrders=true:=by kernel_rfl) {ms:List Nat} (hM:zX (Code.ops c')=ms:=by (conv=>lhs; reduce)) (hc:qj P N (Code.ops c')=some cs:=by (conv=>lhs; reduce)) (hB:lexW es ms (Code.ops c') cs cs.length 0 (Array.replicate (Code.ops c').size false)=true:=by kernel_rfl) (hE:JW ms cs es=true:=by kernel_rfl) (hz:(ZZ.mk S zc zs es).ok S:=by exact zH (by simp [subU,shpU,subL,shpL])) (r:runV (some (ZZ.mk S zc zs es)) cs σ S=some (rest,σ',S')):VWp P N b c Q σ S:=aaa 9 c Q (by rw [t]; exact aek zc zs es h hm hM hc hB hE hz r H)
theorem QN {z:Option ZZ} {K:Fr->Store->Prop} (h:K σ S):qy P z [] K σ S:=h
theorem bk {G F:Prop} (H:G) (h:G->F:=by intro H; (repeat first|refine QG ?_|refine QY ?_ (r:=by conv=>lhs;simp[QV])); exact H):F:=h H
theorem bi {A0 F:Prop} {G:A0->Prop} (a0:A0) (H:G a0) (h:∀ (a0:A0),G a0->F:=by intro a0 H; (repeat first|refine QG ?_|refine QY ?_ (r:=by conv=>lhs;simp[QV,a0])); exact H):F:=h a0 H
theorem bm {A0 B0 F:Prop} {G:A0->B0->Prop} (a0:A0) (a1:B0) (H:G a0 a1) (h:∀ (a0:A0) (a1:B0),G a0 a1->F:=by intro a0 a1 H; (repeat first|refine QG ?_|refine QY ?_ (r:=by conv=>lhs;simp[QV,a0,a1])); exact H):F:=h a0 a1 H
theorem bj {A0 B0 C0 F:Prop} {G:A0->B0->C0->Prop} (a0:A0) (a1:B0) (a2:C0) (H:G a0 a1 a2) (h:∀ (a0:A0) (a1:B0) (a2:C0),G a0 a1 a2->F:=by intro a0 a1 a2 H; (repeat first|refine QG ?_|refine QY ?_ (r:=by conv=>lhs;simp[QV,a0,a1,a2])); exact H):F:=h a0 a1 a2 H
theorem bq {A0 B0 C0 D0 F:Prop} {G:A0->B0->C0->D0->Prop} (a0:A0) (a1:B0) (a2:C0) (a3:D0) (H:G a0 a1 a2 a3) (h:∀ (a0:A0) (a1:B0) (a2:C0) (a3:D0),G a0 a1 a2 a3->F:=by intro a0 a1 a2 a3 H; (repeat first|refine QG ?_|refine QY ?_ (r:=by conv=>lhs;simp[QV,a0,a1,a2,a3])); exact H):F:=h a0 a1 a2 a3 H
theorem bp {A0 B0 C0 D0 E0 F:Prop} {G:A0->B0->C0->D0->E0->Prop} (a0:A0) (a1:B0) (a2:C0) (a3:D0) (a4:E0) (H:G a0 a1 a2 a3 a4) (h:∀ (a0:A0) (a1:B0) (a2:C0) (a3:D0) (a4:E0),G a0 a1 a2 a3 a4->F:=by intro a0 a1 a2 a3 a4 H; (repeat first|refine QG ?_|refine QY ?_ (r:=by conv=>lhs;simp[QV,a0,a1,a2,a3,a4])); exact H):F:=h a0 a1 a2 a3 a4 H
theorem bu {A0 B0 C0 D0 E0 F0 F:Prop} {G:A0->B0->C0->D0->E0->F0->Prop} (a0:A0) (a1:B0) (a2:C0) (a3:D0) (a4:E0) (a5:F0) (H:G a0 a1 a2 a3 a4 a5) (h:∀ (a0:A0) (a1:B0) (a2:C0) (a3:D0) (a4:E0) (a5:F0),G a0 a1 a2 a3 a4 a5->F:=by intro a0 a1 a2 a3 a4 a5 H; (repeat first|refine QG ?_|refine QY ?_ (r:=by conv=>lhs;simp[QV,a0,a1,a2,a3,a4,a5])); exact H):F:=h a0 a1 a2 a3 a4 a5 H
theorem bv {A0:Prop} {z:Option ZZ} {K:Fr->Store->Prop} {rest:A0->List CO} {σ':A0->Fr} {S':A0->Store} (a0:A0) (k:qy P z (rest a0) K (σ' a0) (S' a0)) (r:∀ (a0:A0),runV z cs σ S=some ((rest a0),(σ' a0),(S' a0)):=by intro a0; conv=>lhs;simp[QV,a0]):qy P z cs K σ S:=QM (r a0) k
theorem bz {z:Option ZZ} {K:Fr->Store->Prop} {G:Prop} (H:G) (h:G->qy P z cs K σ S:=by intro H; refine QW ?_; (repeat first|refine QG ?_|refine QY ?_); exact H):qy P z cs K σ S:=h H
theorem bA {z:Option ZZ} {K:Fr->Store->Prop} {G:Prop} (H:G) (h:G->qy P z [] K σ S:=by intro H; refine QN ?_; (repeat first|refine QG ?_|refine QY ?_); exact H):qy P z [] K σ S:=h H
theorem QS (H:VWp P N b (Code.fst c) (jaa (VWp P N b (Code.snd c) Q) Q) σ S) (h:Code.kind c=3:=by exact rfl):VWp P N b c Q σ S:=jfj h H
end
theorem QA {N:Nat} {I:Nat->Fr->Store->Prop} {ks:List Nat} {n n':Nat} {σ σ1 σ':Fr} {B:Store} {u u':Upds} {l l':OL} (gs:List Nat) (hσ1:σ.oy ks=σ1:=by conv=>lhs; simp [Fr.oy]) (hw:B.Wf:=by assumption) (h1:gs.Nodup:=by decide)
  (h2:(ZO B.nx gs u&&jco B.nx gs l gs&&idsF (gcP B.nx gs) σ1)=true:=by simp) (hu:gcU B.nx gs u=u':=by conv=>lhs; simp) (hl:gcL B.nx gs l gs=l':=by conv=>lhs; simp) (hσ:renF (gcTo B.nx gs) σ1=σ':=by conv=>lhs; simp)
  (h:n'<n/\I n' σ' (St B u' l')):zI N B.nx I ks n σ (St B u l):=Jj gs hσ1 hw h1 h2 hu hl hσ h
end Go.Vw
namespace Go.Vw
open Go.RowKit
def mapS (ns:List Nat):List V:=ns.map fun n => .tuple [bI n, .bool true]
def addS (ns:List Nat) (n:Nat):List Nat:=if n∈ns then ns else ns++[n]
theorem jbB (n:Nat) : ∀ (ns:List Nat) (i:Nat),(n∉ns/\zi (.int .i64 (n:Int)) (mapS ns) i=some none) \/ ∃ j,n∈ns/\ns[j]? = some n/\zi (.int .i64 (n:Int)) (mapS ns) i=some (some (i+j, .bool true))
 | [],i => .inl ⟨by simp,rfl⟩
 | x::ns,i=>by
  by_cases e:n=x
  .subst e;exact .inr ⟨0,by simp,rfl,by simp [mapS,zi,zB,bI]⟩
  .have e':((n:Int)==(x:Int))=false:=by simp; omega
   have h0:zi (.int .i64 (n:Int)) (mapS (x::ns)) i=zi (.int .i64 (n:Int)) (mapS ns) (i+1):=by
    show (match zB (.int .i64 (n:Int)) (bI x) with | some true=>_ | some false=>_ | none=>_)=_;simp only [zB,bI,if_true,e']
    rfl
   rcases jbB n ns (i+1) with ⟨h1,h2⟩ | ⟨j,h1,h2,h3⟩
   .exact .inl ⟨by simp [e,h1],by rw [h0,h2]⟩
   .exact .inr ⟨j+1,by simp [h1],by simpa using h2,by rw [h0,h3]; simp; omega⟩
theorem aem {S:Store} {o:Nat} {ns:List Nat} {n:Nat} (h:S.get o=some (0,mapS ns)):qQ (.bool false) false S (.map o) (.int .i64 (n:Int))=some (.bool (decide (n∈ns))):=by
 simp only [qQ,h];rcases jbB n ns 0 with ⟨h1,h2⟩ | ⟨j,h1,h2,h3⟩
 .simp [h2,h1]
 .simp [h3,h1]
theorem jdn {S:Store} {o:Nat} {ns:List Nat} {n:Nat} (h:S.get o=some (0,mapS ns)):qt S (.map o) (.int .i64 (n:Int)) (.bool true)=some (S.upd o (0,mapS (addS ns n))):=by
 simp only [qt,h];rcases jbB n ns 0 with ⟨h1,h2⟩ | ⟨j,h1,h2,h3⟩
 .simp only [h2,addS,if_neg h1];simp [mapS,bI]
 .simp only [h3,addS,h1,if_true,aS];have e:(mapS ns).set j (.tuple [.int .i64 (n:Int), .bool true])=mapS ns:=by
   refine List.ext_getElem? fun i => ?_;by_cases hij:j=i
   .subst hij;have hj:j<ns.length:=(ab.1 h2).1;have hv:ns[j]=n:=(ab.1 h2).2;simp [mapS,hj,hv,bI]
   .rw [List.getElem?_set_ne hij]
  rw [e]
theorem ane (f:Nat->Nat) (ns:List Nat):V.renL f (mapS ns)=mapS ns:=by
 unfold mapS;rw [zy,List.map_map];exact aP fun x _=>by simp [V.ren,V.renL,bI]
theorem amu (p:Nat->Bool) (ns:List Nat):V.idsL p (mapS ns)=true:=by
 unfold mapS;rw [Jc,List.all_map];simp [V.ids,V.idsL,bI]
attribute [simp] aem jdn ane amu
section
variable {P:Program} {Z:ZZ} {ops:Array Oper} {cs:List CO} {Q:Ff->Store->Prop}
theorem jbh {Q':Ff->Store->Prop} (hq : ∀ τ S,Q τ S->Q' τ S) : ∀ {l:List CO} {τ:Ff} {S:Store},jci P Z Q l τ S->jci P Z Q' l τ S
  | [],τ,S,h=>hq τ S h
  | o::r,τ,S,h=>by
    simp only [jci] at h ⊢;rw [JA] at h ⊢;obtain ⟨v,S1,h1,h2⟩:=h;exact ⟨v,S1,h1,jbh hq h2⟩
def pickO (cs:List CO) (ord:List Nat):List CO:=ord.filterMap fun k=>cs[k]?
end
section
variable {P:Program} {N b:Nat} {Q:Exit->Fr->Store->Prop} {σ:Fr} {S:Store}
end
section
variable {P:Program} {Z:ZZ} {ops:Array Oper} {cs:List CO} {Q:Ff->Store->Prop}
end
section
variable {P:Program} {N b:Nat} {Q:Exit->Fr->Store->Prop} {σ:Fr} {S:Store}
end
theorem ahy {N b:Nat} {σ σ':Fr} {S:Store} (ks:List Nat) (h:σ.oy ks=σ'):Reach N b σ S σ' S:=by subst h; exact Reach.oy ks
theorem Yd {N:Nat} {σ σ1 σ':Fr} {B:Store} {u u':Upds} {l l':OL} (ks gs:List Nat) (hσ1:σ.oy ks=σ1) (hw:B.Wf) (h1:gs.Nodup) (h2:(ZO B.nx gs u&&jco B.nx gs l gs&&idsF (gcP B.nx gs) σ1)=true)
    (hu:gcU B.nx gs u=u') (hl:gcL B.nx gs l gs=l') (hσ:renF (gcTo B.nx gs) σ1=σ'):Reach N B.nx σ (St B u l) σ' (St B u' l') :=
  (ahy ks hσ1).trans (Reach.gc gs hw h1 h2 hu hl hσ)
section
variable {P:Program} {N:Nat} {S:Store} {m:Imm} {β:Objs} {w:World} {σ:Fr} {a:Act}
theorem ara {t:TypeId} {q:Nat} {sz:Option Nat} {x:V} (hsz:Program.szOf P t=some sz) (hS:Holds S m β w) (hF:FrameRep N m β σ a) (he:Jk sz S (σ.lk q)=some x) :
  ∃ ad u,a.tmps.getD q undef = .pointer (some ad)/\(loadVar t ad).run P w = .ok u w/\Rep m β x u:=by
 have hr:=hF.rep q;generalize σ.lk q=p at he hr;cases p with
 | ref x' =>
  simp only [Jk] at he;split at he
  .rename_i hok;cases he;obtain ⟨u,b,off,arr,T,fz,e,hm,hu,hc⟩:=hr.inv_ref;refine ⟨_,u,e,qV hsz (hS.imm _ _ hm) u ?_ hc, .imm hu⟩;refine ⟨fun n hn => ?_,fun hn => ?_⟩
   .subst hn;cases x<;>simp [okSz] at hok
    cases hu with | agg xs vs hl _ _=>exact ⟨vs,rfl,by omega⟩
   .subst hn;simp only [okSz] at hok;have:=(Rep.imm (β:=β) hu).oneCell hok;cases u<;>first | rfl | simp [Value.oneCell'] at this
  .cases he
 | ptr o' off =>
  simp only [Jk] at he;cases hc:S.get o' with
  | none=>simp [hc] at he
  | some c =>
   simp only [hc] at he;obtain ⟨b,base,s,n,hob,e⟩:=hr.inv_ptr (hS.alive hc);obtain ⟨_,arr,T,⟨fz,hz,h1⟩,h2,h3,h4⟩:=hS.cells_at hc hob;cases sz with
   | none =>
    simp only [jcm] at he;obtain ⟨v,hv,hrv,hone⟩:=h4 off x he;have ec:v.cells = #[v]:=by cases v<;>first | rfl | simp [Value.oneCell'] at hone
    refine ⟨_,v,e,qV hsz h1 v ⟨(by intro n hn; cases hn),fun _=>ec⟩ fun j c' hj => ?_,hrv⟩;rw [ec] at hj;cases j with
    | zero=>simp at hj; subst hj; simpa using hv
    | succ j=>simp at hj
   | some k =>
    simp only [jcm] at he;split at he
    .rename_i hle;cases he;obtain ⟨vs,hl,hcs,hrl,hone⟩:=KY h4 off k hle;refine ⟨_, .agg vs.toArray,e,qV hsz h1 _ ⟨(by intro n hn; cases hn; exact ⟨vs,rfl,hl⟩),(by intro hn; cases hn)⟩ fun j c' hj => ?_, .agg _ vs hrl.1 hrl.2 hone⟩;exact hcs j c' (by simpa [Value.cells] using hj)
    .cases he
 | _=>simp [Jk] at he
def resC1 (P:Program):ResultVar->Option (Nat × Option (Option Nat))
 | .tmp t=>some (t,none)
 | .cell q t=>(Program.szOf P t).map fun sz=>(q,some sz)
def resC (P:Program) (fn:Func):Option (List (Nat × Option (Option Nat))):=fn.results.toList.mapM (resC1 P)
def qC (S:Store) (σ:Fr):Nat × Option (Option Nat)->Option V
 | (t,none)=>some (σ.lk t)
 | (t,some sz)=>Jk sz S (σ.lk t)
def resL (S:Store) (σ:Fr):List (Nat × Option (Option Nat))->Option (List V)
 | []=>some []
 | r::rs=>match qC S σ r,resL S σ rs with
  | some x,some xs=>some (x::xs)
  | _,_=>none
def tupV:List V->V
 | [x]=>x
 | xs => .tuple xs
def bodyC (rs:List (Nat × Option (Option Nat))) (R:V->Store->Prop):Exit->Fr->Store->Prop
 | .normal,σ,S => ∃ xs,resL S σ rs=some xs/\R (tupV xs) S
 | .ret,σ,S => ∃ xs,resL S σ rs=some xs/\R (tupV xs) S
 | _,_,_=>False
theorem JH {fn:Func} {rs:List (Nat × Option (Option Nat))} (h:resC P fn=some rs) (hS:Holds S m β w) (hF:FrameRep N m β σ a) {xs:List V} (hx:resL S σ rs=some xs) : ∃ v,(results fn a.tmps).run P w = .ok v w/\Rep m β (tupV xs) v:=by
 have gen : ∀ (l:List ResultVar) (rs:List (Nat × Option (Option Nat))) (xs:List V),l.mapM (resC1 P)=some rs->resL S σ rs=some xs ->
   ∃ vs:List Value,(l.mapM fun r=>(match r with
    | .tmp t=>pure (a.tmps.getD t undef)
    | .cell q t=>do loadVar t (<-asAddr (a.tmps.getD q undef)):Sem Value)).run P w = .ok vs w/\RepL m β xs vs:=by
  intro l
  induction l with
  | nil=>intro rs xs h hx; simp at h; subst h; simp only [resL,ar] at hx; subst hx; exact ⟨[],rfl,RepL.nil _ _⟩
  | cons r l ih =>
   intro rs xs h hx;simp only [List.mapM_cons,Option.bind_eq_bind,aG] at h;obtain ⟨b,hb,r',hr',h⟩:=h;simp at h; subst h;simp only [resL] at hx;split at hx
   .rename_i x xs' h1 h2;cases hx;obtain ⟨vs,k1,k2⟩:=ih r' xs' hr' h2;cases r with
    | tmp t =>
     simp only [resC1,ar] at hb;subst hb;simp only [qC,ar] at h1;subst h1;refine ⟨a.tmps.getD t undef::vs, ?_, .cons (hF.rep t) k2⟩;rw [List.mapM_cons,Sem.run_bind,Sem.run_pure,Result.andThen_ok,Sem.run_bind,k1]
     rfl
    | cell q t =>
     simp only [resC1] at hb;obtain ⟨sz,hsz,e⟩:=aq.1 hb;subst e;simp only [qC] at h1;obtain ⟨ad,u,e1,e2,e3⟩:=ara hsz hS hF h1;refine ⟨u::vs, ?_, .cons e3 k2⟩;have e4:((do loadVar t (<-asAddr (a.tmps.getD q undef))):Sem Value).run P w = .ok u w:=by
      rw [e1,show asAddr (.pointer (some ad))=pure ad from rfl,pure_bind,e2]
     rw [List.mapM_cons,Sem.run_bind,e4,Result.andThen_ok,Sem.run_bind,k1]
     rfl
   .cases hx
 obtain ⟨vs,h1,hl,h2⟩:=gen fn.results.toList rs xs h hx;have hrun:(results fn a.tmps).run P w = .ok (if h:vs.toArray.size=1 then vs.toArray[0] else .tuple vs.toArray) w:=by
  unfold results;rw [Sem.run_bind,Array.mapM_eq_mapM_toList,Sem.run_map]
  erw [h1]
  rfl
 refine ⟨_,hrun, ?_⟩
 match xs,vs,hl,h2 with
 | [x],[v],_,h2=>exact h2 0 x v rfl rfl
 | [],[],_,_=>exact zR m β
 | x::y::xs,u::v::vs,hl,h2 =>
  rw [dif_neg (by simp)];exact .tuple _ _ hl h2
theorem acv {f:FuncId} {fn:Func} {c:Code} {rs:List (Nat × Option (Option Nat))} {args:List V} {R:V->Store->Prop} (hf:P.funcs[f]? = some fn) (hb:fn.body=some c) (ht:resC P fn=some rs) (hn:args.length<=fn.ntmps)
  (h:VWp P fn.ntmps S.nx c (bodyC rs R) (zC 0 args) S):VCalls P f args S R:=by
 intro m β w vs hS hr;refine calls_of_wp hf hb ?_;have hF:FrameRep fn.ntmps m β (zC 0 args) { tmps:=vs.toArray++Array.replicate (fn.ntmps-vs.toArray.size) undef,defers:=[] }:=by
  have hl:=hr.1;refine ⟨by simp; omega,rfl,fun t => ?_⟩;rw [zP];simp only [Nat.zero_le,if_true,Nat.sub_zero];cases hx:args[t]? with
  | none=>exact .junk _
  | some x =>
   have hlt:t<vs.length:=by rw [<-hl]; exact (ab.1 hx).1
   have:(vs.toArray++Array.replicate (fn.ntmps-vs.toArray.size) undef).getD t undef=vs[t]:=by
    simp [aO,Array.getElem?_append,hlt]
   simp only [this,aJ];exact hr.2 t x _ hx (aa hlt)
 refine wp_mono (h m β w _ hS hF) ?_;rintro e a' w' ⟨σ',S',m',β',q,r1,r2,r3⟩;have back:ExtB S.nx m β w m' β' w'->Ext m β w m' β' w':=fun h=>⟨h.imm,fun o ho=>h.step o (by
  rcases bc o S.nx with hl | hl
  .exact hl
  .exact absurd ((hS.fresh o).2 hl) ho) ho,h.size,h.keep,h.os,h.tape,h.output⟩
 cases e with
 | normal =>
  obtain ⟨xs,q1,q2⟩:=q;obtain ⟨v,hv,hrv⟩:=JH (P:=P) ht r1 r2 q1;exact ⟨r2.defers,v,hv,v,_,S',m',β',rfl,q2,hrv,r1,back r3⟩
 | ret =>
  obtain ⟨xs,q1,q2⟩:=q;obtain ⟨v,hv,hrv⟩:=JH (P:=P) ht r1 r2 q1;exact ⟨r2.defers,v,hv,v,_,S',m',β',rfl,q2,hrv,r1,back r3⟩
 | _=>exact q.elim
theorem qm {f:FuncId} {fn:Func} {c:Code} {rs:List (Nat × Option (Option Nat))} {args:List V} {R:V->Store->Prop} (hf:P.funcs[f]? = some fn) (hb:fn.body=some c) (ht:resC P fn=some rs) (hn:args.length<=fn.ntmps)
  (h:S.Wf->VWp P fn.ntmps S.nx c (bodyC rs (zq S.nx R)) (zC 0 args) (St S [] [])):VCalls P f args S R:=by
 refine jcR fun hwf=>Km (acv hf hb ht hn ?_);have:=h hwf;rw [jh hwf] at this;exact this
theorem JZ {rs:List (Nat × Option (Option Nat))} {R:V->Store->Prop} {xs:List V} (h:resL S σ rs=some xs) (hR:R (tupV xs) S) : ∃ xs,resL S σ rs=some xs/\R (tupV xs) S:=⟨xs,h,hR⟩
end
theorem apl (S:Store) (σ:Fr):resL S σ []=some []:=nr rfl
def consO:Option V->Option (List V)->Option (List V)
 | some x,some xs=>some (x::xs)
 | _,_=>none
theorem alv (S:Store) (σ:Fr) (r) (rs):resL S σ (r::rs)=consO (qC S σ r) (resL S σ rs):=nr rfl
theorem ai0 (x:V) (xs:List V):consO (some x) (some xs)=some (x::xs):=nr rfl
theorem ash (S:Store) (σ:Fr) (t:Nat):qC S σ (t,none)=some (σ.lk t):=nr rfl
theorem ate (S:Store) (σ:Fr) (t:Nat) (sz:Option Nat):qC S σ (t,some sz)=Jk sz S (σ.lk t):=nr rfl
theorem ava (x:V):tupV [x]=x:=nr rfl
theorem avz (x y:V) (r:List V):tupV (x::y::r) = .tuple (x::y::r):=nr rfl
attribute [simp] apl alv ai0 ash ate ava avz
theorem Ghost.refS {S:Store} {o s:Nat} {cs:List V} (hc:S.get o=some (s,cs)) (h1:cs.all V.bK=true) (hne:cs≠[]):Ghost (.ptr o 0) S (.ref (.agg cs)) (S.del o):=by
 intro m β w v hS hr;obtain ⟨b,base,s',n,hob,rfl⟩:=hr.inv_ptr (hS.alive hc);obtain ⟨_,arr,T,⟨fz,hz,e1⟩,e2,e3,e4⟩:=hS.cells_at hc hob;obtain ⟨k1,k2⟩:=hS.freeze hc hob e1;obtain ⟨vs,hl,hcs,hrl,hone⟩:=KY e4 0 cs.length (by simp);simp only [List.drop_zero,List.take_length] at hrl;have hall : ∀ x∈cs,x.bK=true:=by simpa using h1
 refine ⟨_,_,k1,k2, .imm (.ref (.agg cs) (.agg vs.toArray) b (base+0) arr T fz (by simp [Imm.set]) (.agg cs vs hrl.1 (fun i x u hx hu=>((hrl.2 i x u hx hu).bK (hall x (au hx))).mono k2.imm) hone) fun j c hj => ?_)⟩;exact hcs j c (by simpa [Value.cells] using hj)
theorem WH {B:Store} {u:Upds} {l:OL} {k s:Nat} {cs:List V} (hk:k<l.length) (hc:(l[k]?).join=some (s,cs)) (hcl:cs.all V.bK=true) (hne:cs≠[]) :
  Ghost (.ptr (lid B.nx k) 0) (St B u l) (.ref (.agg cs)) (St B u (l.set k none)):=by
 rw [<-YQ hk];exact Ghost.refS (by rw [Yo]; exact hc) hcl hne
theorem QH {P:Program} {N b:Nat} {Q:Exit->Fr->Store->Prop} {σ σ':Fr} {B:Store} {u:Upds} {l l':OL} {c:Code} {s:Nat} {cs:List V} (t k:Nat) (H:VWp P N b c Q σ' (St B u l')) (hx:σ.lk t=.ptr (lid B.nx k) 0:=by exact rfl) (hk:k<l.length:=by simp) (hc:(l[k]?).join=some (s,cs):=by exact rfl) (hcl:cs.all V.bK=true:=by exact rfl) (hne:cs≠[]:=by simp) (hs:σ.set t (.ref (.agg cs))=σ':=by conv=>lhs; simp [Fr.set]) (hl:l.set k none=l':=by conv=>lhs; simp only [am,ao]):VWp P N b c Q σ (St B u l):=qi t hx (WH hk hc hcl hne) hs (by rw [hl]; exact H)
section
variable {P:Program} {N b b':Nat} {Q:Exit->Fr->Store->Prop} {σ σ':Fr} {S S':Store}
theorem ExtB.weak {m m':Imm} {β β':Objs} {w w':World} (h:b<=b') (k:ExtB b' m β w m' β' w'):ExtB b m β w m' β' w' :=
 ⟨k.imm,fun o ho=>k.step o (aK ho h),k.size,k.keep,k.os,k.tape,k.output⟩
theorem ar7 {c:Code} (h:b<=b') (k:VWp P N b' c Q σ S):VWp P N b c Q σ S :=
 fun m β w a hS hF=>wp_mono (k m β w a hS hF) fun e a' w' ⟨σ',S',m',β',q,r1,r2,r3⟩=>⟨σ',S',m',β',q,r1,r2,r3.weak h⟩
end
theorem aco (b j k:Nat):lid (lid b j) k=lid b (j+k):=by simp [lid]; omega
theorem at6 {B:Store} {u:Upds} {l m:OL}:St B u (l++m)=St (St B u l) [] m:=by
 refine Store.ext' (funext fun o => ?_) ?_
 .have e:(St B u l).nx=B.nx+l.length:=by rw [jH,lid]
  rw [zj,zj,e,zj];simp only [uGet];by_cases h1:o<B.nx
  .rw [if_pos h1,if_pos (by omega),if_pos h1]
  .rw [if_neg h1];by_cases h2:o<B.nx+l.length
   .rw [if_pos h2,if_neg h1,aL (by omega)]
   .rw [if_neg h2,aV (by omega)]
    congr 2; omega
 .rw [jH,jH,jH,aco]; simp
mutual
theorem zW {p q:Nat->Bool} (h : ∀ o,p o=true->q o=true) : ∀ x:V,x.ids p=true->x.ids q=true
 | .agg xs,hx=>by simp only [V.ids] at hx ⊢; exact Yk h xs hx
 | .tuple xs,hx=>by simp only [V.ids] at hx ⊢; exact Yk h xs hx
 | .func _ xs,hx=>by simp only [V.ids] at hx ⊢; exact Yk h xs hx
 | .meth _ x,hx=>by simp only [V.ids] at hx ⊢; exact zW h x hx
 | .slice o _ _,hx=>by simp only [V.ids] at hx ⊢; exact h o hx
 | .ptr o _,hx=>by simp only [V.ids] at hx ⊢; exact h o hx
 | .map o,hx=>by simp only [V.ids] at hx ⊢; exact h o hx
 | .junk,_=>by simp [V.ids]
 | .raw _,_=>by simp [V.ids]
 | .bool _,_ | .int _ _,_ | .str _,_ | .nils,_ | .nilp,_ | .nilf,_ | .nilm,_ | .list _,_ | .ref _,_=>by simp [V.ids]
theorem Yk {p q:Nat->Bool} (h : ∀ o,p o=true->q o=true) : ∀ xs:List V,V.idsL p xs=true->V.idsL q xs=true
 | [],_=>by simp [V.idsL]
 | x::xs,hx=>by
  simp only [V.idsL,ae] at hx ⊢;exact ⟨zW h x hx.1,Yk h xs hx.2⟩
end
theorem axd {B:Store} (hw:B.Wf) {l:OL} (h:l.all (fun c=>match c with | some c=>V.idsL (fun o=>decide (o<lid B.nx l.length)) c.2 | none=>true)=true):(St B [] l).Wf:=by
 refine ⟨fun o ho => ?_,fun o c hc => ?_⟩
 .rw [jH] at ho;simp only [lid] at ho;rw [zj,if_neg (by omega),aC (by omega)]; rfl
 .rw [zj] at hc;rw [jH];by_cases h1:o<B.nx
  .rw [if_pos h1] at hc;have:=hw.ids o c hc;simp only [Jc,ax] at this ⊢;intro x hx;have h2:=this x hx;have hle:B.nx<=lid B.nx l.length:=by rw [lid]; omega
   exact zW (fun o ho=>by rw [ai] at ho ⊢; exact aK ho hle) x h2
  .rw [if_neg h1] at hc;have hm:some c∈l:=by
    cases hl:l[o-B.nx]? with
    | none=>rw [hl] at hc; cases hc
    | some d=>rw [hl] at hc; simp only [Option.join_some] at hc; subst hc; exact au hl
   simp only [ax] at h;exact h _ hm
inductive Ty
 | c
 | s (tys:List Ty)
def reps (n:Nat) (tys:List Ty):List Ty:=(List.replicate n tys).flatten
inductive OwL (S:Store):List Ty->List V->List V->List Nat->Prop
 | nil:OwL S [] [] [] []
 | c {ts:List Ty} {rs xs:List V} {j:List Nat} {x:V} (h:x.bK=true) (t:OwL S ts rs xs j):OwL S (.c::ts) (x::rs) (x::xs) j
 | s {tys ts:List Ty} {rs xs cells ys:List V} {i j:List Nat} {o:Nat} (h:S.get o=some (tys.length,cells)) (hs : ∀ y∈ys,y.cells.length=tys.length/\y.closed=true) (d:OwL S (reps ys.length tys) cells (ys.flatMap V.cells) i) (t:OwL S ts rs xs j) :
   OwL S (.s tys::ts) (.slice o 0 ys.length::rs) (.list ys::xs) (o::(i++j))
theorem OwL.closed {S:Store} {ts:List Ty} {rs xs:List V} {ids:List Nat} (h:OwL S ts rs xs ids) : ∀ x∈xs,x.bK=true:=by
 induction h with
 | nil=>simp
 | c h _ ih=>intro x hx; rcases aE.1 hx with rfl | hx; exact h; exact ih x hx
 | s _ _ _ _ _ ih=>intro x hx; rcases aE.1 hx with rfl | hx; rfl; exact ih x hx
theorem OwL.cells {S:Store} {ts:List Ty} {rs xs:List V} {ids:List Nat} (h:OwL S ts rs xs ids) : ∀ r∈rs,r.bK=true \/ ∃ o n,r = .slice o 0 n:=by
 induction h with
 | nil=>simp
 | c h _ ih=>intro x hx; rcases aE.1 hx with rfl | hx; exact .inl h; exact ih x hx
 | s _ _ _ _ _ ih=>intro x hx; rcases aE.1 hx with rfl | hx; exact .inr ⟨_,_,rfl⟩; exact ih x hx
theorem jgd {S:Store} {l l':OL} {r r':V} {R:V->Store->Prop} (ks:List Nat) (hw:S.Wf) (h1:ks.Nodup) (h2:(jco S.nx ks l ks&&r.ids (gcP S.nx ks))=true) (hl:gcL S.nx ks l ks=l') (hr:r.ren (gcTo S.nx ks)=r') (hR:R r' (St S [] l')):zq S.nx R r (St S [] l):=by
 obtain ⟨h3,h4⟩:=Bool.and_eq_true_iff.1 h2;have h:=afg (u:=[]) hw h1 rfl h3;subst hl;subst hr;exact ⟨_,_,GhostB.ren h (Wz (fun o ho=>aax o ho) r h4).symm,hR⟩
theorem Zj {rs xs:List V} {S S':Store} (h:GhostArgs rs S xs S'):Ghost (.agg rs) S (.agg xs) S':=by
 intro m β w v hS hr;obtain ⟨vs,rfl,hl,hr,hone⟩:=hr.inv_agg;obtain ⟨m',β',h1,h2,h3⟩:=h m β w vs hS ⟨hl,hr⟩;exact ⟨m',β',h1,h2, .agg xs vs h3.1 h3.2 hone⟩
section
variable {P:Program} {N b:Nat} {Q:Exit->Fr->Store->Prop} {σ:Fr} {S:Store}
theorem akc {m:Imm} {β:Objs} {l:List V} {v:Value} (h:Rep m β (.list l) v) : ∃ ad len cap,v = .slice ad len cap/\(ad=none->l=[]):=by
 have:=h.inv_list;generalize hl:V.list l=x at this;cases this with
 | list0 a cap hc=>cases hl; exact ⟨a,0,cap,rfl,fun _=>rfl⟩
 | list xs vs b off cap s arr T fz hm hl' hc hcm hs hr hcells=>cases hl; exact ⟨some ⟨b,off,none⟩,_,cap,rfl,fun h=>by cases h⟩
 | _=>cases hl
theorem ald {t e:TypeId} (ht:P.underlying t=some (.slice e)) (ad:Option Addr) (len cap:Nat) (w:World):(Op.equal t (.slice ad len cap) (.slice none 0 0)).run P w = .ok ad.isNone w:=by
 have hd:Op.maxDepth=9999+1:=rfl;unfold Op.equal;rw [hd];unfold Op.equalIn;cases ad<;>simp [run_underlying ht]
theorem acn {c:Code} {o1 o2:Oper} {d1 d2 s:Nat} {t t' e:TypeId} {y u:Operand} {l:List V} (h:Code.kind c=1) (hops:(Code.ops c).toList=[o1,o2]) (h1:za P N (Code.ops c) o1=some ⟨some d1,none, .move (.tmp s)⟩) (hg1:o1.guard=none)
  (hop:o2.op = .binOp .eql t y u t') (hg:o2.guard=none) (hd:o2.dst=some d2) (hlt:decide (d2<N)=true) (hy:jC y=some (.tmp d1)) (hu:u = .const (.slice none 0 0)) (ht:P.underlying t=some (.slice e)) (hv:σ.lk s = .list l)
  (H : ∀ b:Bool,(b=true->l=[])->Q .normal ((σ.set d1 (.list l)).set d2 (.bool b)) S):VWp P N b c Q σ S:=by
 cases c with
 | region id ops dr =>
  cases dr
  .intro m β w a hS hF;refine wp_region_list ?_;simp only [Code.ops] at hops h1;rw [hops];simp only [wpList];have hw1:Region.wanted o1 (yielded ops a.tmps)=true:=by simp [Region.wanted,hg1]
   rw [if_pos hw1];refine .inl ?_;obtain ⟨c1,c2,c3,c4⟩:=Kv h1;simp only at c2;refine Wc (N:=N) (b:=b) (m0:=m) (β0:=β) (w0:=w) (k:=fun x S'=>x = .list l/\S'=S) c1 c4 (by simp [vop,jg,ev,hv]) hS hF (ExtB.refl _ _ _ _) ?_;rintro x S' m' β' w' a' ⟨rfl,rfl⟩ k2 k3 k4;rw [<-c2] at k3;have hw2:Region.wanted o2 (yielded ops a'.tmps)=true:=by simp [Region.wanted,hg]
   rw [if_pos hw2];refine .inl ?_;have hF':FrameRep N m' β' (σ.set d1 (.list l)) a':=k3;have hr:=jM hF' hy;have hl:ev (σ.set d1 (.list l)) (.tmp d1) = .list l:=by simp [ev,Fr.look_set]
   rw [hl] at hr;obtain ⟨ad,len,cap,e1,e2⟩:=akc hr;have e3:a'.eval u = .slice none 0 0:=by rw [hu]; rfl
   have hgd:(eqGuard .eql t y u (.slice ad len cap) (.slice none 0 0)).run P w' = .ok () w':=rfl;have hrun:(execOp a'.eval o2).run P w' = .ok (.value (.bool ad.isNone)) w':=by
    simp [execOp,hop,e1,e3,hgd,binOp,ald ht]
   unfold Oper.wp;rw [hrun];refine ⟨_,S',m',β',H ad.isNone (fun hn=>e2 (by simpa using hn)),k2, ?_,k4⟩;have:=hF'.put o2.dst (fun t ht=>by rw [hd] at ht; cases ht; exact aI hlt) (x := .bool ad.isNone) (v := .bool ad.isNone) (.imm (.bool _));rw [hd] at this ⊢;exact this
  .simp [Code.kind] at h
 | _=>simp [Code.kind] at h
end
section
variable {P:Program} {N b:Nat} {Q:Exit->Fr->Store->Prop} {σ:Fr} {S:Store}
end
end Go.Vw
