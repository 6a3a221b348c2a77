import Derived.Test.YtenhhokhkkfgbaaGreatC9
import Derived.ChangeSlices
import Derived.ChangeArms
import Derived.DataReads
import Derived.Below
import Derived.SizedLaws
/- Part of the proof. -/
set_option linter.unusedVariables false
set_option linter.unusedSimpArgs false
/-
 Function proofs: how they begin, and how they end; stores told one object after the other.
-/
namespace Go.Vw
open Go.RowKit
def Ja (n:Nat) (R:V->Store->Prop) (r:V) (S1:Store):Prop := ∃ x' S',GhostB n r S1 x' S'/\R x' S'
theorem vcalls_start {P:Program} {f:FuncId} {fn:Func} {c:Code} {ts:List Nat} {args:List V} {S:Store} {R:V->Store->Prop} (hf:P.funcs[f]? = some fn) (hb:fn.body=some c) (ht:resT fn=some ts) (hn:args.length<=fn.ntmps)
  (h:S.Wf->VWp P fn.ntmps S.nx c (bodyV ts (Ja S.nx R)) (Kh 0 args) (St S [] [])):VCalls P f args S R:=by
 refine JH fun hwf=>qZ (qD hf hb ht hn ?_)
 have:=h hwf;rw [jM hwf] at this;exact this
theorem ja {S:Store} {l:List (Option (Nat × List V))} {r X:V} (hwf:S.Wf) (hr:r=X) (hx:X.ids (fun o=>decide (o<S.nx))=true):Ja S.nx (fun r S'=>r=X/\S'=S) r (St S [] l) :=
 ⟨X,S,by subst hr; exact GhostB.done hwf hx rfl (jM hwf),rfl,rfl⟩
theorem bN {S:Store} {l:List (Option (Nat × List V))} {r X:V} (hwf:S.Wf:=by assumption) (hr:r=X:=by exact rfl) (hx:X.ids (fun o=>decide (o<S.nx))=true:=by exact rfl):Ja S.nx (fun r S'=>r=X/\S'=S) r (St S [] l) :=ja hwf hr hx
theorem jf {S:Store} {l:List (Option (Nat × List V))} {r X:V} {S1:Store} (hwf:S.Wf) (hg:GhostB S.nx r S1 X (St S [] l)) (hx:X.ids (fun o=>decide (o<S.nx))=true):Ja S.nx (fun r S'=>r=X/\S'=S) r S1 :=
 ⟨X,S,hg.trans (GhostB.done hwf hx rfl (jM hwf)),rfl,rfl⟩
theorem Jp {S S':Store} {u:Upds} {l:List (Option (Nat × List V))} {r X:V} {R:V->Store->Prop} (hwf:S.Wf) (hr:r=X) (hx:X.ids (fun o=>decide (o<S.nx))=true) (hu:JX S.nx [] u=true) (hS:St S (gcU S.nx [] u) []=S') (hR:R X S'):Ja S.nx R r (St S u l) :=
 ⟨X,S',by subst hr; exact GhostB.done hwf hx hu hS,hR⟩
theorem zi {S S':Store} {r:V} {R:V->Store->Prop} (hR:R r S'):Ja S.nx R r S':=⟨r,S',GhostB.refl _ _ _,hR⟩
theorem frz1 {B:Store} {u:Upds} {l:List (Option (Nat × List V))} {k len:Nat} {cells:List V} (hk:k<l.length) (hc:(l[k]?).join=some (1,cells)) (hcl:cells.all V.closed1=true) (hl:cells.length=len) :
  Ghost (.slice (lid B.nx k) 0 len) (St B u l) (.list cells) (St B u (l.set k none)):=by
 rw [<-jbY hk];exact Ghost.freeze1 (by rw [jv]; exact hc) hcl hl
theorem jq {α:Type} (enc:α->V) (h : ∀ x,(enc x).closed1=true) (l:List α):(l.map enc).all V.closed1=true:=by simp [h]
/-! ### Names in values -/
section
variable (f:Nat->Nat) (p:Nat->Bool)
theorem ren_bool (b):(V.bool b).ren f = .bool b:=nr (by simp [V.ren])
theorem ren_int (k n):(V.int k n).ren f = .int k n:=nr (by simp [V.ren])
theorem ren_str (s):(V.str s).ren f = .str s:=nr (by simp [V.ren])
theorem ren_nils:V.nils.ren f = .nils:=nr (by simp [V.ren])
theorem ren_nilp:V.nilp.ren f = .nilp:=nr (by simp [V.ren])
theorem ren_nilm:V.nilm.ren f = .nilm:=nr (by simp [V.ren])
theorem ren_nilf:V.nilf.ren f = .nilf:=nr (by simp [V.ren])
theorem ren_junk:V.junk.ren f = .junk:=nr (by simp [V.ren])
theorem ren_list (xs):(V.list xs).ren f = .list xs:=nr (by simp [V.ren])
theorem ren_ref (x):(V.ref x).ren f = .ref x:=nr (by simp [V.ren])
theorem ren_agg (xs):(V.agg xs).ren f = .agg (V.renL f xs):=nr (by simp [V.ren])
theorem ren_tuple (xs):(V.tuple xs).ren f = .tuple (V.renL f xs):=nr (by simp [V.ren])
theorem ren_func (g xs):(V.func g xs).ren f = .func g (V.renL f xs):=nr (by simp [V.ren])
theorem ren_slice (o a b):(V.slice o a b).ren f = .slice (f o) a b:=nr (by simp [V.ren])
theorem ren_ptr (o a):(V.ptr o a).ren f = .ptr (f o) a:=nr (by simp [V.ren])
theorem ren_map (o):(V.map o).ren f = .map (f o):=nr (by simp [V.ren])
theorem ren_vl {α:Type} (enc:α->V) (l:List α):(vl enc l).ren f=vl enc l:=nr (by simp [vl,V.ren])
theorem ren_vint (n):(vint n).ren f=vint n:=nr (by simp [vint,V.ren])
theorem ren_vnat (n):(vnat n).ren f=vnat n:=nr (by simp [vnat,V.ren])
theorem renL_nil:V.renL f []=[]:=nr (by simp [V.renL])
theorem renL_cons (x xs):V.renL f (x::xs)=x.ren f::V.renL f xs:=nr (by simp [V.renL])
theorem jaj (xs ys):V.renL f (xs++ys)=V.renL f xs++V.renL f ys:=by simp [qi]
theorem ZA {α:Type} (enc:α->V) (h : ∀ x,(enc x).ren f=enc x) (l:List α):V.renL f (l.map enc)=l.map enc:=by simp [qi,h]
theorem jai (l:List Nat):V.renL f (l.map vnat)=l.map vnat:=ZA f vnat (ren_vnat f) l
theorem renL_vint (l:List Int):V.renL f (l.map vint)=l.map vint:=ZA f vint (ren_vint f) l
theorem renL_bool (l:List Bool):V.renL f (l.map V.bool)=l.map V.bool:=ZA f V.bool (ren_bool f) l
theorem renL_vl {α:Type} (enc:α->V) (l:List (List α)):V.renL f (l.map (vl enc))=l.map (vl enc):=ZA f (vl enc) (ren_vl f enc) l
theorem ids_bool (b):(V.bool b).ids p=true:=nr (by simp [V.ids])
theorem ids_int (k n):(V.int k n).ids p=true:=nr (by simp [V.ids])
theorem ids_str (s):(V.str s).ids p=true:=nr (by simp [V.ids])
theorem ids_nils:V.nils.ids p=true:=nr (by simp [V.ids])
theorem ids_nilp:V.nilp.ids p=true:=nr (by simp [V.ids])
theorem ids_nilm:V.nilm.ids p=true:=nr (by simp [V.ids])
theorem ids_nilf:V.nilf.ids p=true:=nr (by simp [V.ids])
theorem ids_junk:V.junk.ids p=true:=nr (by simp [V.ids])
theorem ids_list (xs):(V.list xs).ids p=true:=nr (by simp [V.ids])
theorem ids_ref (x):(V.ref x).ids p=true:=nr (by simp [V.ids])
theorem ids_agg (xs):(V.agg xs).ids p=V.idsL p xs:=nr (by simp [V.ids])
theorem ids_tuple (xs):(V.tuple xs).ids p=V.idsL p xs:=nr (by simp [V.ids])
theorem ids_func (g xs):(V.func g xs).ids p=V.idsL p xs:=nr (by simp [V.ids])
theorem ids_slice (o a b):(V.slice o a b).ids p=p o:=nr (by simp [V.ids])
theorem ids_ptr (o a):(V.ptr o a).ids p=p o:=nr (by simp [V.ids])
theorem ids_map (o):(V.map o).ids p=p o:=nr (by simp [V.ids])
theorem ids_vl {α:Type} (enc:α->V) (l:List α):(vl enc l).ids p=true:=nr (by simp [vl,V.ids])
theorem ids_vint (n):(vint n).ids p=true:=nr (by simp [vint,V.ids])
theorem ids_vnat (n):(vnat n).ids p=true:=nr (by simp [vnat,V.ids])
theorem idsL_nil:V.idsL p []=true:=nr (by simp [V.idsL])
theorem idsL_cons (x xs):V.idsL p (x::xs)=(x.ids p&&V.idsL p xs):=nr (by simp [V.idsL])
theorem jaI (xs ys):V.idsL p (xs++ys)=(V.idsL p xs&&V.idsL p ys):=by simp [qr]
theorem ZF {α:Type} (enc:α->V) (h : ∀ x,(enc x).ids p=true) (l:List α):V.idsL p (l.map enc)=true:=by simp [qr,h]
theorem jaH (l:List Nat):V.idsL p (l.map vnat)=true:=ZF p vnat (ids_vnat p) l
theorem idsL_vint (l:List Int):V.idsL p (l.map vint)=true:=ZF p vint (ids_vint p) l
theorem idsL_bool (l:List Bool):V.idsL p (l.map V.bool)=true:=ZF p V.bool (ids_bool p) l
theorem idsL_vl {α:Type} (enc:α->V) (l:List (List α)):V.idsL p (l.map (vl enc))=true:=ZF p (vl enc) (ids_vl p enc) l
end
theorem ZR {P:Program} {N:Nat} {Q:Exit->Fr->Store->Prop} {σ σ':Fr} {B:Store} {u u':Upds} {l l':List (Option (Nat × List V))} {c:Code} (ks:List Nat) (hw:B.Wf) (h1:ks.Nodup) (h2:(JX B.nx ks u&&YF B.nx ks l ks&&idsF (gcP B.nx ks) σ)=true)
  (hu:gcU B.nx ks u=u') (hl:gcL B.nx ks l ks=l') (hσ:renF (gcTo B.nx ks) σ=σ') (h:VWp P N B.nx c Q σ' (St B u' l')):VWp P N B.nx c Q σ (St B u l) :=
 jE (Reach.gc ks hw h1 h2 hu hl hσ) h
theorem jT {N:Nat} {I:Nat->Fr->Store->Prop} {ks:List Nat} {n n':Nat} {σ σ1 σ':Fr} {B:Store} {u u':Upds} {l l':List (Option (Nat × List V))} (gs:List Nat) (hσ1:σ.only ks=σ1) (hw:B.Wf) (h1:gs.Nodup)
  (h2:(JX B.nx gs u&&YF B.nx gs l gs&&idsF (gcP B.nx gs) σ1)=true) (hu:gcU B.nx gs u=u') (hl:gcL B.nx gs l gs=l') (hσ:renF (gcTo B.nx gs) σ1=σ')
  (h:n'<n/\I n' σ' (St B u' l')):js N B.nx I ks n σ (St B u l) :=
 ⟨n',h.1,σ',_,by rw [hσ1]; exact Reach.gc gs hw h1 h2 hu hl hσ,h.2⟩
/-! ### Operations on objects of one's own -/
section
variable {S:Store} {s b:Nat}
theorem opIndex_own {k:IntKind} {o off len:Nat} {n:Int} (ho:(S.get o).isSome=true) (h0:0<=n) (h1:n<len):jB s S (.slice o off len) (.int k n)=some (.ptr o (off+n.toNat*s)):=by
 simp [jB,ho,h0,h1]
theorem opLen_own {o off len:Nat} (ho:(S.get o).isSome=true):KY S (.slice o off len)=some (.int .i64 (len:Int)):=by simp [KY,ho]
theorem zO {α:Type} {enc:α->V} {l:List α} {k:IntKind} {i:Nat} {x:α} (hs:(enc x).ncells=s) (h:l[i]? = some x):jB s S (vl enc l) (.int k (i:Int))=some (.ref (enc x)):=by
 simp [jB,vl,h,hs]
theorem jas {α:Type} {enc:α->V} {l:List α} {k:IntKind} {x:α} (hs:(enc x).ncells=s) (h:l[0]? = some x):jB s S (vl enc l) (.int k 0)=some (.ref (enc x)):=by
 have:=zO (S:=S) (k:=k) hs h;simpa using this
theorem opSlice_to {k:IntKind} {o off len:Nat} {h:Int} {c:Nat × List V} (ho:S.get o=some c) (hs:c.1=s) (h0:0<=h) (h1:h<=len):qp s S (.slice o off len) none (some (.int k h)) none=some (.slice o off h.toNat):=by
 have e:h.toNat<=len:=by omega
 simp [qp,qF,h0,ho,hs,e]
theorem opSlice_from {k:IntKind} {o off len:Nat} {h:Int} {c:Nat × List V} (ho:S.get o=some c) (hs:c.1=s) (h0:0<=h) (h1:h<=len):qp s S (.slice o off len) (some (.int k h)) none none=some (.slice o (off+h.toNat*s) (len-h.toNat)):=by
 have e:h.toNat<=len:=by omega
 simp [qp,qF,h0,ho,hs,e]
theorem jcz {α:Type} {enc:α->V} {l:List α} {k:IntKind} {h:Int} (h0:0<=h) (h1:h<=l.length):qp s S (vl enc l) none (some (.int k h)) none=some (vl enc (l.take h.toNat)):=by
 have e:h.toNat<=l.length:=by omega
 simp [qp,qF,vl,h0,e]
theorem Kw {α:Type} {enc:α->V} {l:List α} {k:IntKind} {h:Int} (hs : ∀ x,(enc x).ncells=s) (h0:0<=h) (h1:h<=l.length):qp s S (vl enc l) (some (.int k h)) none none=some (vl enc (l.drop h.toNat)):=by
 have e:h.toNat<=l.length:=by omega
 simp [qp,qF,vl,h0,e,hs,List.take_of_length_le]
theorem opLen_nils:KY S .nils=some (.int .i64 0):=nr rfl
theorem jX {o o' len k:Nat} {cells new:List V} (ho:S.get o=some (s,cells)) (ho':S.get o'=some (s,new)) (hl:len*s=cells.length) (hk:k*s=new.length) (hb:(len+k)*b<=140737488355328) (hb1:len+k<=140737488355328) :
  jR s b S (.slice o 0 len) (.slice o' 0 k)=some (.slice S.nx 0 (len+k),(S.del o).add (s,cells++new)):=by
 have e1:jO s S (.slice o' 0 k)=some (new,k):=by simp [jO,ho',hk]
 simp [jR,e1,ho,hl,hb,hb1]
theorem jQ {o' k:Nat} {new:List V} (ho':S.get o'=some (s,new)) (hk:k*s=new.length) (hb:k*b<=140737488355328) (hb1:k<=140737488355328) :
  jR s b S .nils (.slice o' 0 k)=some (.slice S.nx 0 k,S.add (s,new)):=by
 have e1:jO s S (.slice o' 0 k)=some (new,k):=by simp [jO,ho',hk]
 simp [jR,e1,hb,hb1]
theorem jcD {o len:Nat} {xs:List V} {cells:List V} (ho:S.get o=some (s,cells)) (hx : ∀ x∈xs,x.ncells=s) (hl:len*s=cells.length) (hb:(len+xs.length)*b<=140737488355328) (hb1:len+xs.length<=140737488355328) :
  jR s b S (.slice o 0 len) (.list xs)=some (.slice S.nx 0 (len+xs.length),(S.del o).add (s,cells++xs.flatMap V.cells)):=by
 have e1:jO s S (.list xs)=some (xs.flatMap V.cells,xs.length):=by simpa [jO] using hx
 simp [jR,e1,ho,hl,hb,hb1]
theorem zT {xs:List V} (hx : ∀ x∈xs,x.ncells=s) (hb:xs.length*b<=140737488355328) (hb1:xs.length<=140737488355328) :
  jR s b S .nils (.list xs)=some (.slice S.nx 0 xs.length,S.add (s,xs.flatMap V.cells)):=by
 have e1:jO s S (.list xs)=some (xs.flatMap V.cells,xs.length):=by simpa [jO] using hx
 simp [jR,e1,hb,hb1]
theorem opMake_own {zero:List V} {n:Nat} (hb:n*b<=140737488355328) (hb1:n<=140737488355328):WL s b zero S (.int .i64 (n:Int)) (.int .i64 (n:Int))=some (.slice S.nx 0 n,S.add (s,rep0 zero n)):=by
 simp [WL]; omega
theorem jcr (z:V) (n:Nat):rep0 [z] n=List.replicate n z:=nr rfl
theorem opBuild_nil (ρ:Arg->V) (cells:List V):qj ρ cells []=some cells:=nr rfl
theorem opBuild_cons (ρ:Arg->V) (cells:List V) (off sz:Nat) (x:Arg) (r:List (Nat × Nat × Arg)) :
  qj ρ cells ((off,sz,x)::r)=if (ρ x).ncells=sz/\off+sz<=cells.length/\((ρ x).cells.all V.one)=true then qj ρ (jS cells off (ρ x).cells) r else none:=nr rfl
end
theorem splice_eq (cs:List V) (off:Nat) (xs:List V):jS cs off xs=cs.take off++xs++cs.drop (off+xs.length):=nr rfl
theorem set_vnat (l:List Nat) (k x:Nat):(l.map vnat).set k (.int .i64 (x:Int))=(l.set k x).map vnat:=by simp [vnat,List.map_set]
theorem set_vnat1 (l:List Nat) (k x:Nat):(l.map vnat).set k (.int .i64 ((x:Int)+1))=(l.set k (x+1)).map vnat:=by simp [vnat,List.map_set]
theorem set_vint (l:List Int) (k:Nat) (x:Int):(l.map vint).set k (.int .i64 x)=(l.set k x).map vint:=by simp [vint,List.map_set]
theorem set_bool (l:List Bool) (k:Nat) (x:Bool):(l.map V.bool).set k (.bool x)=(l.set k x).map V.bool:=by simp [List.map_set]
theorem jK {P:Program} {σ:Fr} {S:Store} {K:Fr->Store->Prop} {d:Option Nat} {f:FuncId} {args:List Arg} {xs:List V} {r:List CO} {R:V->Store->Prop} (ha:args.map (ev σ)=xs) (h:VCalls P f xs S R) (H : ∀ X S',R X S'->jz P none r K (σ.put d X) S'):jz P none (⟨d,none, .call f args⟩::r) K σ S:=by
 rw [Wj,ha]; exact h.mono H
theorem ql {P:Program} {σ:Fr} {S:Store} {K:Fr->Store->Prop} {d:Option Nat} {g:FuncId} {caps:List V} {fz:Arg} {args:List Arg} {xs:List V} {r:List CO} {R:V->Store->Prop} (hf:ev σ fz = .func g caps) (hc:jH P g=true) (ha:args.map (ev σ)++caps=xs) (h:VCalls P g xs S R) (H : ∀ X S',R X S'->jz P none r K (σ.put d X) S'):jz P none (⟨d,none, .callv fz args⟩::r) K σ S:=by
 rw [Zt,hf]; simp only [jbu]; rw [ha]; exact ⟨hc,h.mono H⟩
def GhostArgs (xs:List V) (S:Store) (xs':List V) (S':Store):Prop := ∀ m β w vs,Holds S m β w->RepL m β xs vs -> ∃ m' β',Holds S' m' β' w/\Ext m β w m' β' w/\RepL m' β' xs' vs
theorem GhostArgs.one (pre post:List V) {x x':V} {S S':Store} (hg:Ghost x S x' S'):GhostArgs (pre++x::post) S (pre++x'::post) S':=by
 intro m β w vs hS hr;have hi:pre.length<vs.length:=by rw [<-hr.1]; simp
 obtain ⟨m',β',h1,h2,h3⟩:=hg m β w vs[pre.length] hS (hr.2 pre.length x _ (by simp) (ac hi));refine ⟨m',β',h1,h2,by rw [<-hr.1]; simp,fun i y u hy hu => ?_⟩
 by_cases e:i=pre.length
 ·subst e;simp at hy; subst hy;rw [ac hi] at hu; cases hu;exact h3
 ·refine h2.rep (hr.2 i y u ?_ hu);rw [<-hy];simp only [List.getElem?_append];split
  ·rfl
  ·rename_i hlt;have:i-pre.length=(i-pre.length-1)+1:=by omega
   rw [this]; rfl
theorem GhostArgs.trans {xs xs' xs'':List V} {S S' S'':Store} (h:GhostArgs xs S xs' S') (k:GhostArgs xs' S' xs'' S''):GhostArgs xs S xs'' S'':=by
 intro m β w vs hS hr;obtain ⟨m',β',h1,h2,h3⟩:=h m β w vs hS hr;obtain ⟨m'',β'',k1,k2,k3⟩:=k m' β' w vs h1 h3;exact ⟨m'',β'',k1,h2.trans k2,k3⟩
theorem zk {P:Program} {f:FuncId} {xs xs':List V} {S S':Store} {R:V->Store->Prop} (hg:GhostArgs xs S xs' S') (h:VCalls P f xs' S' R):VCalls P f xs S R:=by
 intro m β w vs hS hr;obtain ⟨m',β',h1,h2,h3⟩:=hg m β w vs hS hr;refine (h m' β' w vs h1 h3).mono ?_;rintro e w' ⟨v,x,S1,m1,β1,he,hQ,k1,k2,k3⟩;exact ⟨v,x,S1,m1,β1,he,hQ,k1,k2,h2.trans k3⟩
theorem qU {P:Program} {σ:Fr} {S S':Store} {K:Fr->Store->Prop} {d:Option Nat} {f:FuncId} {args:List Arg} {xs xs':List V} {r:List CO} {X:V} (ha:args.map (ev σ)=xs) (hg:GhostArgs xs S xs' S') (h:VPure P f xs' X) (H:jz P none r K (σ.put d X) S'):jz P none (⟨d,none, .call f args⟩::r) K σ S:=by
 rw [Wj,ha]; exact zk hg (h.use H)
theorem vw_gen {P:Program} {N b:Nat} {Q:Exit->Fr->Store->Prop} {σ:Fr} {S:Store} {c:Code} (Φ:Store->Prop) (h:Φ S) (k : ∀ T,Φ T->VWp P N b c Q σ T):VWp P N b c Q σ S:=k S h
theorem int_beq (a b:Int):(a==b)=decide (a=b):=by
 by_cases h:a=b<;>simp [h]
theorem int_bne (a b:Int):(a != b) = !decide (a=b):=by
 by_cases h:a=b<;>simp [h]
def upTo {α:Type} (f:Nat->α) (n:Nat):List α:=(List.range n).map f
theorem upTo_len {α:Type} (f:Nat->α) (n:Nat):(upTo f n).length=n:=by simp [upTo]
theorem upTo_succ {α:Type} (f:Nat->α) (n:Nat):upTo f (n+1)=upTo f n++[f n]:=by simp [upTo,List.range_succ]
theorem upTo_zero {α:Type} (f:Nat->α):upTo f 0=[]:=rfl
/-! ### Parts of a store -/
def subL:List (Option (Nat × List V))->List (Option (Nat × List V))->Prop
 | [],_=>True
 | none::r,[]=>subL r []
 | none::r,_::r'=>subL r r'
 | some _::_,[]=>False
 | some c::r,c'::r'=>c'=some c/\subL r r'
def shpL:List (Option (Nat × List V))->List (Option (Nat × List V))->Prop
 | [],_=>True
 | none::r,[]=>shpL r []
 | none::r,_::r'=>shpL r r'
 | some _::_,[]=>False
 | some c::r,c'::r'=>c'.map (·.1)=some c.1/\shpL r r'
theorem Zu : ∀ (l l':List (Option (Nat × List V))),subL l l' -> ∀ (k:Nat) c,(l[k]?).join=some c->(l'[k]?).join=some c
 | [],_,_,k,c,h=>by simp at h
 | none::r,[],h,0,c,hc=>by simp at hc
 | none::r,[],h,k+1,c,hc=>by
  have:=Zu r [] (by simpa [subL] using h) k c (by simpa using hc);simp at this
 | none::r,_::r',h,0,c,hc=>by simp at hc
 | none::r,_::r',h,k+1,c,hc=>by
  have:=Zu r r' (by simpa [subL] using h) k c (by simpa using hc);simpa using this
 | some _::_,[],h,_,_,_=>by simp [subL] at h
 | some d::r,c'::r',h,0,c,hc=>by
  simp only [subL] at h;obtain ⟨rfl,_⟩:=h;simpa using hc
 | some d::r,c'::r',h,k+1,c,hc=>by
  simp only [subL] at h;have:=Zu r r' h.2 k c (by simpa using hc);simpa using this
theorem Zv : ∀ (l l':List (Option (Nat × List V))),shpL l l' -> ∀ (k:Nat) c,(l[k]?).join=some c -> ∃ c',(l'[k]?).join=some c'/\c'.1=c.1
 | [],_,_,k,c,h=>by simp at h
 | none::r,[],h,0,c,hc=>by simp at hc
 | none::r,[],h,k+1,c,hc=>by
  have:=Zv r [] (by simpa [shpL] using h) k c (by simpa using hc);simp at this
 | none::r,_::r',h,0,c,hc=>by simp at hc
 | none::r,_::r',h,k+1,c,hc=>by
  have:=Zv r r' (by simpa [shpL] using h) k c (by simpa using hc);simpa using this
 | some _::_,[],h,_,_,_=>by simp [shpL] at h
 | some d::r,c'::r',h,0,c,hc=>by
  simp only [shpL] at h;simp at hc; subst hc;obtain ⟨e,he,h1⟩:=av.1 h.1;exact ⟨e,by simp [he],h1⟩
 | some d::r,c'::r',h,k+1,c,hc=>by
  simp only [shpL] at h;have:=Zv r r' h.2 k c (by simpa using hc);simpa using this
theorem Ks {B:Store} {u u':Upds} {l l':List (Option (Nat × List V))} (hu : ∀ o d c,uGet u o d=some c->uGet u' o d=some c) (h:subL l l'):(St B u l).Sub (St B u' l'):=by
 intro o c hc;rw [qI] at hc ⊢;split
 ·rename_i ho; rw [if_pos ho] at hc; exact hu _ _ _ hc
 ·rename_i ho; rw [if_neg ho] at hc; exact Zu _ _ h _ _ hc
theorem shp_St {B:Store} {u u':Upds} {l l':List (Option (Nat × List V))} (hu : ∀ o d c,uGet u o d=some c -> ∃ c',uGet u' o d=some c'/\c'.1=c.1) (h:shpL l l'):(St B u l).Shp (St B u' l'):=by
 intro o c hc;rw [qI] at hc ⊢;split
 ·rename_i ho; rw [if_pos ho] at hc; exact hu _ _ _ hc
 ·rename_i ho; rw [if_neg ho] at hc; exact Zv _ _ h _ _ hc
def subU:Upds->Upds->Prop
 | [],[]=>True
 | (k,c)::r,(k',c')::r'=>k=k'/\(c=none\/c'=c)/\subU r r'
 | _,_=>False
def shpU:Upds->Upds->Prop
 | [],[]=>True
 | (k,c)::r,(k',c')::r'=>k=k'/\(c=none\/c'.map (·.1)=c.map (·.1))/\shpU r r'
 | _,_=>False
theorem zl : ∀ (u u':Upds),subU u u' -> ∀ o d c,uGet u o d=some c->uGet u' o d=some c
 | [],[],_,o,d,c,h=>h
 | [],_::_,h,_,_,_,_=>by simp [subU] at h
 | _::_,[],h,_,_,_,_=>by simp [subU] at h
 | (k,c1)::r,(k',c2)::r',h,o,d,c,hc=>by
  simp only [subU] at h;obtain ⟨rfl,h1,h2⟩:=h;simp only [uGet] at hc ⊢;split
  ·rename_i e;rw [if_pos e] at hc;rcases h1 with rfl | rfl
   ·cases hc
   ·exact hc
  ·rename_i e;rw [if_neg e] at hc;exact zl r r' h2 o d c hc
theorem shpU_get : ∀ (u u':Upds),shpU u u' -> ∀ o d c,uGet u o d=some c -> ∃ c',uGet u' o d=some c'/\c'.1=c.1
 | [],[],_,o,d,c,h=>⟨c,h,rfl⟩
 | [],_::_,h,_,_,_,_=>by simp [shpU] at h
 | _::_,[],h,_,_,_,_=>by simp [shpU] at h
 | (k,c1)::r,(k',c2)::r',h,o,d,c,hc=>by
  simp only [shpU] at h;obtain ⟨rfl,h1,h2⟩:=h;simp only [uGet] at hc ⊢;split
  ·rename_i e;rw [if_pos e] at hc;subst hc;rcases h1 with h1 | h1
   ·cases h1
   ·obtain ⟨c',h3,h4⟩:=av.1 h1;exact ⟨c',h3,h4⟩
  ·rename_i e;rw [if_neg e] at hc;exact shpU_get r r' h2 o d c hc
theorem Kl {S0 B:Store} {uc us u:Upds} {lc ls l:List (Option (Nat × List V))} {es:List Nat} (h0:subU uc u/\shpU us u/\subL lc l/\shpL ls l):(ZZ.mk S0 (St B uc lc) (St B us ls) es).ok (St B u l) :=
 ⟨Ks (zl _ _ h0.1) h0.2.2.1,shp_St (shpU_get _ _ h0.2.1) h0.2.2.2⟩
theorem vw_drawW {P:Program} {N b:Nat} {Q:Exit->Fr->Store->Prop} {σ σ':Fr} {S S':Store} {c:Code} {cs rest:List CO} (zc zs:Store) (es:List Nat) (h:Code.kind c=2) (hm:P.follows .mixedOrders=true) {ms:List Nat} (hM:qJ (Code.ops c)=ms) (hc:qh P N (Code.ops c)=some cs) (hB:lexW es ms (Code.ops c) cs cs.length 0 (Array.replicate (Code.ops c).size false)=true)
  (hE:zh ms cs es=true) (hz:(ZZ.mk S zc zs es).ok S) (hr:runV (some (ZZ.mk S zc zs es)) cs σ S=some (rest,σ',S')) (H:jz P (some (ZZ.mk S zc zs es)) rest (Q .normal) σ' S'):VWp P N b c Q σ S :=
 jbs _ h hm hM hc hB hE hz S.sub_refl hr H
theorem KF {S:Store} {o:Nat} {c:Nat × List V} (hwf:S.Wf) (ho:o<S.nx):St S [(o,some c)] []=S.upd o c:=by
 have := @jP S [] [] c o ho;rw [jM hwf] at this;exact this.symm
theorem Kb {B:Store} {o:Nat} {c:Nat × List V} {l:List (Option (Nat × List V))} (h:B.get o=some c):St B [] l=St B [(o,some c)] l:=by
 refine Store.ext' (funext fun o' => ?_) rfl;rw [qI,qI];split
 ·simp only [uGet]; split
  ·rename_i e; subst e; exact h
  ·rfl
 ·rfl
theorem Reach.trim {N b:Nat} {σ:Fr} {S:Store} {o off len:Nat} {c:Nat × List V} (t:Nat) (ht:σ.look t = .slice o off len) (hc:S.get o=some c) (k:Nat):Reach N b σ S σ (S.upd o (c.1,c.2.take k)):=by
 intro m β w a hS hF;have hlt:=hS.lt hc;refine ⟨m,β,⟨hS.imm,hS.apart,hS.inj,hS.fresh,fun o' ho' => ?_,fun o' ho' hn => ?_,fun o' c' hc' => ?_⟩,hF,ExtB.refl _ _ _ _⟩
 ·rw [qo];have:S.nx<=o':=ho';rw [if_neg (by omega)]; exact hS.gone o' ho'
 ·rw [qo] at hn
  by_cases e:o'=o
  ·rw [if_pos e] at hn; cases hn
  ·rw [if_neg e] at hn; exact hS.dead o' ho' hn
 ·rw [qo] at hc'
  by_cases e:o'=o
  ·rw [if_pos e] at hc'
   cases hc'
   subst e;have hl:=hS.live o' c hc
   cases hβ:β o' with
   | fresh=>rw [hβ] at hl; exact hl.elim
   | dead=>rw [hβ] at hl; exact hl.elim
   | void=>rw [hβ] at hl; simp only [Live] at hl ⊢; rw [hl]; simp
   | lies b' base s n =>
    rw [hβ] at hl;obtain ⟨h0,arr,T,h1,h2,h3,h4⟩:=hl;refine ⟨h0,arr,T,h1,h2, ?_,fun i x hx=>h4 i x ?_⟩
    ·have:(c.2.take k).length<=c.2.length:=by rw [List.length_take]; exact Nat.min_le_right _ _
     simp only at h3 ⊢; rw [List.length_take]; omega
    ·simp only at hx;rw [List.getElem?_take] at hx;split at hx
     ·exact hx
     ·cases hx
   | mp b' =>
    exfalso
    have hr:=hF.rep t;rw [ht] at hr;generalize a.tmps.getD t undef=v at hr
    cases hr with
    | imm h=>cases h
    | sliceDead _ _ _ _ h1=>rw [hβ] at h1; cases h1
    | sliceVoid _ _ _ h1=>rw [hβ] at h1; cases h1
    | slice _ _ _ _ _ _ _ _ _ h1=>rw [hβ] at h1; cases h1
  ·rw [if_neg e] at hc'; exact hS.live o' c' hc'
theorem vw_trim {P:Program} {N:Nat} {Q:Exit->Fr->Store->Prop} {σ:Fr} {B:Store} {u:Upds} {l l':List (Option (Nat × List V))} {c:Code} {k off len s:Nat} {cells:List V} (t j:Nat) (ht:σ.look t = .slice (lid B.nx k) off len) (hk:k<l.length) (hc:(l[k]?).join=some (s,cells))
  (hl:l.set k (some (s,cells.take j))=l') (h:VWp P N B.nx c Q σ (St B u l')):VWp P N B.nx c Q σ (St B u l):=by
 subst hl;have:=Reach.trim (N:=N) (b:=B.nx) (S:=St B u l) t ht (by rw [jv]; exact hc) j;rw [JO hk] at this;exact jE this h
theorem zx {P:Program} {N:Nat} {Q:Exit->Fr->Store->Prop} {σ σ':Fr} {B:Store} {u:Upds} {l:List (Option (Nat × List V))} {c:Code} (t s:Nat) (ht:σ.look t = .nils) (hs:σ.set t (.slice (lid B.nx l.length) 0 0)=σ') (h:VWp P N B.nx c Q σ' (St B u (l++[some (s,[])]))):VWp P N B.nx c Q σ (St B u l):=by
 rw [<-Zk] at h;exact jt t ht (Ghost.nils (St B u l) s) hs h
end Go.Vw
/-
 From an argument's reading to a value without addresses; from a contract to what a row asks.
-/
namespace Go.Vw
open Go.RowKit Go.ChangeShapes Go.WideShapes
def whole (w:World):Imm:=fun b=>w.heap[b]?
def ReadsC (P:Program) (t:TypeId) {α:Type} (enc:α->List V) (ok:α->Prop):Prop :=
 ∀ (H:Type) (en:TypeId × Value->H) (w:World) (fuel:Nat) (cs:List Value) d,DataW.trod en P w 0 (fun _=>true) true fuel t cs=some d->(∀ n∈d.1.weights P t,n<=reachBytes) ->
  ∃ a,ok a/\(enc a).length=cs.length/\(∀ (i:Nat) x v,(enc a)[i]? = some x->cs[i]? = some v->RepI (whole w) x v) /\ ∀ v∈cs,v.oneCell'=true
theorem ReadsC.int {P:Program} {t:TypeId} {k:IntKind} (ht:P.underlying t=some (.int k)):ReadsC P t (fun n:Int=>[.int k n]) (fun n=>(Lit.int k n).wf=true):=by
 intro H en w fuel cs d h _;obtain ⟨n,rfl,rfl,hw⟩:=DataW.trod_int ht h;refine ⟨n,hw,rfl,fun i x v hx hv => ?_,by simp [Value.oneCell']⟩
 cases i with
 | zero=>simp at hx hv; subst hx; subst hv; exact .int k n
 | succ i=>simp at hx
theorem ReadsC.bool {P:Program} {t:TypeId} (ht:P.underlying t=some .bool):ReadsC P t (fun b:Bool=>[.bool b]) (fun _=>True):=by
 intro H en w fuel cs d h _;obtain ⟨b,rfl,_⟩:=DataW.trod_bool ht h;refine ⟨b,trivial,rfl,fun i x v hx hv => ?_,by simp [Value.oneCell']⟩
 cases i with
 | zero=>simp at hx hv; subst hx; subst hv; exact .bool b
 | succ i=>simp at hx
theorem YL {w:World} {base:Nat} {a:Addr} {n:Nat} {cs:List Value} (h:w.cells? base a n=some cs):cs.length=n /\ ∀ i,i<n->w.cell? (a.add i)=cs[i]? := by
 have:=World.cells?_some h;exact ⟨this.2.1,this.2.2⟩
theorem ZJ (b off n:Nat):(⟨b,off,none⟩:Addr).add n=⟨b,off+n,none⟩:=by
 unfold Addr.add; split
 ·rename_i h; subst h; rfl
 ·rfl
theorem mapM_get' {α β:Type} {f:Nat->Option β} : ∀ (n:Nat),(∀ i,i<n -> ∃ y,f i=some y) -> ∃ l:List β,l.length=n /\ ∀ i,i<n->l[i]? = f i
 | 0,_=>⟨[],rfl,fun i h=>by omega⟩
 | n+1,h=>by
  obtain ⟨l,h1,h2⟩:=mapM_get' (α:=α) n fun i hi=>h i (by omega)
  obtain ⟨y,hy⟩:=h n (by omega);refine ⟨l++[y],by simp [h1],fun i hi => ?_⟩
  by_cases e:i<n
  ·rw [aV (by omega),h2 i e]
  ·have:i=n:=by omega
   subst this;rw [bi (by omega),h1,hy]; simp
theorem Wb {H:Type} {P:Program} {e:TypeId} : ∀ {ds:List (DataW H)} {i:Nat} {d:DataW H},ds[i]? = some d -> ∀ n∈d.weights P e,n∈DataW.weightsAll P e ds
 | d0::ds,0,d,hd,n,hn=>by
  simp only [aK,ay] at hd;subst hd;simp only [DataW.weightsAll,aG];exact Or.inl hn
 | d0::ds,i+1,d,hd,n,hn=>by
  simp only [List.getElem?_cons_succ] at hd;simp only [DataW.weightsAll,aG];exact Or.inr (Wb hd n hn)
 | [],_,_,hd,_,_=>by simp at hd
theorem ReadsC.slice {P:Program} {t e:TypeId} {α:Type} {enc:α->List V} {ok:α->Prop} (elV:α->V) (ht:P.underlying t=some (.slice e)) (he:ReadsC P e enc ok) (hs:0<P.cellsOf e) (hel : ∀ a,elV a = .agg (enc a)\/enc a=[elV a]) :
  ReadsC P t (fun l:List α=>[vl elV l]) (fun l=>(l.length<2^63/\l.length*P.bytesOf e<=140737488351232) /\ ∀ a∈l,ok a):=by
 intro H en w fuel cs d h hwt;rcases DataW.trod_slice ht h with ⟨rfl,rfl⟩ | ⟨a,len,cap,elems,rest,n,rfl,rfl,rfl,hb,hl,hm,hlen,hall,_,_⟩
 ·refine ⟨[],⟨⟨by simp,by simp⟩,by simp⟩,rfl,fun i x v hx hv => ?_,by simp [Value.oneCell']⟩
  cases i with
  | zero=>simp at hx hv; subst hx; subst hv; exact .list0 none 0 (Nat.zero_le _)
  | succ i=>simp at hx
 ·have hml:maxLen<2^63:=by simp [maxLen]
  have hwl:(elems.length+rest.length)*P.bytesOf e<=140737488351232:=hwt _ (by simp [DataW.weights,ht]);have hwe : ∀ (i:Nat) (x:DataW H × List MemPlace),elems[i]? = some x -> ∀ n∈x.1.weights P e,n<=reachBytes:=fun i x hx n hn=>hwt n (by
   simp only [DataW.weights,ht,aL,aG];exact .inr (.inl (Wb (i:=i) (d:=x.1) (by simp [hx]) n hn)))
  -- each element's cells, and what they read as
  have each : ∀ i,i<len -> ∃ y:List Value × α,w.cells? 0 (a.add (i*P.cellsOf e)) (P.cellsOf e)=some y.1/\ok y.2/\(enc y.2).length=y.1.length/\(∀ (j:Nat) x v,(enc y.2)[j]? = some x->y.1[j]? = some v->RepI (whole w) x v) /\ ∀ v∈y.1,v.oneCell'=true:=by
   intro i hi;have:=hall i hi;have hel:elems[i]? = some elems[i]:=ac (by omega);rw [hel] at this;obtain ⟨cs,h1,h2⟩:=aN.1 this;obtain ⟨x,k1,k2,k3,k4⟩:=he H en w n cs _ h2 (hwe i _ hel);exact ⟨(cs,x),h1,k1,k2,k3,k4⟩
  classical
  obtain ⟨ys,hyl,hy⟩:=mapM_get' (α:=Nat) (f:=fun i=>if h:i<len then some (Classical.choose (each i h)) else none) len (fun i hi=>⟨_,dif_pos hi⟩);have hys : ∀ (i:Nat) y,ys[i]? = some y->i<len/\w.cells? 0 (a.add (i*P.cellsOf e)) (P.cellsOf e)=some y.1/\ok y.2/\(enc y.2).length=y.1.length/\(∀ (j:Nat) x v,(enc y.2)[j]? = some x->y.1[j]? = some v->RepI (whole w) x v) /\ ∀ v∈y.1,v.oneCell'=true:=by
   intro i y hi;have hlt:i<len:=by rw [<-hyl]; exact (ae.1 hi).1
   rw [hy i hlt,dif_pos hlt] at hi
   cases hi
   exact ⟨hlt,Classical.choose_spec (each i hlt)⟩
  refine ⟨ys.map (·.2),⟨⟨by simp; omega, ?_⟩, ?_⟩,rfl,fun i x v hx hv => ?_,by simp [Value.oneCell']⟩
  ·rw [aI,hyl, <-hlen];exact bh (Nat.mul_le_mul_right _ (Nat.le_add_right _ _)) hwl
  ·intro x hx;obtain ⟨y,hy1,rfl⟩:=bk.1 hx;obtain ⟨i,hi,rfl⟩:=a9 hy1;exact (hys i _ (ac hi)).2.2.1
  ·cases i with
   | succ i=>simp at hx
   | zero =>
    simp at hx hv;subst hx; subst hv
    by_cases h0:len=0
    ·have:ys=[]:=by cases ys<;>simp at hyl ⊢; omega
     subst this; subst h0;exact .list0 _ _ hm
    ·-- the block
     obtain ⟨y0,hy0⟩ : ∃ y,ys[0]? = some y:=⟨ys[0]'(by omega),ac _⟩
     obtain ⟨_,hc0,_⟩:=hys 0 y0 hy0;obtain ⟨hcl0,hce0⟩:=YL hc0;have hcell0:=hce0 0 hs;have hsome : ∃ v,w.cell? (a.add (0*P.cellsOf e) |>.add 0)=some v:=by
      rw [hcell0]; exact ⟨y0.1[0]'(by omega),ac _⟩
     obtain ⟨v0,hv0⟩:=hsome;have hspot:=World.cell?_spot hv0;obtain ⟨b,off,spot⟩:=a;have hsp:spot=none:=by simpa [Addr.add] using hspot
     subst hsp;obtain ⟨arr,T,fz,hheap⟩ : ∃ arr T fz,w.heap[b]? = some (.cells arr T fz):=by
      rw [ZJ,ZJ] at hv0;simp only [World.cell?] at hv0;split at hv0
      ·rename_i h; exact ⟨_,_,_,h⟩
      ·cases hv0
     have hat : ∀ k v,w.cell? ⟨b,k,none⟩=some v->arr[k]? = some v:=by
      intro k v hk;simp only [World.cell?,hheap] at hk;simpa using hk
     let val:List Value × α->Value:=fun y=>match elV y.2 with
      | .agg _ => .agg y.1.toArray
      | _=>y.1.headD undef
     have hval : ∀ (i:Nat) y,ys[i]? = some y->(val y).cells.size=P.cellsOf e/\RepI (whole w) (elV y.2) (val y) /\ ∀ (j:Nat) c,(val y).cells[j]? = some c->y.1[j]? = some c:=by
      intro i y hi;obtain ⟨hlt,k1,k2,k3,k4,k5⟩:=hys i y hi;obtain ⟨l1,l2⟩:=YL k1
      by_cases hag : ∃ cs,elV y.2 = .agg cs
      ·obtain ⟨cs,hcs⟩:=hag;have e1:val y = .agg y.1.toArray:=by simp only [val,hcs]
       rcases hel y.2 with h1 | h1
       ·rw [hcs] at h1; cases h1;rw [e1,hcs];exact ⟨by simp [Value.cells,l1], .agg _ _ k3 (fun j x v hx hv=>k4 j x v hx hv) k5,fun j c hj=>by simpa [Value.cells] using hj⟩
       ·exfalso
        have h2:y.1.length=1:=by rw [<-k3,h1]; rfl
        have h3:=k4 0 _ y.1[0] (by rw [h1]; rfl) (ac (by omega));rw [hcs] at h3;have h4:=k5 y.1[0] (ah _);generalize y.1[0]=u at h3 h4
        cases h3 with
        | agg xs vs _ _ _=>simp [Value.oneCell'] at h4
      ·have e1:val y=y.1.headD undef:=by
        simp only [val];split
        ·rename_i cs hcs; exact absurd ⟨cs,hcs⟩ hag
        ·rfl
       rcases hel y.2 with h1 | h1
       ·exact absurd ⟨_,h1⟩ hag
       ·have h2:y.1.length=1:=by rw [<-k3,h1]; rfl
        have e2:val y=y.1[0]:=by
         rw [e1];obtain ⟨ya,yb⟩:=y
         cases ya with
         | nil=>simp at h2
         | cons u us=>rfl
        have h3:=k4 0 _ y.1[0] (by rw [h1]; rfl) (ac (by omega));have h4:=k5 y.1[0] (ah _);have huc:(y.1[0]).cells = #[y.1[0]]:=by
         generalize y.1[0]=u at h4
         cases u<;>first | rfl | simp [Value.oneCell'] at h4
        rw [e2,huc];refine ⟨by simp; omega,h3,fun j c hj => ?_⟩
        cases j with
        | zero=>simp at hj; subst hj; exact ac _
        | succ j=>simp at hj
     have:=RepI.list (m:=whole w) ((ys.map (·.2)).map elV) (ys.map val) b off cap (P.cellsOf e) arr T fz hheap (by simp) (by simp; omega) hm
      (fun v hv=>by
       obtain ⟨y,hy1,rfl⟩:=bk.1 hv;obtain ⟨i,hi,rfl⟩:=a9 hy1;exact (hval i _ (ac hi)).1)
      (fun i x v hx hv=>by
       simp only [a8,av] at hx hv;obtain ⟨z,⟨y,h1,rfl⟩,rfl⟩:=hx;obtain ⟨y',h2,rfl⟩:=hv;rw [h1] at h2; cases h2;exact (hval i y h1).2.1)
      (fun i v j c hv hj=>by
       simp only [a8,av] at hv;obtain ⟨y,h1,rfl⟩:=hv;have h3:=(hval i y h1).2.2 j c hj;obtain ⟨_,k1,_⟩:=hys i y h1;obtain ⟨l1,l2⟩:=YL k1;have hj2:j<P.cellsOf e:=by rw [<-l1]; exact (ae.1 h3).1
       have:=l2 j hj2;rw [h3] at this;rw [ZJ,ZJ] at this;exact hat _ _ this)
     have e3:((ys.map (·.2)).map elV).length=len:=by simp [hyl]
     rw [e3] at this;exact this
theorem ReadsC.one {P:Program} {t:TypeId} {α:Type} {enc:α->V} {ok:α->Prop} (h:ReadsC P t (fun a=>[enc a]) ok) {H:Type} {en:TypeId × Value->H} {w:World} {v:Value} {d:DataW H} {ps:List MemPlace} (hv:v.oneCell'=true)
  (hd:DataW.Trod en P w 0 (fun _=>true) true t v d ps) (hwt : ∀ n∈d.weights P t,n<=reachBytes) : ∃ a,ok a/\RepI (whole w) (enc a) v:=by
 obtain ⟨fuel,hd⟩:=hd;have huc:v.cells = #[v]:=by cases v<;>first | rfl | simp [Value.oneCell'] at hv
 rw [huc] at hd;obtain ⟨a,h1,_,h3,_⟩:=h H en w fuel _ _ hd hwt;exact ⟨a,h1,h3 0 _ v rfl rfl⟩
theorem lift_calls {P:Program} {f:FuncId} {xs:List V} {vs:List Value} {W:World} (hl:xs.length=vs.length) (hr : ∀ (i:Nat) x v,xs[i]? = some x->vs[i]? = some v->RepI (whole W) x v) (h:VPure P f xs (.bool true)) :
  Calls P f vs.toArray W fun e w'=>e = .returned (.bool true)/\Below W.heap.size W w':=by
 have hS:Holds ⟨fun _=>none,0⟩ (whole W) (fun _=>Loc.fresh) W:=by
  exact { imm:=fun b o hb=>hb,apart:=fun o b hb=>(by cases hb),inj:=fun o o' b hb _=>(by cases hb),fresh:=fun o=>⟨fun _=>Nat.zero_le _,fun _=>rfl⟩,gone:=fun _ _=>rfl,dead:=fun o ho=>(by cases ho),live:=fun o c hc=>(by cases hc) }
 refine (h ⟨fun _=>none,0⟩ (whole W) (fun _ => .fresh) W vs hS ⟨hl,fun i x v hx hv => .imm (hr i x v hx hv)⟩).mono ?_;rintro e w' ⟨v,x,S',m',β',rfl,⟨rfl,rfl⟩,h1,h2,h3⟩;have hv:=h1.inv_bool;subst hv;refine ⟨rfl,h3.os,h3.tape,h3.output,h3.size,fun k hk => ?_⟩;have hm:whole W k=some W.heap[k]:=by simp [whole,hk]
 have:=h2.imm k _ (h3.imm k _ hm);rw [this]; simp [hk]
end Go.Vw
/-
 From an argument's reading to a value without addresses: structs.
-/
namespace Go.Vw
open Go.RowKit Go.ChangeShapes Go.WideShapes
def ReadsF (P:Program) (fs:List Field) (base:Nat) {α:Type} (enc:α->List V) (ok:α->Prop):Prop :=
 ∀ (H:Type) (en:TypeId × Value->H) (w:World) (fuel:Nat) (cs:List Value) (xs:List (DataW H × List MemPlace)),xs.length=fs.length ->
  (∀ (i:Nat) f,fs[i]? = some f->DataW.trod en P w 0 (fun _=>true) true fuel f.type ((cs.drop f.offset).take (P.cellsOf f.type))=xs[i]?) ->
  (∀ (i:Nat) f x,fs[i]? = some f->xs[i]? = some x -> ∀ n∈x.1.weights P f.type,n<=reachBytes) ->
  cs.length=base+(fs.map fun f=>P.cellsOf f.type).sum ->
  ∃ a,ok a/\(enc a).length=(fs.map fun f=>P.cellsOf f.type).sum/\(∀ (i:Nat) x v,(enc a)[i]? = some x->cs[base+i]? = some v->RepI (whole w) x v) /\ ∀ (i:Nat) v,cs[base+i]? = some v->v.oneCell'=true
theorem ReadsF.nil {P:Program} {base:Nat}:ReadsF P [] base (fun _:Unit=>[]) (fun _=>True):=by
 intro H en w fuel cs xs hl hx hz hc;simp at hc;exact ⟨(),trivial,rfl,fun i x v h=>by simp at h,fun i v h=>by rw [aJ (by omega)] at h; cases h⟩
theorem ReadsF.cons {P:Program} {f:Field} {fs:List Field} {base:Nat} {α β:Type} {encA:α->List V} {okA:α->Prop} {encB:β->List V} {okB:β->Prop} (ho:f.offset=base)
  (hA:ReadsC P f.type encA okA) (hB:ReadsF P fs (base+P.cellsOf f.type) encB okB):ReadsF P (f::fs) base (fun p:α × β=>encA p.1++encB p.2) (fun p=>okA p.1/\okB p.2):=by
 intro H en w fuel cs xs hl hx hz hc;simp only [List.map_cons,List.sum_cons] at hc ⊢
 cases xs with
 | nil=>simp at hl
 | cons x xs =>
  have h0:=hx 0 f rfl;rw [ho] at h0;obtain ⟨a,a1,a2,a3,a4⟩:=hA H en w fuel _ x h0 (hz 0 f x rfl rfl);obtain ⟨b,b1,b2,b3,b4⟩:=hB H en w fuel cs xs (by simpa using hl) (fun i g hg=>by have:=hx (i+1) g (by simpa using hg); simpa using this) (fun i g y hg hy=>hz (i+1) g y (by simpa using hg) (by simpa using hy)) (by omega);have hlen:((cs.drop base).take (P.cellsOf f.type)).length=P.cellsOf f.type:=by simp; omega
  rw [hlen] at a2;have hat : ∀ i,i<P.cellsOf f.type->((cs.drop base).take (P.cellsOf f.type))[i]? = cs[base+i]? := fun i hi=>by simp [hi]
  refine ⟨(a,b),⟨a1,b1⟩,by simp [a2,b2],fun i y v hy hv => ?_,fun i v hv => ?_⟩
  ·by_cases hi:i<P.cellsOf f.type
   ·rw [aV (show i<(encA a).length by omega)] at hy;exact a3 i y v hy (by rw [hat i hi]; exact hv)
   ·rw [bi (show (encA a).length<=i by omega),a2] at hy;exact b3 _ y v hy (by rw [show base+P.cellsOf f.type+(i-P.cellsOf f.type)=base+i by omega]; exact hv)
  ·by_cases hi:i<P.cellsOf f.type
   ·exact a4 v (aA (by rw [hat i hi]; exact hv))
   ·exact b4 (i-P.cellsOf f.type) v (by rw [show base+P.cellsOf f.type+(i-P.cellsOf f.type)=base+i by omega]; exact hv)
theorem ReadsC.struct {P:Program} {t:TypeId} {fs:Array Field} {α:Type} {enc:α->List V} {ok:α->Prop} (ht:P.underlying t=some (.struct fs)) (hs:P.cellsOf t=(fs.toList.map fun f=>P.cellsOf f.type).sum)
  (hF:ReadsF P fs.toList 0 enc ok):ReadsC P t enc ok:=by
 intro H en w fuel cs d h hwt;obtain ⟨xs,n,_,hd,hl,hlen,hf⟩:=DataW.trod_struct ht h;obtain ⟨a,h1,h2,h3,h4⟩:=hF H en w n cs xs (by simpa using hlen) (fun i f hi=>hf i f (by simpa using hi)) (fun i f x hi hx k hk=>hwt k (by
  rw [hd];simp only [DataW.weights,ht];exact DataW.weights_mem_each (j:=i) (t:=f.type) (d:=x.1) (by simp [hi]) (by simp [hx]) k hk)) (by omega)
 exact ⟨a,h1,by omega,fun i x v hx hv=>h3 i x v hx (by simpa using hv),fun v hv=>by
  obtain ⟨i,hi,rfl⟩:=a9 hv;exact h4 i _ (by rw [bd]; exact ac hi)⟩
theorem ReadsC.map {P:Program} {t:TypeId} {α β:Type} {enc:α->List V} {ok:α->Prop} {encB:β->List V} {okB:β->Prop} (h:ReadsC P t enc ok) (g:α->β) (he : ∀ a,encB (g a)=enc a) (ho : ∀ a,ok a->okB (g a)):ReadsC P t encB okB:=by
 intro H en w fuel cs d hd hwt;obtain ⟨a,h1,h2,h3,h4⟩:=h H en w fuel cs d hd hwt;exact ⟨g a,ho a h1,by rw [he]; exact h2,by rw [he]; exact h3,h4⟩
theorem ReadsC.agg {P:Program} {t:TypeId} {α:Type} {enc:α->List V} {ok:α->Prop} (h:ReadsC P t enc ok) {H:Type} {en:TypeId × Value->H} {w:World} {cells:Array Value} {d:DataW H} {ps:List MemPlace}
  (hd:DataW.Trod en P w 0 (fun _=>true) true t (.agg cells) d ps) (hwt : ∀ n∈d.weights P t,n<=reachBytes) : ∃ a,ok a/\RepI (whole w) (.agg (enc a)) (.agg cells):=by
 obtain ⟨fuel,hd⟩:=hd;obtain ⟨a,h1,h2,h3,h4⟩:=h H en w fuel _ _ hd hwt;have:=RepI.agg (m:=whole w) (enc a) cells.toList (by simpa [Value.cells] using h2) (by simpa [Value.cells] using h3) (by simpa [Value.cells] using h4);exact ⟨a,h1,by simpa using this⟩
end Go.Vw
