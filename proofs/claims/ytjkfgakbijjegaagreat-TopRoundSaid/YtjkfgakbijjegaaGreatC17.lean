import Derived.Test.YtjkfgakbijjegaaGreatC16
import Derived.RangeFuncRecord
import Derived.RangeFuncCalls
import Derived.TacticsIn
import Derived.OrdersIn
/- Part of the proof. -/
set_option linter.unusedVariables false
set_option linter.unusedSimpArgs false
set_option maxRecDepth 10000
set_option maxHeartbeats 4000000
namespace Go.Vw
open Go.RowKit
section
variable {P:Program} {N b:Nat} {Q:Exit->Fr->Store->Prop} {E:List PanicEntry->Fr->Store->Prop} {K:Fr->Store->Prop}
def YR (P:Program) (E:List PanicEntry->Fr->Store->Prop):List CO->(Fr->Store->Prop)->Fr->Store->Prop
 | [],K,σ,S=>K σ S
 | o::r,K,σ,S=>match o.guard with
  | none=>vopX P (fun ch T=>E ch σ T) σ S o.op fun v S'=>YR P E r K (σ.put o.dst v) S'
  | some (t,want)=>match σ.lk t with
   | .bool b=>if b=want then vopX P (fun ch T=>E ch σ T) σ S o.op fun v S'=>YR P E r K (σ.put o.dst v) S' else YR P E r K (σ.put o.dst (.tuple [])) S
   | .tuple []=>YR P E r K (σ.put o.dst (.tuple [])) S
   | _=>False
theorem ZY {ops:Array Oper} {m0:Imm} {β0:Objs} {w0:World} (hQ : ∀ ch σ S,E ch σ S->Q (.panic ch) σ S) : ∀ (l:List Oper) (cs:List CO) (σ:Fr) (S:Store) (m:Imm) (β:Objs) (w:World) (a:Act),l.mapM (za P N ops)=some cs->YR P E cs (Q .normal) σ S ->
  Holds S m β w->FrameRep N m β σ a->ExtB b m0 β0 w0 m β w->wpList P ops (Post N b Q m0 β0 w0) l a w
 | [],cs,σ,S,m,β,w,a,hl,h,hS,hF,he=>by
  simp at hl; subst hl;exact ⟨σ,S,m,β,h,hS,hF,he⟩
 | o::l,cs,σ,S,m,β,w,a,hl,h,hS,hF,he=>by
  simp only [List.mapM_cons,Option.bind_eq_bind,aG] at hl;obtain ⟨c,hc,cs',hcs',hl⟩:=hl;simp at hl; subst hl;unfold za at hc;split at hc
  .rename_i co g h1 h2;split at hc
   .rename_i hdst;cases hc;have hd : ∀ t,o.dst=some t->t<N:=by
     intro t ht; rw [ht] at hdst; simpa using hdst
    simp only [wpList];have run:vopX P (fun ch T=>E ch σ T) σ S co (fun v S'=>YR P E cs' (Q .normal) (σ.put o.dst v) S')->o.wp P a w (wpList P ops (Post N b Q m0 β0 w0) l) (Post N b Q m0 β0 w0):=fun hv =>
     KU h1 hd hv hS hF he (fun x S' m' β' w' a' k1 k2 k3 k4=>ZY hQ l cs' _ S' m' β' w' a' hcs' k1 k2 k3 k4)
      (fun ch S' m' β' w' k1 k2 k3 k4=>⟨σ,S',m',β',hQ _ _ _ k1,k2,k3,k4⟩)
    have skip:YR P E cs' (Q .normal) (σ.put o.dst (.tuple [])) S->wpList P ops (Post N b Q m0 β0 w0) l (a.put o.dst undef) w:=fun hv =>
     ZY hQ l cs' _ S m β w _ hcs' hv hS (hF.put o.dst hd (zR m β)) he
    cases hg:o.guard with
    | none =>
     rw [hg] at h2;simp [zb] at h2; subst h2;have hw:Region.wanted o (yielded ops a.tmps)=true:=by simp [Region.wanted,hg]
     rw [if_pos hw];simp only [YR] at h;exact .inl (run h)
    | some jw =>
     obtain ⟨j,want⟩:=jw;rw [hg] at h2;simp only [zb] at h2;split at h2
     .rename_i t ht;cases h2;simp only [YR] at h;split at h
      .rename_i b hb;have hy:=Wv hF ht hb;split at h
       .rename_i hbw;have hw:Region.wanted o (yielded ops a.tmps)=true:=by simp [Region.wanted,hg,hy,hbw]
        rw [if_pos hw]; exact .inl (run h)
       .rename_i hbw;have hw : ¬ Region.wanted o (yielded ops a.tmps)=true:=by simp [Region.wanted,hg,hy,hbw]
        rw [if_neg hw]; exact skip h
      .rename_i hb;have hy:=KG hF ht hb;have hw : ¬ Region.wanted o (yielded ops a.tmps)=true:=by simp [Region.wanted,hg,hy]
       rw [if_neg hw]; exact skip h
      .exact h.elim
     .cases h2
   .cases hc
  .cases hc
theorem zx {rest:List CO} {σ':Fr} {S':Store} : ∀ (cs:List CO) (σ:Fr) (S:Store),runV none cs σ S=some (rest,σ',S')->YR P E rest K σ' S'->YR P E cs K σ S
 | [],σ,S,h,hk=>by simp only [runV,ar,Prod.mk.injEq] at h; obtain ⟨rfl,rfl,rfl⟩:=h; exact hk
 | o::r,σ,S,h,hk=>by
  have go:(if o.op.isCall=true\/(o.op.reader=false/\(none:Option ZZ).isSome=true) then some (⟨o.dst,none,o.op⟩::r,σ,S) else match jg (ev σ) (if o.op.reader=true then rd none o.dst o.op S else S) o.op with
      | some (v,S')=>runV none r (σ.put o.dst v) (if o.op.reader=true then S else S')
      | none=>none)=some (rest,σ',S')->vopX P (fun ch T=>E ch σ T) σ S o.op fun v S'=>YR P E r K (σ.put o.dst v) S':=by
   intro h;split at h
   .simp only [ar,Prod.mk.injEq] at h;obtain ⟨rfl,rfl,rfl⟩:=h;simpa only [YR] using hk
   .rename_i hc;split at h
    .rename_i v S1 hv;have hv':jg (ev σ) S o.op=some (v,S1):=by
      split at hv
      .exact hv
      .exact hv
     refine ade (fun e=>hc (.inl e)) hv' ?_;by_cases hr:o.op.reader=true
     .rw [if_pos hr] at h;rw [jaX hr hv'];exact zx r _ _ h hk
     .rw [if_neg hr] at h;exact zx r _ _ h hk
    .cases h
  simp only [runV] at h;simp only [YR];cases hg:o.guard with
  | none=>simp only [hg] at h; exact go h
  | some tw =>
   obtain ⟨t,want⟩:=tw;simp only [hg] at h;simp only;cases hv:σ.lk t with
   | bool b =>
    simp only [hv] at h;simp only;split at h
    .rename_i hb; rw [if_pos hb]; exact go h
    .rename_i hb; rw [if_neg hb]; exact zx r _ _ h hk
   | tuple xs =>
    cases xs with
    | nil=>simp only [hv] at h; simp only; exact zx r _ _ h hk
    | cons=>simp only [hv] at h; cases h
   | _=>simp only [hv] at h; cases h
theorem WW {σ:Fr} {S:Store} {d:Option Nat} {f:FuncId} {args:List Arg} {xs:List V} {r:List CO} {R:V->Store->Prop} (ha:args.map (ev σ)=xs) (h:VCallsX P f xs S R (fun ch T=>E ch σ T)) (H : ∀ X S',R X S'->YR P E r K (σ.put d X) S') :
  YR P E (⟨d,none, .call f args⟩::r) K σ S:=by
 simp only [YR,vopX];rw [ha];exact h.mono H fun _ _ h=>h
theorem Jy {t:Nat} {v:Value} {ds:List Deferred} {σ:Fr} {S:Store} {c:Code} (E:List PanicEntry->Fr->Store->Prop) (hQ : ∀ ch σ S,E ch σ S->Q (.panic ch) σ S) (hQo : ∀ σ S, ¬ Q .outgrown σ S) (hd:(Code.ops c).toList.all (fun o=>o.dst != some t)=true) (h:Code.kind c=1) {cs:List CO} (hc:qj P N (Code.ops c)=some cs) (H:YR P E cs (Q .normal) σ S) :
  VWpD P N b t v ds c Q σ S:=by
 cases c with
 | region id ops d =>
  cases d
  .intro m β w a hS hF hv;exact wp_region_list (jas (Zw hQo) ops.toList a w (fun o ho=>by simpa using ax.1 hd o ho) hv (ZY hQ ops.toList cs σ S m β w a hc H hS hF (ExtB.refl _ _ _ _)))
  .simp [Code.kind] at h
 | _=>simp [Code.kind] at h
theorem auz {m0:Imm} {β0:Objs} {w0:World} {R:Exit->Act->World->Prop} {σ:Fr} {S S':Store} {c:Code} (h:Seen S S') (k:VG P N b m0 β0 w0 R c σ S'):VG P N b m0 β0 w0 R c σ S:=by
 intro m β w a hS hF he;obtain ⟨m',β',h1,h2⟩:=h m β w hS;exact k m' β' w a h1 (hF.ext h2) (he.trans (h2.toB _))
theorem adl {t:Nat} {v:Value} {ds:List Deferred} {σ:Fr} {S:Store} {c:Code} {Q':Exit->Fr->Store->Prop} (h:VWpD P N b t v ds c Q' σ S) (hq : ∀ e σ S,Q' e σ S->Q e σ S):VWpD P N b t v ds c Q σ S:=by
 intro m β w a hS hF hv;refine wp_mono (h m β w a hS hF hv) ?_;rintro e a' w' ⟨a0,rfl,hv0,σ',S',m',β',q,r⟩;exact ⟨a0,rfl,hv0,σ',S',m',β',hq _ _ _ q,r⟩
theorem akt {t:Nat} {v:Value} {ds:List Deferred} {σ:Fr} {S:Store} {c:Code} (h:S.Wf->VWpD P N b t v ds c Q σ S):VWpD P N b t v ds c Q σ S:=fun m β w a hS hF hv=>h hS.wf m β w a hS hF hv
end
end Go.Vw
namespace Go.Vw
open Go.Proofs Go.RowKit Wm
attribute [-simp] List.map_set
theorem axm {B:Store} (hw:B.Wf) : ∀ {us:Upds},(∀ p∈us,B.get p.1=p.2)->St B us []=B:=by
 intro us h;have key : ∀ (us:Upds),(∀ p∈us,B.get p.1=p.2) -> ∀ o,uGet us o (B.get o)=B.get o:=by
  intro us
  induction us with
  | nil=>intro _ o; rfl
  | cons p us ih =>
   intro h o;obtain ⟨k,c⟩:=p;simp only [uGet];split
   .rename_i e; rw [e]; exact (h (k,c) (by simp)).symm
   .exact ih (fun q hq=>h q (by simp [hq])) o
 conv=>rhs; rw [<-jh hw]
 refine Store.eq_of (fun o => ?_) rfl;rw [zj,zj];split
 .rw [key us h]; rfl
 .rfl
theorem acb (b:List Nat) (hb : ∀ x∈b,x<256):bF 4 [vl vb b] (.tuple [jR (qo b).1,qh (qo b).2]):=by
 intro S;refine Km ?_;refine jbY (Q:=zq S.nx fun r T=>r = .tuple [jR (qo b).1,qh (qo b).2]/\T=S) (c:=jf Tryz.f4) Tryz.func4 rfl (by simp [Tryz.ntmps4]) fun m0' β0 w0 h0 hwf => ?_;have hres:resC Tryz.prog Tryz.f4=some [(2,some (some 9)),(3,some (some 3))]:=by conv=>lhs; reduce
 rw [Tryz.ntmps4];refine Zp rfl (aam hwf ?_);refine bk ?_;show VG _ _ _ _ _ _ _ _ _ _;refine Zp rfl ?_;by_cases hlen:16384<b.length
 .have d1:(b.length:Int) > 16384:=by omega
  refine bm d1 hlen ?_;have hdec:qo b=(qX,(7,0,0)):=by simp only [qo,if_pos hlen]
  rw [hdec];refine (jdH (S0:=S) hres h0 (.inr rfl) ?_:FinB _ _ _ _ _ _ _ _ _);refine jaZ (S:=S) (o2:=lid S.nx 0) (o3:=lid S.nx 1) (m:=qX) (e:=(7,0,0)) hwf rfl rfl (by simp; rfl) ?_ (by simp; rfl) (by simp [lid]) (by simp [lid]) (jN (by simp)) (fun o ho=>YJ ho);simp [likeL,jR,qX,V.cells,vl]
 .have d1 : ¬ (b.length:Int) > 16384:=by omega
  refine bm d1 hlen ?_;show VG _ _ _ _ _ _ _ _ _ _;refine Zp rfl ?_;refine bk ?_;show VG _ _ _ _ _ _ _ _ _ _;obtain ⟨o2,ho2⟩ : ∃ o2,lid S.nx 0=o2:=⟨_,rfl⟩
  obtain ⟨o3,ho3⟩ : ∃ o3,lid S.nx 1=o3:=⟨_,rfl⟩
  obtain ⟨ro,hro⟩ : ∃ ro,lid S.nx 2=ro:=⟨_,rfl⟩
  have n32:o3≠o2:=by rw [<-ho2, <-ho3]; simp [lid]
  have nr2:ro≠o2:=by rw [<-ho2, <-hro]; simp [lid]
  have nr3:ro≠o3:=by rw [<-ho3, <-hro]; simp [lid]
  have l2:S.nx<=o2/\o2<S.nx+3:=by rw [<-ho2]; simp [lid]
  have l3:S.nx<=o3/\o3<S.nx+3:=by rw [<-ho3]; simp [lid]
  have lr:S.nx<=ro/\ro<S.nx+3:=by rw [<-hro]; simp [lid]
  refine auz (Seen.likeL (o:=ro) (s:=12) (cs':=m0c b 0) (by rw [<-hro]; simp; rfl) (by simp [likeL,m0c,vl,bH,bI])) ?_;have hup : ∀ A B C D,(St S [] [A,B,C]).upd ro D=St S [] [A,B,some D]:=fun A B C D=>by rw [<-hro,Yn (by simp)]; rfl
  rw [hup];obtain ⟨S1,hS1⟩ : ∃ S1,St S [] [some (9,[V.nils,V.nils,V.nils,V.int .i64 0,V.int .i64 0,V.nils,V.nils,V.int .i64 0,V.nils]),some (3,[V.int .i64 0,V.int .i64 0,V.int .i64 0]),some (12,m0c b 0)]=S1:=⟨_,rfl⟩
  have hn1:S1.nx=S.nx+3:=by rw [<-hS1,jH]; simp [lid]
  have k2:S1.get o2=some (9,[V.nils,V.nils,V.nils,V.int .i64 0,V.int .i64 0,V.nils,V.nils,V.int .i64 0,V.nils]):=by rw [<-hS1, <-ho2]; simp
  have k3:S1.get o3=some (3,[V.int .i64 0,V.int .i64 0,V.int .i64 0]):=by rw [<-hS1, <-ho3]; simp
  have kr:S1.get ro=some (12,m0c b 0):=by rw [<-hS1, <-hro]; simp
  have hkS:Kept S [] S1:=by rw [<-hS1]; exact jN (by simp)
  rw [hS1,ho2,ho3,hro];refine aeo (t:=14) (g:=9) rfl rfl rfl rfl rfl rfl rfl ?_;rintro v vs rfl;show VWpD _ _ _ _ _ _ _ _ [(0,vl vb b),(2, .ptr o2 0),(3, .ptr o3 0),_,_,_,_,_,_,_,(4, .ptr ro 0),(14, .func 9 [.ptr o2 0, .ptr o3 0])] S1;refine adl (Q':=fun e σ' S'=>e ≠ .outgrown /\ ∀ m β w a,Holds S' m β w->FrameRep 22 m β σ' a->ExtB S.nx m0' β0 w0 m β w->a.tmps.getD 14 undef = .func (.func 9) #[] vs->bodyPostD Tryz.prog Tryz.f4 (jgj m0' β0 w0 (zq S.nx fun r T=>r = .tuple [jR (qo b).1,qh (qo b).2]/\T=S)) e { a with defers:=[⟨.fn (.func 9) vs, #[]⟩] } w) ?_ (fun e σ S h=>h.2);refine akt fun hw1 => ?_;refine JM rfl ?_;refine Jy (fun ch σ T=>(σ.lk 2 = .ptr o2 0/\σ.lk 3 = .ptr o3 0/\σ.lk 14 = .func 9 [.ptr o2 0, .ptr o3 0]) /\ ∃ e,ch=jY 46 e/\Kd b = .error e/\Kept S1 [ro] T) ?_ (fun σ S h=>h.1 rfl) (by kernel_rfl) rfl (by conv=>lhs; reduce) ?_
  .rintro ch σ T ⟨⟨q2,q3,q14⟩,e,rfl,he,hk⟩;refine ⟨Exit.noConfusion, ?_⟩;have hdec:qo b=(qX,e):=by simp only [qo,if_neg hlen,he]
   rw [hdec];have g2:T.get o2=_:=(hk.2 o2 (by omega) (by simp; exact Ne.symm nr2)).trans k2;have g3:T.get o3=_:=(hk.2 o3 (by omega) (by simp; exact Ne.symm nr3)).trans k3;have hrec:Recov (.panicking (jY 46 e)) (WA 46 (some e)) (.panicking [{ v:=WA 46 (some e),recovered:=true }]) := .inr ⟨_,rfl,rfl,rfl⟩;refine jaU (S0:=S) hres h0 rfl q14 (.inr ⟨_,rfl,rfl⟩) hrec.settle (alw o2 o3 T _ _ _ _ _ _ _ _ _ _ _ _ _ _ (some e) g2 g3 n32 hrec) ?_;rintro T3 ⟨l,rfl⟩;have hl2:o2<T.nx:=by have:=hk.1; omega
   have hl3:o3<T.nx:=by have:=hk.1; omega
   refine jaZ (S:=S) (m:=qX) (e:=e) hwf q2 q3 (JN hl2 _ _ _) ?_ (Kh hl3 n32 _ _ _) n32 l2.1 ?_ (fun o ho=>YJ ho)
   .simp [likeL,jR,qX,V.cells,vl,bH]
   .refine ⟨?_,fun o ho hn => ?_⟩
    .have:=hk.1; rw [jH]; simp only [lid]; omega
    .have h1:o<T.nx:=by have:=hk.1; omega
     rw [jk h1];simp only [uGet];rw [if_neg (by omega),if_neg (by omega),hk.2 o (by omega) (by simp; omega)];exact hkS.2 o ho (by simp)
  .refine zx _ _ _ (by conv=>lhs; simp) ?_;have hmi:MI ro 0 (m0 b) S1:=⟨⟨Nat.zero_le _,by show b.length<=16384; omega,hb,by show 0<=512; omega,⟨by simp [m0],fun s hs=>by simp [m0] at hs⟩,by simp [m0],fun l hl=>by cases hl⟩,kr,fun l hl=>by cases hl⟩
   refine WW rfl (aod ro b S1 _ hmi fun e he T hk=>⟨⟨rfl,rfl,rfl⟩,e,rfl,he,hk⟩) ?_;rintro r T ⟨m,fo,hm,hmi2,hk,hfo,rfl⟩;show VWpD _ _ _ _ _ _ _ _ _ _;refine akt fun hwT => ?_;have hdec:qo b=(m.mod,(0,0,0)):=by simp only [qo,if_neg hlen,hm]
   rw [hdec];have g2:=(hk.2 o2 (by omega) (by simp; exact Ne.symm nr2)).trans k2;have g3:=(hk.2 o3 (by omega) (by simp; exact Ne.symm nr3)).trans k3;have gr:=hmi2.get;have hn1':=hk.1;have hl2:o2<T.nx:=by omega
   have hl3:o3<T.nx:=by omega
   have hlr:ro<T.nx:=by omega
   obtain ⟨fv,hfv⟩ : ∃ fv,fuV fo m.fs=fv:=⟨_,rfl⟩
   have hfn:fv.nj1=true:=by rw [<-hfv]; exact avs _ _
   have hf1:fv.one=true:=by rw [<-hfv]; exact aue _ _
   have gr':T.get ro=some (12,[vl vb m.b,bI m.a,vl je m.ty,vl jp m.im,fv,bH m.pg,bH m.mo,vl jv m.gl,vl jr m.ex,bH m.st,vl jq m.da,bI m.ops]):=by rw [<-hfv]; exact gr
   have q1 : ∀ A B C l,(St T [(o2,some A),(o3,some B),(ro,some C)] l).get o2=some A:=fun A B C l=>by rw [jk hl2]; simp [uGet]
   have q2 : ∀ A B C l,(St T [(o2,some A),(o3,some B),(ro,some C)] l).get o3=some B:=fun A B C l=>by rw [jk hl3]; simp [uGet,n32]
   have q3 : ∀ A B C l,(St T [(o2,some A),(o3,some B),(ro,some C)] l).get ro=some C:=fun A B C l=>by rw [jk hlr]; simp [uGet,nr2,nr3]
   have v1 : ∀ A B C D l,(St T [(o2,some A),(o3,some B),(ro,some C)] l).upd o2 D=St T [(o2,some D),(o3,some B),(ro,some C)] l:=fun A B C D l=>by rw [jT hl2]; simp [uSet]
   have v2 : ∀ A B C D l,(St T [(o2,some A),(o3,some B),(ro,some C)] l).upd o3 D=St T [(o2,some A),(o3,some D),(ro,some C)] l:=fun A B C D l=>by rw [jT hl3]; simp [uSet,n32]
   rw [<-axm hwT (us:=[(o2,some (9,[V.nils,V.nils,V.nils,V.int .i64 0,V.int .i64 0,V.nils,V.nils,V.int .i64 0,V.nils])),(o3,some (3,[V.int .i64 0,V.int .i64 0,V.int .i64 0])),(ro,some (12,[vl vb m.b,bI m.a,vl je m.ty,vl jp m.im,fv,bH m.pg,bH m.mo,vl jv m.gl,vl jr m.ex,bH m.st,vl jq m.da,bI m.ops]))]) (by simp [g2,g3,gr'])];refine JM rfl ?_;have hz : ∀ (x0 x1 x2 x3 x4 x5 x6 x7 x8:V),(Zs T [o2,o3,ro] [(o2,some (9,[.junk, .junk, .junk, .junk, .junk, .junk, .junk, .junk, .junk])),(o3,some (3,[V.int .i64 0,V.int .i64 0,V.int .i64 0])),(ro,some (12,[vl vb m.b,bI m.a,vl je m.ty,vl jp m.im,fv,bH m.pg,bH m.mo,vl jv m.gl,vl jr m.ex,bH m.st,vl jq m.da,bI m.ops]))] []).ok (St T [(o2,some (9,[x0,x1,x2,x3,x4,x5,x6,x7,x8])),(o3,some (3,[V.int .i64 0,V.int .i64 0,V.int .i64 0])),(ro,some (12,[vl vb m.b,bI m.a,vl je m.ty,vl jp m.im,fv,bH m.pg,bH m.mo,vl jv m.gl,vl jr m.ex,bH m.st,vl jq m.da,bI m.ops]))] []):=fun _ _ _ _ _ _ _ _ _=>YI (by simp [WG,subO,jm]) (by simp [jW,subO,jm]) (by simp) (by simp)
   refine aoz (σ':=[]) (S':=T) (fun _ _=>False) (Zs T [o2,o3,ro] [(o2,some (9,[.junk, .junk, .junk, .junk, .junk, .junk, .junk, .junk, .junk])),(o3,some (3,[V.int .i64 0,V.int .i64 0,V.int .i64 0])),(ro,some (12,[vl vb m.b,bI m.a,vl je m.ty,vl jp m.im,fv,bH m.pg,bH m.mo,vl jv m.gl,vl jr m.ex,bH m.st,vl jq m.da,bI m.ops]))] []) [] [0,1,2,3,4,5,6] [] rfl (by kernel_rfl) (by conv=>lhs; reduce) (by conv=>lhs; reduce) (by kernel_rfl) (fun _ _ _ h=>h.elim) (fun σ S h=>h.1 rfl) (by kernel_rfl) (by kernel_rfl) (by kernel_rfl) (by kernel_rfl) (KF _ _ _ _) (hz _ _ _ _ _ _ _ _ _) ?_;have hfn':=hfn;unfold V.nj1 at hfn';refine ZM (r:=by conv=>lhs;simp[QV,↓ju,ZR,Zs,zz,jl,ji,V.nj,V.nj1,V.bK,q1,q2,q3,hfn',hf1]) (k:=?_);refine jo rfl (by conv=>lhs; simp [q1,v1]) ?_ ?_
   .exact hz _ _ _ _ _ _ _ _ _
   refine ZM (r:=by conv=>lhs;simp[QV,↓ju,ZR,Zs,zz,jl,ji,V.nj,V.nj1,V.bK,q1,q2,q3]) (k:=?_);refine jo rfl (by conv=>lhs; simp [q2,v2]) ?_ ?_
   .exact hz _ _ _ _ _ _ _ _ _
   refine ZM (r:=by conv=>lhs;simp[QV,↓ju,ZR,Zs,zz,jl,ji,V.nj,V.nj1,V.bK]) (k:=?_);refine jy ?_;refine aa1 rfl ⟨Exit.noConfusion, ?_⟩;have hrec:Recov .returning (WA 46 none) .returning := .inl ⟨rfl,rfl,rfl⟩;refine jaU (S0:=S) hres h0 rfl rfl (.inl ⟨.inr rfl,rfl⟩) hrec.settle (alw o2 o3 _ _ _ _ _ _ _ _ _ _ _ _ _ _ _ none (q1 _ _ _ _) (q2 _ _ _ _) n32 hrec) ?_;rintro T3 ⟨l,rfl⟩;obtain ⟨T2,hT2⟩ : ∃ T2,St T [(o2,some (9,[vl je m.ty,vl jp m.im,fv,bH m.pg,bH m.mo,vl jv m.gl,vl jr m.ex,bH m.st,vl jq m.da])),(o3,some (3,[V.int .i64 0,V.int .i64 0,V.int .i64 0])),(ro,some (12,[vl vb m.b,bI m.a,vl je m.ty,vl jp m.im,fv,bH m.pg,bH m.mo,vl jv m.gl,vl jr m.ex,bH m.st,vl jq m.da,bI m.ops]))] []=T2:=⟨_,rfl⟩
   have nT2:T2.nx=T.nx:=by rw [<-hT2,jH]; simp [lid]
   have p2:T2.get o2=some (9,[vl je m.ty,vl jp m.im,fv,bH m.pg,bH m.mo,vl jv m.gl,vl jr m.ex,bH m.st,vl jq m.da]):=by rw [<-hT2]; exact q1 _ _ _ _
   have p3:T2.get o3=some (3,[V.int .i64 0,V.int .i64 0,V.int .i64 0]):=by rw [<-hT2]; exact q2 _ _ _ _
   have po : ∀ o,o<T.nx->o≠o2->o≠o3->o≠ro->T2.get o=T.get o:=fun o h1 h2 h3 h4=>by rw [<-hT2,jk h1]; simp [uGet,h2,h3,h4]
   have p2':(St T2 [] l).get o2=some (9,[vl je m.ty,vl jp m.im,fv,bH m.pg,bH m.mo,vl jv m.gl,vl jr m.ex,bH m.st,vl jq m.da]):=(jk (by omega)).trans p2;have p3':(St T2 [] l).get o3=some (3,[V.int .i64 0,V.int .i64 0,V.int .i64 0]):=(jk (by omega)).trans p3;have hkk:Kept S [] (St T2 [] l):=by
    refine ⟨by rw [jH]; simp only [lid]; omega,fun o ho hn => ?_⟩;rw [jk (by omega)];simp only [uGet];rw [po o (by omega) (by omega) (by omega) (by omega),hk.2 o (by omega) (by simp; omega)];exact hkS.2 o ho (by simp)
   show ∃ S2 xs,Seen (St (St T [(o2,some (9,[vl je m.ty,vl jp m.im,fv,bH m.pg,bH m.mo,vl jv m.gl,vl jr m.ex,bH m.st,vl jq m.da])),(o3,some (3,[V.int .i64 0,V.int .i64 0,V.int .i64 0])),(ro,some (12,[vl vb m.b,bI m.a,vl je m.ty,vl jp m.im,fv,bH m.pg,bH m.mo,vl jv m.gl,vl jr m.ex,bH m.st,vl jq m.da,bI m.ops]))] []) [] l) S2/\_
   rw [hT2];cases hfs:m.fs with
   | none =>
    have hfe:fv = .nils:=by rw [<-hfv,hfs]; rfl
    refine jaZ (S:=S) hwf rfl rfl p2' ?_ p3' n32 l2.1 hkk (fun o ho=>YJ ho);rw [hfe];simp [likeL,jR,MS.mod,hfs,V.cells,vl]
   | some l0 =>
    obtain ⟨f1,cs,f2,f3,f4⟩:=hmi2.fu l0 hfs;have hf1':=hfo (by rw [hfs]; rfl);have hfe:fv = .slice fo 0 m.mod.funcs.length:=by rw [<-hfv,hfs]; simp [fuV,MS.mod,hfs]
    have hme:m.mod.funcs=l0:=by simp [MS.mod,hfs]
    have hlt:=jx hwT f2;rw [hfe] at p2';refine ahm (S:=S) (fo:=fo) (cs:=cs) hwf rfl rfl p2' ?_ p3' n32 l2.1 hkk (fun o ho=>YJ ho) ?_ (by rw [hme]; exact f3) (by omega) (by omega) (by omega)
    .simp [likeL,jR,MS.mod,V.cells,bH]
    .rw [jk (by omega)];simp only [uGet];rw [po fo hlt (by omega) (by omega) f1];exact f2
theorem agt {B:Store} {u:Upds} (l l':OL):St (St B u l) [] l'=St B u (l++l'):=by
 have hn:(St B u l).nx=B.nx+l.length:=by rw [jH]; rfl
 refine Store.eq_of (fun o => ?_) (by rw [jH,hn,jH]; simp [lid]; omega);rw [zj (u:=[]) (l:=l'),hn,zj (u:=u) (l:=l++l')];by_cases h:o<B.nx
 .rw [if_pos (by omega),if_pos h];simp only [uGet];rw [zj,if_pos h]
 .rw [if_neg h];by_cases h2:o<B.nx+l.length
  .rw [if_pos h2];simp only [uGet];rw [zj,if_neg h,aL (by omega)]
  .rw [if_neg h2,aV (by omega)]
   congr 2
   omega
theorem axe (m:Mod) : ∀ k:Nat,k<12->WC 12 (WR m) (.int .i64 (k:Int))=some (vl vb (secW m k))
 | 0,_=>rfl
 | 1,_=>rfl
 | 2,_=>rfl
 | 3,_=>rfl
 | 4,_=>rfl
 | 5,_=>rfl
 | 6,_=>rfl
 | 7,_=>rfl
 | 8,_=>rfl
 | 9,_=>rfl
 | 10,_=>rfl
 | 11,_=>rfl
 | n+12,h=>absurd h (by omega)
theorem anf {m:Mod} (hl : ∀ k,(secW m k).length<=1000000000000) : ∀ k,k<=12->(zG m k).length<=8+k*1000000000100
 | 0,_=>by simp [zG,magic]
 | k+1,hk=>by
  have h1:=anf hl k (by omega);have h2:=hl k;have h3:=acm ((secW m k).length:Int);rw [JL,lA];have h4:(ZN m k).length<=1000000000100:=by
   simp only [ZN];split
   .simp
   .simp only [av,lA]; omega
  omega
theorem jfX (m:Mod) (hm:okM m) (hn : ∀ f∈m.funcs,nL f.body) (hl : ∀ k,(secW m k).length<=1000000000000) (hd:okM (qo (qz m)).1):bF 6 [jR m] (.tuple [vl vb (zm m).1,bH (zm m).2]):=by
 intro S;have qf:=aci m hm;have qs:=ai3 m hm hn (fun k=>by have:=hl k; omega);have qd:=acb (qz m) (jgg hm 12 (by omega));have qe:=agu (qo (qz m)).1 m hd hm;obtain ⟨fw,hfw⟩ : ∃ f,few m=f:=⟨_,rfl⟩
 rw [hfw] at qf;refine bE Tryz.func6 Tryz.ntmps6 fun hwf=>?_
 repeat first|refine QG ?_|refine QY ?_ (r:=by conv=>lhs;simp[QV,jR])
 by_cases h0:fw=true
 .subst h0;have her:zm m=if (qo (qz m)).2=(0,0,0)/\jcZ (qo (qz m)).1 m=true then (qz m,0) else ([],6):=by simp only [zm,hfw]; rfl
  rw [her];refine QP ?_;refine jA rfl qf ?_;refine QW ?_
  repeat first|refine QG ?_|refine QY ?_ (r:=by conv=>lhs;simp[QV,jcb])
  refine QP ?_;refine jA rfl qs ?_;refine bz ?_;refine bB [1,4,15,16] (fun c σ T => ∃ (k:Nat),k<=12/\c=12-k/\σ=[(1, .ptr (lid S.nx 0) 0),(4, .slice (lid S.nx 1) 0 (zG m k).length),(15,WR m),(16,bI k)]/\T=St S [] [some (9,modC m),some (1,(zG m k).map vb)]) 12 ?_ ?_
  .exact ⟨0,by omega,rfl,by simp [Fr.oy,zG,magic],by simp [modC,zG,magic,vb]⟩
  .rintro c σ T ⟨k,hk,rfl,rfl,rfl⟩;have hbl:=anf hl k hk;obtain ⟨cur,hcur⟩ : ∃ cur,zG m k=cur:=⟨_,rfl⟩
   rw [hcur] at hbl ⊢;by_cases hkt:k<12
   .have hw:=jP hkt (by omega);have hiv:=axe m k hkt;have hkl:(k:Int)<12:=by omega
    have hnx:=JL m k;have hlk:=hl k;rw [hcur] at hnx;simp only [ZN] at hnx;obtain ⟨s,hs⟩ : ∃ s,secW m k=s:=⟨_,rfl⟩
    rw [hs] at hiv hnx hlk;obtain ⟨es,hes⟩ : ∃ es,WR m=es:=⟨_,rfl⟩
    rw [hes] at hiv ⊢;by_cases h0:s.length=0
    .have h0' : ¬ (s.length:Int) > 0:=by omega
     have h0'' : ¬ 0<s.length:=by omega
     rw [if_pos h0,List.append_nil] at hnx;refine bu hkt hkl hiv h0' h0'' hw ?_;show zI _ _ _ _ _ _ _;exact again ⟨(by omega:12-(k+1)<12-k),k+1,hkt,rfl,(by rw [hnx]; simp [Fr.oy,hw]),(by rw [hnx])⟩
    .have h0':(s.length:Int) > 0:=by omega
     have h0'':0<s.length:=by omega
     rw [if_neg h0] at hnx;have hwx:IntKind.u8.wrap (k:Int)=(k:Int):=by rw [Kg]; omega
     have hw64:IntKind.u64.wrap (s.length:Int)=(s.length:Int):=by rw [jZ]; omega
     have hap:jB 1 1 (St S [] [some (9,modC m),some (1,cur.map vb),some (1,[.int .u8 k])]) (.slice (lid S.nx 1) 0 cur.length) (.slice (lid S.nx 2) 0 1)=some (.slice (lid S.nx 3) 0 (cur.length+1),St S [] [some (9,modC m),none,some (1,[.int .u8 k]),some (1,cur.map vb++[.int .u8 k])]):=by
      rw [qH (s:=1) (cells:=cur.map vb) (new:=[.int .u8 k]) (by simp) (by simp) (by simp) (by simp) (by omega) (by omega),YQ (by simp),qT,jH]
      rfl
     obtain ⟨mc,hmc⟩ : ∃ mc,modC m=mc:=⟨_,rfl⟩
     have i1:V.idsL (gcP S.nx [0,5]) mc=true:=by rw [<-hmc]; simp [modC]
     have r1:V.renL (gcTo S.nx [0,5]) mc=mc:=by rw [<-hmc]; simp [modC]
     have i2:V.ids (gcP S.nx [0,5]) es=true:=by rw [<-hes]; simp [WR]
     have r2:V.ren (gcTo S.nx [0,5]) es=es:=by rw [<-hes]; simp [WR]
     rw [hmc] at hap ⊢
     repeat first|refine QG ?_|refine QY ?_ (r:=by conv=>lhs;simp[QV,hkt,hkl,hiv,h0',h0'',hw,hwx,hap])
     refine QP ?_ (r:=by conv=>lhs;simp[QV,hw64]);have hfz:Ghost (.slice (lid S.nx 3) 0 (cur.length+1)) (St S [] [some (9,mc),none,some (1,[.int .u8 k]),some (1,cur.map vb++[.int .u8 k])]) (vl vb (cur++[k])) (St S [] [some (9,mc),none,some (1,[.int .u8 k]),none]):=by
      have e:vl vb (cur++[k]) = .list (cur.map vb++[.int .u8 k]):=by simp [vl,vb]
      rw [e];exact frz1 (B:=S) (u:=[]) (k:=3) (by simp) rfl (by simp [vb,V.bK]) (by simp)
     obtain ⟨nb,hnb⟩ : ∃ nb,cur++[k]++uW (s.length:Int)=nb:=⟨_,rfl⟩
     have hnl:nb.length<=99000000000000:=by
      rw [<-hnb];have:=acm (s.length:Int);simp only [lA,av,aF];omega
     have hput:=ajr (cur++[k]) (s.length:Int) (by omega) (by omega) (by simp; omega) (St S [] [some (9,mc),none,some (1,[.int .u8 k]),none]);rw [hnb] at hput;refine Kn rfl (jcj (GhostArgs.one [] [.int .u64 (s.length:Int)] hfz) hput) ?_;rintro r T ⟨rfl,rfl⟩;rw [agt,show V.slice (lid (St S [] [some (9,mc),none,some (1,[.int .u8 (k:Int)]),none]).nx 0) 0 nb.length = .slice (lid S.nx 4) 0 nb.length by rw [jH]; rfl];have hap2:jB 1 1 (St S [] [some (9,mc),none,some (1,[.int .u8 k]),none,some (1,nb.map vb)]) (.slice (lid S.nx 4) 0 nb.length) (vl vb s)=some (.slice (lid S.nx 5) 0 (nb++s).length,St S [] [some (9,mc),none,some (1,[.int .u8 k]),none,none,some (1,(nb++s).map vb)]):=by
      rw [Kc (enc:=vb) (fun _=>rfl) (by simp; rfl) (by simp) (by omega) (by omega),ZF, <-List.map_append,YQ (by simp),qT,jH,lA]
      rfl
     refine bv hap2 ?_;refine QN ?_;refine bi hw ?_;have hbs:zG m (k+1)=nb++s:=by rw [hnx, <-hnb]; simp
     refine Jj [0,5] (by conv=>lhs; simp [Fr.oy]) hwf (by decide) (by simp [i1,r1,i2,r2]) (by conv=>lhs; simp [i1,r1,i2,r2]) (by conv=>lhs; simp [i1,r1,i2,r2]) (by conv=>lhs; simp [i1,r1,i2,r2]) ⟨?_,k+1,hkt,rfl,(by rw [hbs]; simp [hw]),(by rw [hbs]; simp)⟩;omega
   .have hke:k=12:=by omega
    subst hke;have hbw:qz m=cur:=hcur;rw [hbw] at qd qe her hd ⊢;refine bi hkt ?_;refine qi 4 rfl (frz1 (k:=1) (by simp) rfl (YH vb (fun _=>rfl) _) (by simp)) (by conv=>lhs; simp [Fr.set]) ?_;obtain ⟨⟨dm,df⟩,hdr⟩ : ∃ d,qo cur=d:=⟨_,rfl⟩
    rw [hdr] at qd qe ⊢;simp only at qd qe ⊢;obtain ⟨sb,hsb⟩ : ∃ sb,jcZ dm m=sb:=⟨_,rfl⟩
    rw [hsb] at qe;obtain ⟨e1,e2,e3⟩:=df;have hff:=Kt;have hag:qn true true [0,0,0] (.agg [.int .i64 e1, .int .i64 e2, .int .i64 e3]) (.agg [.int .i64 0, .int .i64 0, .int .i64 0])=some (.bool (!decide ((e1,e2,e3)=((0,0,0):Int × Int × Int)))):=by
     simp [qn,qu,qq]
     all_goals (by_cases z1:e1=0<;>by_cases z2:e2=0<;>simp [z1,z2])
    refine QP ?_;refine jA rfl qd ?_;refine QM (by conv=>lhs;simp[QV,jR,qh]) ?_;refine QN ?_;simp only [jR] at qe;by_cases hdf:(e1,e2,e3)=((0,0,0):Int × Int × Int)
    .rw [bf hdf] at hag;refine bk ?_;refine QP ?_ (r:=by conv=>lhs;simp[QV,hff,hag,modC]);refine jA rfl qe ?_;by_cases h1:sb=true
     .refine bv h1 ?_;refine bA ?_;rw [if_pos ⟨hdf,hsb.trans h1⟩];exact bw
     .have h1:sb=false:=by simpa using h1
      refine bv h1 ?_;refine bA ?_;rw [if_neg (fun h=>by rw [hsb,h1] at h; cases h.2)];exact qc hwf ((Ghost.tp [] [.int .i64 6] (Ghost.nl _)).toB _) (by simp)
    .rw [bg hdf] at hag;refine bk ?_;refine QY ?_ (r:=by conv=>lhs;simp[QV,hff,hag,modC]);refine bk ?_;rw [if_neg (fun h=>hdf h.1)];exact qc hwf ((Ghost.tp [] [.int .i64 6] (Ghost.nl _)).toB _) (by simp)
 .have h0:fw=false:=by simpa using h0
  subst h0;have her:zm m=([],6):=by simp only [zm,hfw]; rfl
  rw [her];refine QP ?_;refine jA rfl qf ?_;refine bz ?_;exact qc hwf ((Ghost.tp [] [.int .i64 6] (Ghost.nl _)).toB _) (by simp)
end Go.Vw
namespace Wm
structure Fm where
 out:List Int
 lab:List Int
 st:List Int
 dead:Bool
structure Ck where
 k:Nat
 op:Nat
 locals:List Int
 fs:List Fm
 ops:Nat
abbrev CR (α:Type):=Except Flt (α × Ck)
def Ck.flt (c:Ck) (e:Int):Flt:=(e,(c.k:Int),(c.op:Int))
def Wh (l:List Int) (c:Ck):Ck:=match c.fs with
 | []=>c
 | f::r=>{ c with fs:={ f with st:=f.st++l }::r }
def dieC (c:Ck):Ck:=match c.fs with
 | []=>c
 | f::r=>{ c with fs:={ f with st:=[],dead:=true }::r }
def popC (t:Int) (c:Ck):CR Int:=match c.fs with
 | [] => .ok (t,c)
 | f::r=>if f.st=[] then (if f.dead=true then .ok (t,c) else .error (c.flt 10))
  else if f.st.getLast?.getD 0=0 then .ok (t,{ c with fs:={ f with st:=f.st.dropLast }::r })
  else if t≠0/\f.st.getLast?.getD 0≠t then .error (c.flt 10)
  else .ok (f.st.getLast?.getD 0,{ c with fs:={ f with st:=f.st.dropLast }::r })
def zM:List Int->Ck->CR (List Int)
 | [],c => .ok ([],c)
 | t::l,c=>match zM l c with
  | .error e => .error e
  | .ok (xs,c1)=>match popC t c1 with
   | .error e => .error e
   | .ok (x,c2) => .ok (x::xs,c2)
def JS (n:Nat) (c:Ck):Except Flt (List Int):=match c.fs[n]? with
 | some f => .ok f.lab
 | none => .error (c.flt 9)
def KM (inn out lab:List Int) (c:Ck):Ck:={ c with fs:=⟨out,lab,inn,false⟩::c.fs }
def jbb (out:List Int) (at':Ck->Nat) (c:Ck):Except Flt Ck:=match zM out { c with op:=at' c } with
 | .error e => .error e
 | .ok (_,c1)=>match c1.fs with
  | [] => .ok c1
  | f::r=>if f.st=[] then .ok { c1 with fs:=r } else .error (c1.flt 10)
def u64 (t:Int):Nat:=(t % 18446744073709551616).toNat
def tabL (last:List Int):List Int->Ck->Except Flt Ck
 | [],c => .ok c
 | t::l,c=>match JS (u64 t) c with
  | .error e => .error e
  | .ok lab=>if lab.length≠last.length then .error (c.flt 10) else match zM lab c with
   | .error e => .error e
   | .ok (xs,c1)=>tabL last l (Wh xs c1)
def jbZ (l:List Int) (c:Ck):Except Flt Ck:=match popC 127 c with
 | .error e => .error e
 | .ok (_,c1)=>match JS (u64 (l.getLast?.getD 0)) c1 with
  | .error e => .error e
  | .ok last=>match tabL last l.dropLast c1 with
   | .error e => .error e
   | .ok c2=>match zM last c2 with
    | .error e => .error e
    | .ok (_,c3) => .ok (dieC c3)
def Zg (op:Int) (n:Nat) (ts:List Int) (c:Ck):Except Flt Ck :=
 if op=0 then .ok (dieC c)
 else if op=12 then match JS n c with
  | .error e => .error e
  | .ok l=>match zM l c with
   | .error e => .error e
   | .ok (_,c1) => .ok (dieC c1)
 else if op=13 then match JS n c with
  | .error e => .error e
  | .ok l=>match popC 127 c with
   | .error e => .error e
   | .ok (_,c1)=>match zM l c1 with
    | .error e => .error e
    | .ok (_,c2) => .ok (Wh l c2)
 else if op=14 then jbZ ts c
 else match zM ((c.fs.getLast?.map Fm.out).getD []) c with
  | .error e => .error e
  | .ok (_,c1) => .ok (dieC c1)
def KI (m:Mod) (n:Int):Sig × Bool :=
 if n<0\/(m.imports.length+m.funcs.length:Nat)<=n then (⟨[],[]⟩,false)
 else
  let t:=if n<m.imports.length then ((m.imports[n.toNat]?).map Import.type).getD 0 else ((m.funcs[(n-m.imports.length).toNat]?).map Func.type).getD 0
  if t<0\/(m.types.length:Int)<=t then (⟨[],[]⟩,false) else (m.types[t.toNat]?.getD ⟨[],[]⟩,true)
def varC (m:Mod) (op:Int) (n:Nat) (c:Ck):Except Flt (List Int × List Int) :=
 if op<35 then match c.locals[n]? with
  | none => .error (c.flt 9)
  | some t => .ok (if op=32 then ([],[t]) else if op=33 then ([t],[]) else ([t],[t]))
 else match m.globals[n]? with
  | none => .error (c.flt 9)
  | some g=>if op=35 then .ok ([],[g.type]) else if g.wr=true then .ok ([g.type],[]) else .error (c.flt 6)
def memC (m:Mod) (op:Int) (c:Ck):Except Flt (List Int × List Int) :=
 if m.pages<0 then .error (c.flt 9)
 else if op=63 then .ok ([],[127])
 else match Ss.accOf op with
  | none => .ok ([127],[127])
  | some a=>if a.store=true then .ok ([127,a.kind],[]) else .ok ([127],[a.kind])
def sigC (m:Mod) (op:Int) (n:Nat) (c:Ck):Except Flt (List Int × List Int) :=
 if op=1 then .ok ([],[])
 else if op=16 then (if (KI m (i64 n)).2=true then .ok ((KI m (i64 n)).1.inn,(KI m (i64 n)).1.out) else .error (c.flt 9))
 else if 32<=op/\op<=36 then varC m op n c
 else if 40<=op/\op<=64 then memC m op c
 else if op=65 then .ok ([],[127])
 else if op=66 then .ok ([],[126])
 else .ok ((Ss.bJ op).1,[(Ss.bJ op).2.1])
def ZS (m:Mod) (op:Int) (n:Nat) (ts:List Int) (c:Ck):Except Flt Ck :=
 if op=0\/op=12\/op=13\/op=14\/op=15 then Zg op n ts c
 else if op=26 then match popC 0 c with
  | .error e => .error e
  | .ok (_,c1) => .ok c1
 else if op=27 then match popC 127 c with
  | .error e => .error e
  | .ok (_,c1)=>match popC 0 c1 with
   | .error e => .error e
   | .ok (t,c2)=>match popC t c2 with
    | .error e => .error e
    | .ok (t',c3) => .ok (Wh [t'] c3)
 else match sigC m op n c with
  | .error e => .error e
  | .ok (i,o)=>match zM i c with
   | .error e => .error e
   | .ok (_,c1) => .ok (Wh o c1)
mutual
def insC (m:Mod):Ins->Ck->Except Flt Ck
 | .mk op n _ ty body els he ts,c =>
  let c:={ c with op:=c.ops,ops:=c.ops+1 }
  if op=2\/op=3\/op=4 then
   match (if op=4 then (popC 127 c).map (·.2) else Except.ok c) with
   | .error e => .error e
   | .ok c1=>match zM ty.inn c1 with
    | .error e => .error e
    | .ok (_,c2)=>match seqC m body (KM ty.inn ty.out (if op=3 then ty.inn else ty.out) c2) with
     | .error e => .error e
     | .ok c3=>match jbb ty.out (fun _=>c.op) c3 with
      | .error e => .error e
      | .ok c4=>match (if he=true then (match seqC m els (KM ty.inn ty.out (if op=3 then ty.inn else ty.out) c4) with
        | .error e=>Except.error e
        | .ok c5=>jbb ty.out (fun _=>c.op) c5) else Except.ok c4) with
       | .error e => .error e
       | .ok c6=>if op≠4\/he=true\/ty.inn=ty.out then .ok (Wh ty.out { c6 with op:=c.op }) else .error (({ c6 with op:=c.op }:Ck).flt 10)
  else ZS m op n ts c
def seqC (m:Mod):List Ins->Ck->Except Flt Ck
 | [],c => .ok c
 | x::xs,c=>match insC m x c with
  | .error e => .error e
  | .ok c1=>seqC m xs c1
end
def funC (m:Mod) (k:Nat) (f:Func):Except Flt Unit :=
 let s:=m.types[f.type.toNat]?.getD ⟨[],[]⟩
 match seqC m f.body (KM [] s.out s.out ⟨k,0,s.inn++f.locals,[],0⟩) with
 | .error e => .error e
 | .ok c=>(jbb s.out (fun c=>c.ops) c).map fun _=>()
def Yz (b:Bool) (e:Int):Except Flt Unit:=if b=true then .ok () else .error (e, -1,0)
def allC {α:Type} (p:α->Except Flt Unit):List α->Except Flt Unit
 | [] => .ok ()
 | x::xs=>match p x with
  | .error e => .error e
  | .ok _=>allC p xs
def jaT (m:Mod):Except Flt Unit:=match allC (fun x:Import=>Yz (decide (x.type<m.types.length)) 9) m.imports with
 | .error e => .error e
 | .ok _=>allC (fun f:Func=>match Yz (decide (f.type<m.types.length)) 9 with
  | .error e => .error e
  | .ok _=>Yz (decide ((((m.types[f.type.toNat]?.getD ⟨[],[]⟩).inn.length+f.locals.length:Nat):Int)<=32)) 7) m.funcs
def thereC (m:Mod) (k:Int):Option Nat:=if k=0 then some (m.imports.length+m.funcs.length) else if k=2 then some (if m.pages≥0 then 1 else 0) else if k=3 then some m.globals.length else none
def jbI (m:Mod):List (List Nat)->List Export->Except Flt Unit
 | _,[] => .ok ()
 | met,x::xs=>match thereC m x.kind with
  | none => .error (6, -1,0)
  | some n=>if x.n<n then (if x.name∈met then .error (12, -1,0) else jbI m (x.name::met) xs) else .error (9, -1,0)
def restC (m:Mod):Except Flt Unit:=match (if m.start ≠ -1 then (if (KI m m.start).2=true then Yz (decide ((KI m m.start).1.inn=[]/\(KI m m.start).1.out=[])) 10 else Except.error (9, -1,0)) else Except.ok ()) with
 | .error e => .error e
 | .ok _=>allC (fun d:Data=>match Yz (decide (0<=m.pages)) 9 with
  | .error e => .error e
  | .ok _=>Yz (decide (d.at'+(d.bytes.length:Int)<=m.pages*256)) 35) m.datas
def jdV (m:Mod):Nat->List Func->Except Flt Unit
 | _,[] => .ok ()
 | k,f::fs=>match funC m k f with
  | .error e => .error e
  | .ok _=>jdV m (k+1) fs
def typesC (m:Mod):Except Flt Unit:=match jaT m with
 | .error e => .error e
 | .ok _=>match jbI m [] m.exports with
  | .error e => .error e
  | .ok _=>match restC m with
   | .error e => .error e
   | .ok _=>jdV m 0 m.funcs
def jfa (m:Mod):Flt:=if few m=false then (7, -1,0) else if (zm m).2≠0 then ((zm m).2, -1,0) else match typesC m with
 | .error e=>e
 | .ok _=>(0,0,0)
structure okB (B:Nat) (c:Ck):Prop where
 n:c.fs.length<=1000000
 st : ∀ f∈c.fs,f.st.length<=B/\f.out.length<=4096/\f.lab.length<=4096
theorem okB.mono {B B':Nat} {c:Ck} (h:okB B c) (hb:B<=B'):okB B' c:=⟨h.n,fun f hf=>⟨aU (h.st f hf).1 hb,(h.st f hf).2⟩⟩
theorem apk {B:Nat} {c:Ck} {l:List Int} (h:okB B c):okB (B+l.length) (Wh l c):=by
 unfold Wh;cases hc:c.fs with
 | nil=>exact h.mono (by omega)
 | cons f r =>
  have h1:=h.n;have h2:=h.st;rw [hc] at h1 h2;refine ⟨by simpa using h1,fun g hg => ?_⟩;rcases aE.1 hg with rfl | hg
  .have:=h2 f (by simp); simp only [List.length_append]; exact ⟨by omega,this.2⟩
  .have:=h2 g (by simp [hg]); exact ⟨by omega,this.2⟩
theorem ar1 {B:Nat} {c:Ck} (h:okB B c):okB B (dieC c):=by
 unfold dieC;cases hc:c.fs with
 | nil=>exact h
 | cons f r =>
  have h1:=h.n;have h2:=h.st;rw [hc] at h1 h2;refine ⟨by simpa using h1,fun g hg => ?_⟩;rcases aE.1 hg with rfl | hg
  .have:=h2 f (by simp); exact ⟨by simp,this.2⟩
  .exact h2 g (by simp [hg])
theorem agz {B:Nat} {c c':Ck} {t x:Int} (h:okB B c) (hp:popC t c = .ok (x,c')):okB B c':=by
 unfold popC at hp;cases hc:c.fs with
 | nil=>rw [hc] at hp; cases hp; exact h
 | cons f r =>
  have h1:=h.n;have h2:=h.st;rw [hc] at h1 h2 hp;have key:okB B { c with fs:={ f with st:=f.st.dropLast }::r }:=by
   refine ⟨by simpa using h1,fun g hg => ?_⟩;rcases aE.1 hg with rfl | hg
   .have:=h2 f (by simp); exact ⟨by simp; omega,this.2⟩
   .exact h2 g (by simp [hg])
  simp only at hp
  repeat' (first | (split at hp))
  all_goals first | (cases hp; exact h) | (cases hp; exact key) | cases hp
theorem WE {B:Nat} : ∀ {l:List Int} {c c':Ck} {xs:List Int},okB B c->zM l c = .ok (xs,c')->okB B c'/\xs.length=l.length
 | [],c,c',xs,h,hp=>by cases hp; exact ⟨h,rfl⟩
 | t::l,c,c',xs,h,hp=>by
  simp only [zM] at hp;cases h1:zM l c with
  | error e=>rw [h1] at hp; cases hp
  | ok q =>
   obtain ⟨ys,c1⟩:=q;rw [h1] at hp;simp only at hp;cases h2:popC t c1 with
   | error e=>rw [h2] at hp; cases hp
   | ok q =>
    obtain ⟨y,c2⟩:=q;rw [h2] at hp;cases hp;obtain ⟨k1,k2⟩:=WE h h1;exact ⟨agz k1 h2,by simp [k2]⟩
structure SameK (c c':Ck):Prop where
 k:c'.k=c.k
 op:c'.op=c.op
 lo:c'.locals=c.locals
 ops:c'.ops=c.ops
 n:c'.fs.length=c.fs.length
theorem SameK.refl (c:Ck):SameK c c:=⟨rfl,rfl,rfl,rfl,rfl⟩
theorem SameK.trans {a b c:Ck} (h:SameK a b) (k:SameK b c):SameK a c:=⟨k.k.trans h.k,k.op.trans h.op,k.lo.trans h.lo,k.ops.trans h.ops,k.n.trans h.n⟩
theorem WY (l:List Int) (c:Ck):SameK c (Wh l c):=by
 unfold Wh;cases hc:c.fs<;>refine ⟨rfl,rfl,rfl,rfl, ?_⟩<;>simp [hc]
theorem jcy (c:Ck):SameK c (dieC c):=by
 unfold dieC;cases hc:c.fs<;>refine ⟨rfl,rfl,rfl,rfl, ?_⟩<;>simp [hc]
theorem Ki {t x:Int} {c c':Ck} (hp:popC t c = .ok (x,c')):SameK c c':=by
 unfold popC at hp;cases hc:c.fs with
 | nil=>rw [hc] at hp; cases hp; exact SameK.refl c
 | cons f r =>
  rw [hc] at hp;simp only at hp
  repeat' (first | (split at hp))
  all_goals first | (cases hp; exact SameK.refl c) | (cases hp; refine ⟨rfl,rfl,rfl,rfl, ?_⟩; simp [hc]) | cases hp
theorem zQ : ∀ {l xs:List Int} {c c':Ck},zM l c = .ok (xs,c')->SameK c c'
 | [],xs,c,c',hp=>by cases hp; exact SameK.refl c
 | t::l,xs,c,c',hp=>by
  simp only [zM] at hp;cases h1:zM l c with
  | error e=>rw [h1] at hp; cases hp
  | ok q =>
   obtain ⟨ys,c1⟩:=q;rw [h1] at hp;simp only at hp;cases h2:popC t c1 with
   | error e=>rw [h2] at hp; cases hp
   | ok q =>
    obtain ⟨y,c2⟩:=q;rw [h2] at hp;cases hp;exact (zQ h1).trans (Ki h2)
end Wm
namespace Go.Vw
open Go.RowKit
def jcV (o:Oper):Oper:={ o with op := .move (.const .nilFunc) }
def zr (ops:Array Oper) (j:Nat):Array Oper:=match ops[j]? with
 | some o=>ops.setIfInBounds j (jcV o)
 | none=>ops
theorem jaI {ops:Array Oper} {j:Nat} {o:Oper} (h:ops[j]? = some o) (i:Nat):(zr ops j)[i]? = if i=j then some (jcV o) else ops[i]? := by
 unfold zr;rw [h];have hj:=(Array.getElem?_eq_some_iff.1 h).1;simp only [Array.getElem?_setIfInBounds];by_cases e:j=i
 .subst e; simp [hj]
 .rw [if_neg e,if_neg (fun h=>e h.symm)]
theorem jdi {ops:Array Oper} {j:Nat} {o:Oper} (h:ops[j]? = some o) (listed:Array Bool) (i:Nat):i∈Region.ready .any (zr ops j) listed↔i∈Region.ready .any ops listed:=by
 rw [mem_ready,mem_ready,jaI h];by_cases e:i=j
 .subst e; simp [h,jcV]
 .rw [if_neg e]
theorem agd {ops:Array Oper} {j:Nat} {o:Oper} (h:ops[j]? = some o) (tmps:Array Value):yielded (zr ops j) tmps=yielded ops tmps:=by
 funext i
 unfold yielded;rw [jaI h];by_cases e:i=j
 .subst e; rw [if_pos rfl,h]; rfl
 .rw [if_neg e]
theorem aj9 {P:Program} {o:Oper} {a:Act} {w:World} {K K':Act->World->Prop} {Q Q':Exit->Act->World->Prop} (h : ∀ a w,K a w->K' a w) (hq : ∀ e a w,e ≠ .normal->Q e a w->Q' e a w) (hh:o.wp P a w K Q):o.wp P a w K' Q':=by
 unfold Oper.wp at *
 have hl:LetsOut Q->LetsOut Q':=fun ⟨a,w,h⟩=>⟨a,w,hq _ _ _ (by simp) h⟩
 generalize (execOp a.eval o).run P w=r at *
 cases r with
 | ok x w' =>
  cases x<;>simp only [Oper.upon] at hh ⊢ <;>
   first
    | exact h _ _ hh
    | exact Calls.mono hh (fun e w'' he=>by cases e<;>first | exact h _ _ he | exact hq _ _ _ (by simp) he | exact hl he)
    | exact Rows.mono hh (fun _ _ he=>h _ _ he)
 | halt x w'=>cases x<;>simp only [Oper.upon] at hh ⊢ <;> first | exact hq _ _ _ (by simp) hh | exact hh
theorem jew {ops:Array Oper} (hac : ∀ (i:Nat) o,ops[i]? = some o -> ∀ e∈o.after,e.on<i) {listed:Array Bool} (hsz:listed.size=ops.size) : ∀ i,listed.getD i true=false -> ∃ k,k∈Region.ready .any ops listed:=by
 intro i
 induction i using Nat.strongRecOn with
 | _ i ih =>
  intro hi;have hlt:i<ops.size:=by
   rcases bc i ops.size with h | h
   .exact h
   .simp [Array.getElem?_eq_none (show listed.size<=i by omega)] at hi
  have ho:ops[i]? = some ops[i]:=Array.getElem?_eq_getElem hlt;by_cases hall : ∀ e∈ops[i].after,Region.binds .any e=true->listed.getD e.on false=true
  .exact ⟨i,mem_ready.2 ⟨hi,_,ho,hall⟩⟩
  .simp only [Classical.not_forall] at hall;obtain ⟨e,he,hb,hn⟩:=hall;have hlt2:=hac i _ ho e he;refine ih e.on hlt2 ?_;have:e.on<listed.size:=by omega
   simp [this] at hn ⊢;exact hn
theorem atc {P:Program} {ops:Array Oper} {j:Nat} {oj:Oper} {Q Q2:Exit->Act->World->Prop} (hj:ops[j]? = some oj) (hd:oj.dst=none) (hg:oj.guard=none) (hlast : ∀ i,i≠j->i<ops.size -> ∃ M,Jm ops i M j=true) (hac : ∀ (i:Nat) o,ops[i]? = some o -> ∀ e∈o.after,e.on<i)
  (hP : ∀ a w K,Q2 .normal a w->oj.wp P a w K Q) (hQ : ∀ e a w,e ≠ .normal->Q2 e a w->Q e a w) (hout : ¬ LetsOut Q2) : ∀ (fuel:Nat) (listed:Array Bool) (a:Act) (w:World),zn ops listed->listed.size=ops.size->listed.getD j true=false ->
   wpAny P .any (zr ops j) Q2 fuel listed a w->wpAny P .any ops Q fuel listed a w:=by
 intro fuel
 induction fuel with
 | zero =>
  intro listed a w hcl hsz hun h;obtain ⟨k,hk⟩:=jew hac hsz j hun;have:=(jdi hj listed k).2 hk;rw [h.1] at this;cases this
 | succ fuel ih =>
  intro listed a w hcl hsz hun h;refine ⟨fun hr => ?_,fun i hi => ?_⟩
  .obtain ⟨k,hk⟩:=jew hac hsz j hun;rw [hr] at hk; cases hk
  .have h2:=h.2 i ((jdi hj listed i).2 hi);unfold wpOp at h2 ⊢;by_cases e:i=j
   .subst e;have e2:(zr ops i)[i]? = some (jcV oj):=by rw [jaI hj,if_pos rfl]
    rw [e2] at h2;rw [hj];simp only at h2 ⊢;have hw : ∀ (o:Oper) y,o.guard=none->Region.wanted o y=true:=fun o y h=>by simp [Region.wanted,h]
    rw [if_pos (hw _ _ hg)];rw [if_pos (hw _ _ (show (jcV oj).guard=none from hg))] at h2;rcases h2 with h2 | ⟨_,h2⟩
    .refine .inl (hP a w _ ?_);have h3:wpAny P .any (zr ops i) Q2 fuel (listed.setIfInBounds i true) (a.put (jcV oj).dst .nilFunc) w:=h2;rw [show (jcV oj).dst=none from hd] at h3;have h3:wpAny P .any (zr ops i) Q2 fuel (listed.setIfInBounds i true) a w:=h3;have hall:Region.ready .any (zr ops i) (listed.setIfInBounds i true)=[]:=by
      refine List.eq_nil_iff_forall_not_mem.2 fun k hk => ?_;have hk:=(jdi hj _ k).1 hk;obtain ⟨hk1,ok,hk2,_⟩:=mem_ready.1 hk;have hklt:=(Array.getElem?_eq_some_iff.1 hk2).1;by_cases hki:k=i
      .subst hki;have:k<listed.size:=by omega
       simp [this] at hk1
      .obtain ⟨M,hM⟩:=hlast k hki hklt;have h4:=Yt hcl hi hM;have:k<listed.size:=by omega
       simp [this,Ne.symm hki] at hk1 h4;rw [h4] at hk1; cases hk1
     cases fuel with
     | zero=>exact h3.2
     | succ n=>exact h3.1 hall
    .exact absurd h2 hout
   .have e2:(zr ops j)[i]? = ops[i]? := by rw [jaI hj,if_neg e]
    rw [e2,agd hj] at h2;have hnext : ∀ a w,wpAny P .any (zr ops j) Q2 fuel (listed.setIfInBounds i true) a w->wpAny P .any ops Q fuel (listed.setIfInBounds i true) a w:=fun a w hh =>
     ih _ a w (JD hcl hi) (by simp [hsz]) (by rw [getD_set_ne true e]; exact hun) hh
    cases ho:ops[i]? with
    | none=>rw [ho] at h2; exact hnext _ _ h2
    | some o =>
     rw [ho] at h2;simp only at h2 ⊢;split
     .rename_i hw;rw [if_pos hw] at h2;rcases h2 with h2 | ⟨_,h2⟩
      .exact .inl (aj9 hnext hQ h2)
      .exact absurd h2 hout
     .rename_i hw;rw [if_neg hw] at h2;exact hnext _ _ h2
section
variable {P:Program} {N b:Nat} {Qx:Exit->Fr->Store->Prop}
def acyc (ops:Array Oper):Bool:=(List.range ops.size).all fun i=>match ops[i]? with
 | some o=>o.after.all fun e=>decide (e.on<i)
 | none=>true
theorem XDP {σ σ':Fr} {S S':Store} {c:Code} {cs0 l rest:List CO} {ms:List Nat} {oj:Oper} {x:Arg} (E:EP) (Z:ZX) (j:Nat) (ord:List Nat) (h:Code.kind c=2:=by exact rfl) (hm:P.follows .mixedOrders=true:=by kernel_rfl) (hj:(Code.ops c)[j]? = some oj:=by exact rfl) (hco:Wt P oj=some (.panic x):=by (conv=>lhs; reduce)) (hd:oj.dst=none:=by exact rfl) (hg:oj.guard=none:=by exact rfl)
  (hc:(zX (zr (Code.ops c) j),qj P N (zr (Code.ops c) j))=(ms,some cs0):=by (conv=>lhs; reduce)) (hl:ord.filterMap (fun i=>(cs0.map (CO.tr []))[i]?)=l:=by (conv=>lhs; reduce)) (hll:(l.length==ord.length)=true:=by kernel_rfl) (hQ : ∀ ch σ S,E ch S->Qx (.panic ch) σ S:=by exact fun _ _ _ h=>h)
  (hord:(ord.length==(zr (Code.ops c) j).size)=true:=by kernel_rfl) (hB:lexX [] ms (zr (Code.ops c) j) (cs0.map (CO.tr [])) ord (Array.replicate (zr (Code.ops c) j).size false)=true:=by kernel_rfl) (hlast:(!Z.lx||jfQ ms (zr (Code.ops c) j).size ord.getLast?)=true:=by kernel_rfl) (hac:acyc (Code.ops c)=true:=by kernel_rfl) (hlj:((List.range (Code.ops c).size).all fun i=>i==j||jbi (zX (Code.ops c)) i j)=true:=by kernel_rfl) (ho:Z.old) (hz:Z.ok S) (r:runV (some (zz Z S)) l σ S=some (rest,σ',S')) (hmm:Ze l rest=true:=by kernel_rfl)
  (k:zf P Z (fun _ _=>False) [] rest (fun σ S=>vopX P E σ S (.panic x) fun _ _=>False) σ' S'):VWp P N b c Qx σ S:=by
 cases c with
 | region id ops d =>
  cases d
  .simp [Code.kind] at h
  .simp only [Code.ops,Prod.mk.injEq] at hc hord hB hj hac hlj hlast;obtain ⟨rfl,hc⟩:=hc;have hll:=eq_of_beq hll;have hl':=Ku hl hll;have hac' : ∀ (i:Nat) o,ops[i]? = some o -> ∀ e∈o.after,e.on<i:=by
    intro i o hi e he;have h1:=ax.1 hac i (List.mem_range.2 (Array.getElem?_eq_some_iff.1 hi).1);rw [hi] at h1;have:=Array.all_eq_true_iff_forall_mem.1 h1 e he;simpa using this
   have hlast' : ∀ i,i≠j->i<ops.size -> ∃ M,Jm ops i M j=true:=fun i hij hi=>by
    simp only [ax,List.mem_range,aX,beq_iff_eq] at hlj;exact zK ((hlj i hi).resolve_left hij)
   intro m β w a hS hF;obtain ⟨hlen0,_⟩:=YF hc;have hlen:(cs0.map (CO.tr [])).length=(zr ops j).size:=by rw [aB]; exact hlen0
   refine wp_region_any hm ?_;have hsz:(zr ops j).size=ops.size:=by unfold zr; rw [hj]; simp
   have hcl2:zn (zr ops j) (Array.replicate (zr ops j).size false):=by
    intro i o ho hi;have:i<(zr ops j).size:=(Array.getElem?_eq_some_iff.1 ho).1;simp [this] at hi
   have hcl:zn ops (Array.replicate ops.size false):=by
    intro i o ho hi;have:i<ops.size:=(Array.getElem?_eq_some_iff.1 ho).1;simp [this] at hi
   have hlk : ∀ j',(if Z.lx=true then ord.getLast? else none)=some j' -> ∀ i,i≠j'->i<(zr ops j).size -> ∃ M,Jm (zr ops j) i M j'=true:=by
    intro j' hj' i hij hi;split at hj'
    .rename_i hz;rw [hz,hj'] at hlast;simp only [jfQ,Bool.not_true,Bool.false_or,ax,List.mem_range,aX,beq_iff_eq] at hlast;exact zK ((hlast i hi).resolve_left hij)
    .cases hj'
   have:=jbe (P:=P) (Z:=Z) (E:=fun _ _=>False) (fs:=[]) (Q:=fun τ S => ∃ σ':Fr,σ'.lk=τ/\vopX P E σ' S (.panic x) fun _ _=>False) (lk:=if Z.lx=true then ord.getLast? else none) ho hlk hlen ord l (Array.replicate (zr ops j).size false) σ.lk S hl' hll (fun hz k hk=>by rw [if_pos hz]; exact hk) hcl2 hz.n hB (KS l σ S (WZ l σ r hmm k));rw [show ord.length=(zr ops j).size by simpa using hord] at this;have h2:=ZK (N:=N) (b:=b) (E:=fun _ _=>False) (Qx:=fun e σ S=>e = .normal/\vopX P E σ S (.panic x) fun _ _=>False) hc [] rfl (fun _ _ _ h=>False.elim h) (m0:=m) (β0:=β) (w0:=w) (zr ops j).size _ σ S m β { w with drawn:=w.drawn+1 } a (by simpa using this) hz hS.drew hF ((Ext.drew m β w).toB b);rw [hsz] at h2;refine atc (Q2:=Post N b (fun e σ S=>e = .normal/\vopX P E σ S (.panic x) fun _ _=>False) m β w) hj hd hg hlast' hac' ?_ ?_ ?_ _ _ _ _ hcl (by simp) (by simp [(Array.getElem?_eq_some_iff.1 hj).1]) h2
   .rintro a' w' K ⟨σ1,S1,m1,β1,⟨_,q⟩,r1,r2,r3⟩;exact KU hco (fun t ht=>by rw [hd] at ht; cases ht) q r1 r2 r3 (fun x S' m' β' w' a' k1=>k1.elim) fun ch S' m' β' w' k1 k2 k3 k4=>⟨σ1,S',m',β',hQ _ _ _ k1,k2,k3,k4⟩
   .rintro e a' w' hne ⟨σ1,S1,m1,β1,⟨he,_⟩,_⟩;exact absurd he hne
   .rintro ⟨a',w',σ1,S1,m1,β1,⟨he,_⟩,_⟩;cases he
 | _=>simp [Code.kind] at h
end
abbrev Fr0 (ro:Option Nat):Fence:={ Fence.wide with round:=ro }
def Op.isDefer:Op->Bool
 | .defer _=>true
 | _=>false
section
variable {P:Program} {ro:Option Nat} {ops:Array Oper} {Q:Exit->Act->World->Prop}
theorem aap {o:Oper} (hd:Op.isDefer o.op=false) {a:Act} {w:World} {next next':Act->World->Prop} (hn : ∀ a w,next a w->next' a w) (h:o.wp P a w next Q):o.wpIn (Fr0 ro) 0 P a w next' Q:=by
 refine ⟨fun _ _=>trivial, ?_⟩;rw [Oper.semAt_eq _ _ _ (fun c hc=>by rw [hc] at hd; cases hd)];unfold Oper.wp at h;generalize (execOp a.eval o).run P w=r at h ⊢;cases r with
 | ok n w' =>
  cases n with
  | enter f args =>
   simp only [Oper.upon,Oper.uponIn] at h ⊢;refine ⟨fun hx=>(by cases hx),CallsIn.mono (F:=Fence.wide) (callsIn_wide.2 h) fun e w'' he => ?_⟩;cases e with
   | returned x=>exact hn _ _ he
   | panicked ch=>exact he
   | outgrown=>exact he
  | row row args =>
   simp only [Oper.upon,Oper.uponIn] at h ⊢;refine ⟨fun hx=>(by cases hx),fun c cs _ => ?_⟩;obtain ⟨v,w1,k1,k2⟩:=h c cs;exact ⟨v,w1,hn _ _ k1,stepsIn_wide.2 k2⟩
  | value x=>exact hn _ _ h
  | skip=>exact hn _ _ h
  | defer d=>exact hn _ _ h
  | _=>exact h.elim
 | halt x w' =>
  cases x<;>first | exact h | exact h.elim
theorem jfM (hout : ¬ LetsOut Q) : ∀ (l:List Oper) (a:Act) (w:World),(∀ o∈l,Op.isDefer o.op=false)->wpList P ops Q l a w->wpListIn (Fr0 ro) 0 P ops Q l a w
 | [],a,w,_,h=>h
 | o::l,a,w,hl,h=>by
  simp only [wpList,wpListIn] at h ⊢;split
  .rename_i hw;rw [if_pos hw] at h;rcases h with h | ⟨_,h⟩
   .exact aap (hl o (by simp)) (fun a w h=>jfM hout l a w (fun o ho=>hl o (by simp [ho])) h) h
   .exact absurd h hout
  .rename_i hw;rw [if_neg hw] at h;exact ⟨fun _ _=>trivial,jfM hout l _ w (fun o ho=>hl o (by simp [ho])) h⟩
theorem aw1 {i:Nat} {a:Act} {w:World} {K K':Act->World->Prop} (hout : ¬ LetsOut Q) (hd : ∀ o,ops[i]? = some o->Op.isDefer o.op=false) (hn : ∀ a w,K a w->K' a w) (h:wpOp P ops Q i K a w):wpOpIn (Fr0 ro) 0 P ops Q i K' a w:=by
 unfold wpOp at h;unfold wpOpIn;cases ho:ops[i]? with
 | none=>simp only [ho] at h ⊢; exact hn _ _ h
 | some o =>
  simp only [ho] at h ⊢;split
  .rename_i hw;rw [if_pos hw] at h;rcases h with h | ⟨_,h⟩
   .exact aap (hd o ho) hn h
   .exact absurd h hout
  .rename_i hw;rw [if_neg hw] at h;exact ⟨fun _ _=>trivial,hn _ _ h⟩
theorem am7 (hout : ¬ LetsOut Q) (hd : ∀ (i:Nat) o,ops[i]? = some o->Op.isDefer o.op=false) {md:Region.Mode} : ∀ (fuel:Nat) (listed:Array Bool) (a:Act) (w:World),wpAny P md ops Q fuel listed a w->wpAnyIn (Fr0 ro) 0 P md ops Q fuel listed a w
 | 0,listed,a,w,h=>h
 | fuel+1,listed,a,w,h=>⟨h.1,fun i hi=>aw1 hout (hd i) (fun a w h=>am7 hout hd fuel _ a w h) (h.2 i hi)⟩
end
section
variable {P:Program} {N b l:Nat} {Q:Exit->Fr->Store->Prop} {σ:Fr} {S:Store}
def VWpN (P:Program) (N b l:Nat) (c:Code) (Q:Exit->Fr->Store->Prop) (σ:Fr) (S:Store):Prop :=
 ∀ m β w a,Holds S m β w->FrameRep N m β σ a->c.wpIn (Fr0 (some l)) 0 P (Post N b Q m β w) a w
theorem anj {c:Code} (h:Code.kind c=3) (H:VWpN P N b l (Code.fst c) (jaa (VWpN P N b l (Code.snd c) Q) Q) σ S):VWpN P N b l c Q σ S:=by
 cases c with
 | seq x y =>
  intro m β w a hS hF;refine wpIn_seq (wpIn_mono (H m β w a hS hF) ?_);rintro e a' w' ⟨σ',S',m',β',q,r1,r2,r3⟩;cases e with
  | normal =>
   refine wpIn_mono (q m' β' w' a' r1 r2) ?_;rintro e a'' w'' ⟨σ1,S1,m1,β1,q1,t1,t2,t3⟩;exact ⟨σ1,S1,m1,β1,q1,t1,t2,r3.trans t3⟩
  | exit id=>exact ⟨σ',S',m',β',q,r1,r2,r3⟩
  | goto l=>exact ⟨σ',S',m',β',q,r1,r2,r3⟩
  | ret=>exact ⟨σ',S',m',β',q,r1,r2,r3⟩
  | panic ch=>exact ⟨σ',S',m',β',q,r1,r2,r3⟩
  | outgrown=>exact ⟨σ',S',m',β',q,r1,r2,r3⟩
 | region id ops d=>cases d<;>simp [Code.kind] at h
 | _=>simp [Code.kind] at h
theorem afn {c:Code} (id:Nat) (h:Code.kind c=5) (hi:Code.id c=id) (H:VWpN P N b l (Code.inner c) (YB id Q) σ S):VWpN P N b l c Q σ S:=by
 cases c with
 | block i x =>
  simp only [Code.id] at hi;subst hi;intro m β w a hS hF;refine wpIn_block (wpIn_mono (H m β w a hS hF) ?_);rintro e a' w' ⟨σ',S',m',β',q,r1,r2,r3⟩;cases e with
  | exit id' =>
   simp only [Exit.inBlock,YB] at q ⊢;split
   .rename_i e; rw [if_pos e] at q; exact ⟨σ',S',m',β',q,r1,r2,r3⟩
   .rename_i e; rw [if_neg e] at q; exact ⟨σ',S',m',β',q,r1,r2,r3⟩
  | normal=>exact ⟨σ',S',m',β',q,r1,r2,r3⟩
  | goto l=>exact ⟨σ',S',m',β',q,r1,r2,r3⟩
  | ret=>exact ⟨σ',S',m',β',q,r1,r2,r3⟩
  | panic ch=>exact ⟨σ',S',m',β',q,r1,r2,r3⟩
  | outgrown=>exact ⟨σ',S',m',β',q,r1,r2,r3⟩
 | region id ops d=>cases d<;>simp [Code.kind] at h
 | _=>simp [Code.kind] at h
theorem jeq {c:Code} (E:EP) (hQ : ∀ ch σ S,E ch S->Q (.panic ch) σ S) (hQo : ∀ σ S, ¬ Q .outgrown σ S) (hd:(Code.ops c).toList.all (fun o => !Op.isDefer o.op)=true) (h:Code.kind c=1) {cs:List CO} (hc:qj P N (Code.ops c)=some cs) (H:qF P E cs (Q .normal) σ S) :
  VWpN P N b l c Q σ S:=by
 cases c with
 | region id ops d =>
  cases d
  .intro m β w a hS hF;exact wpIn_region_list (jfM (Zw hQo) ops.toList a w (fun o ho=>by simpa using ax.1 hd o ho) (Jz hQ ops.toList cs σ S m β w a hc H hS hF (ExtB.refl _ _ _ _)))
  .simp [Code.kind] at h
 | _=>simp [Code.kind] at h
theorem ap1 {c:Code} {cs0 l':List CO} {ms:List Nat} (E:EP) (Z:ZX) (fz ord fs:List Nat) (h:Code.kind c=2) (hm:P.follows .mixedOrders=true) (hc:(zX (Code.ops c),qj P N (Code.ops c))=(ms,some cs0)) (hl:ord.filterMap (fun i=>(cs0.map (CO.tr fz))[i]?)=l') (hll:(l'.length==ord.length)=true) (hQ : ∀ ch σ S,E ch S->Q (.panic ch) σ S) (hQo : ∀ σ S, ¬ Q .outgrown σ S) (hd:(Code.ops c).toList.all (fun o => !Op.isDefer o.op)=true)
  (hord:(ord.length==(Code.ops c).size)=true) (hB:lexX fs ms (Code.ops c) (cs0.map (CO.tr fz)) ord (Array.replicate (Code.ops c).size false)=true) (hlast:(!Z.lx||jfQ ms (Code.ops c).size ord.getLast?)=true) (ho:Z.old) (hz:Z.ok S) (r:zf P Z E fs l' (Q .normal) σ S):VWpN P N b l c Q σ S:=by
 cases c with
 | region id ops d =>
  cases d
  .simp [Code.kind] at h
  .simp only [Code.ops,Prod.mk.injEq] at hc hord hB hd;obtain ⟨rfl,hc⟩:=hc;have hll:=eq_of_beq hll;have hl':=Ku hl hll;intro m β w a hS hF;obtain ⟨hlen0,_⟩:=YF hc;have hlen:(cs0.map (CO.tr fz)).length=ops.size:=by rw [aB]; exact hlen0
   have hd' : ∀ (i:Nat) o,ops[i]? = some o->Op.isDefer o.op=false:=fun i o ho=>by
    have:=ax.1 hd o (by
     have:=Array.mem_of_getElem? ho;simpa using this)
    simpa using this
   refine wpIn_region_any hm (am7 (Zw hQo) hd' _ _ _ _ ?_);have hcl:zn ops (Array.replicate ops.size false):=by
    intro i o ho hi;have:i<ops.size:=(Array.getElem?_eq_some_iff.1 ho).1;simp [this] at hi
   have hlk : ∀ j,(if Z.lx=true then ord.getLast? else none)=some j -> ∀ i,i≠j->i<ops.size -> ∃ M,Jm ops i M j=true:=by
    intro j hj i hij hi;split at hj
    .rename_i hz;rw [hz,hj] at hlast;simp only [jfQ,Bool.not_true,Bool.false_or,ax,List.mem_range,aX,beq_iff_eq] at hlast;exact zK ((hlast i hi).resolve_left hij)
    .cases hj
   have:=jbe (P:=P) (Z:=Z) (E:=E) (lk:=if Z.lx=true then ord.getLast? else none) ho hlk hlen ord l' (Array.replicate ops.size false) σ.lk S hl' hll (fun hz k hk=>by rw [if_pos hz]; exact hk) hcl hz.n hB (KS l' σ S r);rw [show ord.length=ops.size by simpa using hord] at this;exact ZK hc fz rfl hQ ops.size _ σ S m β _ a this hz hS.drew hF ((Ext.drew m β w).toB b)
 | _=>simp [Code.kind] at h
end
structure LoopAt (l r:Nat) (rec:Loop) (m:Imm) (β:Objs) (w:World):Prop where
 hl:w.heap[l]? = some (.loop rec)
 hr:w.heap[r]? = some (.deferred (some []))
 ml:m l=none
 mr:m r=none
 bl : ∀ o,(β o).block? ≠ some l
 br : ∀ o,(β o).block? ≠ some r
theorem LoopAt.ext {b l r:Nat} {rec:Loop} {m m':Imm} {β β':Objs} {w w':World} (h:LoopAt l r rec m β w) (he:ExtB b m β w m' β' w'):LoopAt l r rec m' β' w':=by
 obtain ⟨l1,l2,l3⟩:=he.keep l (Array.getElem?_eq_some_iff.1 h.hl).1 h.ml h.bl;obtain ⟨r1,r2,r3⟩:=he.keep r (Array.getElem?_eq_some_iff.1 h.hr).1 h.mr h.br;exact ⟨l1.trans h.hl,r1.trans h.hr,l2,r2,l3,r3⟩
theorem Jd {S:Store} {m:Imm} {β:Objs} {w:World} (h:Holds S m β w) {k:Nat} (o:Obj) (hm:m k=none) (hb : ∀ o,(β o).block? ≠ some k):Holds S m β (w.putObj k o) :=
 h.world (fun b o' hb'=>World.putObj_heap_other (fun e=>by rw [e,hm] at hb'; cases hb')) (fun o' b hb'=>World.putObj_heap_other (fun e=>hb o' (by rw [hb',e])))
def roundPostX (P:Program) (l:Nat) (R:Ending->World->Prop):Exit->Act->World->Prop
 | .normal,_,w => ∃ v w',(Instr.endRound l none).run P w = .ok v w'/\R (.returned v) w'
 | .panic ch,a,w=>a.defers=[]/\R (.panicked ch) w
 | _,_,_=>False
theorem alj {P:Program} {l:Nat} {f:FuncId} {fn:Func} {tmps:Array Value} {assign body:Code} {w:World} {R:Ending->World->Prop} (hf:P.funcs[f]? = some fn)
  (h:assign.wpIn (Fr0 (some l)) 0 P (Exit.then (fun a₁ w₁ => ∃ w₂,(Instr.beginRound l).run P w₁ = .ok () w₂/\body.wpIn (Fr0 (some l)) 0 P (roundPostX P l R) a₁ w₂) (fun _ _ _=>False)) { tmps:=tmps,defers:=[] } w) :
  RoundIn Fence.wide 0 P l f tmps assign body w R:=by
 refine ⟨trivial,fun c cs _ => ?_⟩
 let b:Frame:={ (default:Frame) with fn:=f,kind := .normal,roundOf:=some l }
 have hb0:Frame.round l f tmps assign body .normal=b.atR { tmps:=tmps,defers:=[] } [.code assign, .beginRound, .code body]:=by
  simp [Frame.round,Frame.atR,b]
 have hw : ∀ n,(Fr0 (some l)).room n:=fun n d hd=>by cases hd
 obtain ⟨e,a₁,w₁,hq,harr⟩:=h b [.beginRound, .code body] (c::cs) rfl trivial (hw _);rw [<-hb0] at harr;cases e with
 | normal =>
  obtain ⟨w₂,hbr,hbody⟩:=hq;have s1:StepsIn (Machine.fenced P (Fr0 (some l))) P (lone (b.atR a₁ [.beginRound, .code body]) (c::cs) w₁) (lone (b.atR a₁ [.code body]) (c::cs) w₂) :=
   .one (fenced_calm (n:=0) (fr:=b.atR a₁ [.beginRound, .code body]) (F:=Fr0 (some l)) trivial (hw _) rfl) (stepR_beginRound rfl hbr)
  obtain ⟨e₂,a₂,w₃,hq₂,harr₂⟩:=hbody b [] (c::cs) rfl trivial (hw _);cases e₂ with
  | normal =>
   obtain ⟨v,w₄,hend,hR⟩:=hq₂;exact ⟨.returned v,w₄,hR,(StepsIn.trans harr s1).trans (StepsIn.trans harr₂ (.one (fenced_calm (n:=0) (fr:=b.atR a₂ []) (F:=Fr0 (some l)) trivial (hw _) rfl) (stepR_round_end rfl rfl hend)))⟩
  | panic ch =>
   obtain ⟨hdf,hR⟩:=hq₂;obtain ⟨todo,hs⟩:=harr₂;have hlv:Frame.leaving P { b.atR a₂ todo with mode := .panicking ch } w₃ (.panicked ch):=⟨rfl,hdf,fn,hf⟩
   exact ⟨.panicked ch,w₃,hR,(StepsIn.trans harr s1).trans (StepsIn.trans hs (.one (fenced_leaving (n:=0) (F:=Fr0 (some l)) trivial (hw _) hlv) (step_leave_panicked hlv)))⟩
  | _=>exact hq₂.elim
 | _=>exact hq.elim
theorem afi {w:World} {l:Nat} {o:Obj} (h:w.heap[l]? = some o):w.putObj l o=w:=by
 obtain ⟨hlt,h⟩:=Array.getElem?_eq_some_iff.1 h;have:w.heap.setIfInBounds l o=w.heap:=by
  apply Array.ext (by simp)
  intro i h1 h2;rw [Array.getElem_setIfInBounds];split
  .rename_i e; subst e; exact h.symm
  .rfl
 simp only [World.putObj,this]
def ExtL (l b:Nat) (m0:Imm) (β0:Objs) (w0:World) (m:Imm) (β:Objs) (w:World):Exit->Prop
 | .panic _ => ∃ o,ExtB b m0 β0 (w0.putObj l o) m β w
 | _=>ExtB b m0 β0 w0 m β w
def PostR (N l b:Nat) (Q:Exit->Fr->Store->Prop) (m0:Imm) (β0:Objs) (w0:World) (e:Exit) (a':Act) (w':World):Prop :=
 ∃ σ' S' m' β',Q e σ' S'/\Holds S' m' β' w'/\FrameRep N m' β' σ' a'/\ExtL l b m0 β0 w0 m' β' w' e
def VWpR (P:Program) (N l b:Nat) (m0:Imm) (β0:Objs) (w0:World) (c:Code) (Q:Exit->Fr->Store->Prop) (σ:Fr) (S:Store):Prop :=
 ∀ m β w a,Holds S m β w->FrameRep N m β σ a->ExtB b m0 β0 w0 m β w->c.wp P (PostR N l b Q m0 β0 w0) a w
section
variable {P:Program} {N l r b:Nat} {rec:Loop} {m0:Imm} {β0:Objs} {w0:World} {Q:Exit->Fr->Store->Prop} {σ:Fr} {S:Store}
theorem ExtB.toL (hL:LoopAt l r rec m0 β0 w0) {m:Imm} {β:Objs} {w:World} (h:ExtB b m0 β0 w0 m β w) (e:Exit):ExtL l b m0 β0 w0 m β w e:=by
 cases e<;>first | exact h | exact ⟨.loop rec,by rw [afi hL.hl]; exact h⟩
theorem Post.toR (hL:LoopAt l r rec m0 β0 w0) {e:Exit} {a:Act} {w:World} (h:Post N b Q m0 β0 w0 e a w):PostR N l b Q m0 β0 w0 e a w:=by
 obtain ⟨σ',S',m',β',q,r1,r2,r3⟩:=h;exact ⟨σ',S',m',β',q,r1,r2,r3.toL hL e⟩
theorem jcN (hL:LoopAt l r rec m0 β0 w0) {c:Code} (h:VWp P N b c Q σ S):VWpR P N l b m0 β0 w0 c Q σ S:=by
 intro m β w a hS hF he;refine wp_mono (h m β w a hS hF) ?_;rintro e a' w' ⟨σ',S',m',β',q,r1,r2,r3⟩;exact ⟨σ',S',m',β',q,r1,r2,(he.trans r3).toL hL e⟩
theorem KZ {c:Code} (h:Code.kind c=3) (H:VWpR P N l b m0 β0 w0 (Code.fst c) (jaa (VWpR P N l b m0 β0 w0 (Code.snd c) Q) Q) σ S):VWpR P N l b m0 β0 w0 c Q σ S:=by
 cases c with
 | seq x y =>
  intro m β w a hS hF he;refine wp_seq (wp_mono (H m β w a hS hF he) ?_);rintro e a' w' ⟨σ',S',m',β',q,r1,r2,r3⟩;cases e with
  | normal=>exact q m' β' w' a' r1 r2 r3
  | exit id=>exact ⟨σ',S',m',β',q,r1,r2,r3⟩
  | goto l=>exact ⟨σ',S',m',β',q,r1,r2,r3⟩
  | ret=>exact ⟨σ',S',m',β',q,r1,r2,r3⟩
  | panic ch=>exact ⟨σ',S',m',β',q,r1,r2,r3⟩
  | outgrown=>exact ⟨σ',S',m',β',q,r1,r2,r3⟩
 | region id ops d=>cases d<;>simp [Code.kind] at h
 | _=>simp [Code.kind] at h
theorem jcO {c:Code} (id:Nat) (h:Code.kind c=5) (hi:Code.id c=id) (H:VWpR P N l b m0 β0 w0 (Code.inner c) (YB id Q) σ S):VWpR P N l b m0 β0 w0 c Q σ S:=by
 cases c with
 | block i x =>
  simp only [Code.id] at hi;subst hi;intro m β w a hS hF he;refine wp_block (wp_mono (H m β w a hS hF he) ?_);rintro e a' w' ⟨σ',S',m',β',q,r1,r2,r3⟩;cases e with
  | exit id' =>
   simp only [Exit.inBlock,YB] at q ⊢;split
   .rename_i e; rw [if_pos e] at q; exact ⟨σ',S',m',β',q,r1,r2,r3⟩
   .rename_i e; rw [if_neg e] at q; exact ⟨σ',S',m',β',q,r1,r2,r3⟩
  | normal=>exact ⟨σ',S',m',β',q,r1,r2,r3⟩
  | goto l=>exact ⟨σ',S',m',β',q,r1,r2,r3⟩
  | ret=>exact ⟨σ',S',m',β',q,r1,r2,r3⟩
  | panic ch=>exact ⟨σ',S',m',β',q,r1,r2,r3⟩
  | outgrown=>exact ⟨σ',S',m',β',q,r1,r2,r3⟩
 | region id ops d=>cases d<;>simp [Code.kind] at h
 | _=>simp [Code.kind] at h
theorem ahn {c:Code} (ks:List Nat) (h:Code.kind c=6) (I:Nat->Fr->Store->Prop) (n0:Nat) (h0:I n0 (σ.oy ks) S)
  (round : ∀ n σ S,I n σ S->VWpR P N l b m0 β0 w0 (Code.inner c) (jaa (fun σ' S' => ∃ n',n'<n/\I n' (σ'.oy ks) S') Q) σ S):VWpR P N l b m0 β0 w0 c Q σ S:=by
 cases c with
 | loop x =>
  intro m β w a hS hF he;refine ZW (fun n a' w' => ∃ σ' S' m' β',I n σ' S'/\Holds S' m' β' w'/\FrameRep N m' β' σ' a'/\ExtB b m0 β0 w0 m' β' w') n0 ⟨_,S,m,β,h0,hS,hF.oy ks,he⟩ ?_;rintro n a' w' ⟨σ',S',m',β',hI,r1,r2,r3⟩;refine wp_mono (round n σ' S' hI m' β' w' a' r1 r2 r3) ?_;rintro e a'' w'' ⟨σ'',S'',m'',β'',q,s1,s2,s3⟩;cases e with
  | normal =>
   obtain ⟨n',hlt,hI'⟩:=q;exact ⟨n',hlt,_,S'',m'',β'',hI',s1,s2.oy ks,s3⟩
  | exit id=>exact ⟨σ'',S'',m'',β'',q,s1,s2,s3⟩
  | goto l=>exact ⟨σ'',S'',m'',β'',q,s1,s2,s3⟩
  | ret=>exact ⟨σ'',S'',m'',β'',q,s1,s2,s3⟩
  | panic ch=>exact ⟨σ'',S'',m'',β'',q,s1,s2,s3⟩
  | outgrown=>exact ⟨σ'',S'',m'',β'',q,s1,s2,s3⟩
 | region id ops d=>cases d<;>simp [Code.kind] at h
 | _=>simp [Code.kind] at h
theorem jbj {c:Code} (h:Code.kind c=4) {t:Bool} {z:Arg} (hz:jC (Code.test c)=some z) (hv:ev σ z = .bool t) (hx:t=true->VWpR P N l b m0 β0 w0 (Code.thn c) Q σ S) (hy:t=false->VWpR P N l b m0 β0 w0 (Code.els c) Q σ S):VWpR P N l b m0 β0 w0 c Q σ S:=by
 cases c with
 | cond c x y =>
  intro m β w a hS hF he;have hc:a.eval c = .bool t:=by
   have:=jM hF hz;rw [hv] at this;exact this.inv_bool
  exact wp_cond_split hc (fun h=>hx h m β w a hS hF he) (fun h=>hy h m β w a hS hF he)
 | region id ops d=>cases d<;>simp [Code.kind] at h
 | _=>simp [Code.kind] at h
end
section
variable {P:Program} {N b:Nat} {Q:Exit->Fr->Store->Prop} {σ:Fr} {S:Store}
theorem amm {m:Imm} {β:Objs} {w:World} {a:Act} {o:Oper} {c:Call} {fz:Arg} {args:List Arg} {l:Nat} (ho:o.op = .call c) (hc:zu P c=some (.callv fz args)) (hF:FrameRep N m β σ a)
  (hg:ev σ fz = .raw (.func (.yield l) #[] #[])) : ∃ vs:List Value,(execOp a.eval o).run P w=(Instr.yield l vs.toArray).run P w/\RepL m β (args.map (ev σ)) vs:=by
 obtain ⟨callee,aZZ,argTypes⟩:=c;unfold zu at hc;split at hc
 .split at hc<;>(try cases hc)<;>(obtain ⟨z,hz,h⟩:=aq.1 hc; cases h)
 .split at hc
  .split at hc
   .split at hc
    .split at hc<;>cases hc
    .cases hc
   .cases hc
  .cases hc
 .split at hc
  .split at hc<;>cases hc
  .cases hc
 .split at hc
  .split at hc
   .cases hc
   .obtain ⟨zs,hz,h⟩:=aq.1 hc;cases h
  .cases hc
 .rename_i fv hnf h1;simp only at h1;subst h1;split at hc
  .rename_i fz' args' k1 k2;cases hc;have hr:=jM hF k1;rw [hg] at hr;have e:=hr.inv_raw;have has:=jbJ hF k2;refine ⟨aZZ.toList.map a.eval, ?_,has⟩;have hargs:aZZ.map a.eval=(aZZ.toList.map a.eval).toArray:=by simp [<-Array.toList_map]
   simp [execOp,ho,resolve,e,Deferred.ofValue,invoke,hargs]
  .cases hc
 .cases hc
end
theorem aku {P:Program} {F:Fence} {n:Nat} {o:Oper} {a:Act} {w:World} {K K':Act->World->Prop} {Q Q':Exit->Act->World->Prop} (hq : ∀ e a w,Q e a w->Q' e a w) (h : ∀ a w,K a w->K' a w) (hh:o.wpIn F n P a w K Q):o.wpIn F n P a w K' Q':=by
 unfold Oper.wpIn at *
 refine ⟨hh.1, ?_⟩;have hh:=hh.2;have hl:LetsOut Q->LetsOut Q':=fun ⟨a,w,h⟩=>⟨a,w,hq _ _ _ h⟩
 generalize (o.semAt F.round a.eval).run P w=r at *
 cases r with
 | ok x w' =>
  cases x<;>simp only [Oper.uponIn] at hh ⊢ <;>
   first
    | exact h _ _ hh
    | exact ⟨hh.1,CallsIn.mono hh.2 (fun e w'' he=>by cases e<;>first | exact h _ _ he | exact hq _ _ _ he | exact hl he)⟩
    | exact ⟨hh.1,RowsIn.mono hh.2 (fun _ _ he=>h _ _ he)⟩
    | exact ⟨hh.1,RoundIn.mono hh.2 (fun e w'' he=>by cases e<;>first | exact h _ _ he | exact hq _ _ _ he | exact hl he)⟩
 | halt x w'=>cases x<;>simp only [Oper.uponIn] at hh ⊢ <;> first | exact hq _ _ _ hh | exact hh
theorem jah {P:Program} {F:Fence} {n:Nat} {ops:Array Oper} {Q Q':Exit->Act->World->Prop} (hq : ∀ e a w,Q e a w->Q' e a w) : ∀ (l:List Oper) (a:Act) (w:World),wpListIn F n P ops Q l a w->wpListIn F n P ops Q' l a w
 | [],a,w,h=>hq _ _ _ h
 | o::l,a,w,h=>by
  simp only [wpListIn] at h ⊢;split
  .rename_i hw;rw [if_pos hw] at h;exact aku hq (fun a w h=>jah hq l a w h) h
  .rename_i hw;rw [if_neg hw] at h;exact ⟨h.1,jah hq l _ w h.2⟩
def RoundV (P:Program) (N l:Nat) (assign body:Code) (σr:Fr) (S:Store) (K:Store->Prop) (E:EP):Prop :=
 VWpN P N S.nx l assign (jaa (VWpN P N S.nx l body fun e σ T=>match e with | .normal=>K T | .panic ch=>E ch T | _=>False) fun _ _ _=>False) σr S
structure Ready (P:Program) (N p1 p2:Nat) (assign body:Code) (rec:Loop):Prop where
 st:rec.state = .ready
 pe:rec.pending=none
 ps:rec.params = #[p1,p2]
 ha:rec.assign=assign
 hb:rec.body=body
 fn : ∃ fn,P.funcs[rec.fn]? = some fn
 h1:p1<N
 h2:p2<N
theorem arq {P:Program} {N l r p1 p2:Nat} {assign body:Code} {rec:Loop} {m:Imm} {β:Objs} {w:World} {S:Store} {σ0:Fr} {x1 x2:V} {vs:List Value} {K:Store->Prop} {E:EP}
  (hL:LoopAt l r rec m β w) (hR:Ready P N p1 p2 assign body rec) (hS:Holds S m β w) (hF:FrameRep N m β σ0 { tmps:=rec.tmps,defers:=[] }) (hv:RepL m β [x1,x2] vs) (H:RoundV P N l assign body ((σ0.set p1 x1).set p2 x2) S K E) :
  ∃ tm,(Instr.yield l vs.toArray).run P w = .ok (.round l rec.fn tm rec.assign rec.body) w/\RoundIn Fence.wide 0 P l rec.fn tm rec.assign rec.body w fun e w' =>
   (e = .returned (.bool true) /\ ∃ S' m' β',K S'/\Holds S' m' β' w'/\Ext m β w m' β' w') \/
   (∃ ch S' m' β' o,e = .panicked ch/\E ch S'/\Holds S' m' β' w'/\Ext m β (w.putObj l o) m' β' w'):=by
 obtain ⟨hv1,hv2⟩:=hv
 match vs,hv1 with
 | [v1,v2],_ =>
  have q1:=hv2 0 x1 v1 rfl rfl;have q2:=hv2 1 x2 v2 rfl rfl;have hF1:FrameRep N m β ((σ0.set p1 x1).set p2 x2) { tmps:=(rec.tmps.setIfInBounds p1 v1).setIfInBounds p2 v2,defers:=[] } :=
   (hF.put (some p1) (fun t h=>by cases h; exact hR.h1) q1).put (some p2) (fun t h=>by cases h; exact hR.h2) q2
  refine ⟨(rec.tmps.setIfInBounds p1 v1).setIfInBounds p2 v2, ?_, ?_⟩
  .rw [run_yield hL.hl (by rw [hR.ps]; rfl),hR.ps];simp [List.zip_toArray]
  .obtain ⟨fn,hfn⟩:=hR.fn;refine alj hfn ?_;rw [hR.ha,hR.hb];refine wpIn_mono (H m β w _ hS hF1) ?_;rintro e a1 w1 ⟨σ1,S1,m1,β1,q,r1,r2,r3⟩;cases e with
   | normal =>
    have hL1:=hL.ext ((Jx hS r3).toB (b:=0));have hsz:=(Array.getElem?_eq_some_iff.1 hL1.hl).1;refine ⟨_,run_beginRound hL1.hl hR.st, ?_⟩;have hS1:=Jd r1 (.loop { rec with state := .busy }) hL1.ml hL1.bl;have q':VWpN P N S.nx l body _ σ1 S1:=q;refine wpIn_mono (q' m1 β1 _ a1 hS1 r2) ?_;rintro e a2 w2 ⟨σ2,S2,m2,β2,q2,s1,s2,s3⟩;have hx1:Ext m β w m1 β1 w1:=Jx hS r3;have hlt:l<w.heap.size:=(Array.getElem?_eq_some_iff.1 hL.hl).1
    -- what came, but for the record
    have hx2:Ext m β (w.putObj l (.loop { rec with state := .busy })) m2 β2 w2:=by
     refine Jx (Jd hS _ hL.ml hL.bl) ?_;refine ⟨fun k o hk=>s3.imm k o (hx1.imm k o hk),fun o ho hn => ?_,by
      have:=hx1.size; have:=s3.size; simp only [World.putObj_size] at this ⊢; omega,fun k hk hm hb => ?_,s3.os.trans hx1.os,s3.tape.trans hx1.tape,s3.output.trans hx1.output⟩
     .rcases hx1.step o hn with h1 | h1
      .rcases s3.step o ho (by rw [h1]; exact hn) with k1 | k1
       .exact .inl (k1.trans h1)
       .exact .inr k1
      .rcases s3.step o ho (by rw [h1]; exact Loc.noConfusion) with k1 | k1
       .exact .inr (k1.trans h1)
       .exact .inr k1
     .simp only [World.putObj_size] at hk;obtain ⟨e1,e2,e3⟩:=hx1.keep k hk hm hb;have hsz1:=hx1.size;obtain ⟨f1,f2,f3⟩:=s3.keep k (by simp only [World.putObj_size]; omega) e2 e3;refine ⟨f1.trans ?_,f2,f3⟩;by_cases e:k=l
      .subst e; rw [World.putObj_heap_same hsz,World.putObj_heap_same hlt]
      .rw [World.putObj_heap_other e,World.putObj_heap_other e]; exact e1
    cases e with
    | normal =>
     have q2':K S2:=q2;have hk:=hx2.keep l (by simp only [World.putObj_size]; exact hlt) hL.ml hL.bl;have hl2:w2.heap[l]? = some (.loop { rec with state := .busy }):=hk.1.trans (World.putObj_heap_same hlt);refine ⟨_,_,run_endRound none hl2, .inl ⟨rfl,S2,m2,β2,q2',Jd s1 _ hk.2.1 hk.2.2, ?_⟩⟩;have hrec:({ ({ rec with state := .busy }:Loop) with state:=if (none:Option Code).isNone then .ready else .done,pending:=none }:Loop)=rec:=by
      have h1:=hR.st;have h2:=hR.pe;cases rec;simp only at h1 h2;subst h1 h2
      rfl
     rw [hrec];refine ⟨hx2.imm,hx2.step,by have:=hx2.size; simp only [World.putObj_size] at this ⊢; exact this,fun k hk' hm hb => ?_,hx2.os,hx2.tape,hx2.output⟩;obtain ⟨f1,f2,f3⟩:=hx2.keep k (by simp only [World.putObj_size]; exact hk') hm hb;refine ⟨?_,f2,f3⟩;by_cases e:k=l
     .subst e;rw [World.putObj_heap_same (Array.getElem?_eq_some_iff.1 hl2).1]; exact hL.hl.symm
     .rw [World.putObj_heap_other e,f1,World.putObj_heap_other e]
    | panic ch =>
     have q2':E ch S2:=q2;exact ⟨s2.defers, .inr ⟨ch,S2,m2,β2,_,rfl,q2',s1,hx2⟩⟩
    | exit id=>exact (q2:False).elim
    | goto l=>exact (q2:False).elim
    | ret=>exact (q2:False).elim
    | outgrown=>exact (q2:False).elim
   | exit id=>exact (q:False).elim
   | goto l=>exact (q:False).elim
   | ret=>exact (q:False).elim
   | panic ch=>exact (q:False).elim
   | outgrown=>exact (q:False).elim
end Go.Vw
