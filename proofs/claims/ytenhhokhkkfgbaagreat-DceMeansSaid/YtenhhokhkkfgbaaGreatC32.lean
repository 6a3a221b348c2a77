import Derived.Test.YtenhhokhkkfgbaaGreatC31
/- Part of the proof. -/
set_option linter.unusedVariables false
set_option linter.unusedSimpArgs false
set_option maxRecDepth 10000
set_option maxHeartbeats 4000000
namespace Go.Vw
open Go.Proofs Go.RowKit
attribute [-simp] List.map_set
def RunPost (P:Ev.Prog) (o g l:Nat) (d:Int) (r:Ev.Res) (S:Store) (x:V) (T:Store):Prop :=
 x=vl vu r.1/\Keeps S T [o,g,l] /\ ∃ l',RunAt T P r.2.1 o g l' d r.2.2/\(l'=l\/S.nx<=l')
structure Ok (s:Ev.State):Prop where
 fit:Ev.StFits s
 fuel:0<=s.fuel
def CallOk (P:Ev.Prog) (call:Int->List Int->Ev.State->Option Ev.Res) (d:Int):Prop :=
 ∀ (n:Int) (args:List Int) (s:Ev.State) (r:Ev.Res) (S:Store) (o g l:Nat),Ok s->(∀ x∈args,Ev.U64 x)->args.length<=4096->0<=n->n<64->RunAt S P s o g l d 0->call n args s=some r ->
  bU 86 [.ptr o 0,vint n,vl vu args] S (RunPost P o g l d r S)
theorem zD {S:Store} {P:Ev.Prog} {s s':Ev.State} {o g l:Nat} {d e:Int} {out:List Int} {own:List (Option (Nat × List V))} {cells:List V} {k:Nat} (hwf:S.Wf) (hr:RunAt S P s o g l d 0) (hs:s'.globals=s.globals) (hl:s'.log=s.log) (hc:cells=runC P s' g l d e) (hk:k<own.length) (ho:(own[k]?).join=some (1,out.map vu)) :
  Ja S.nx (RunPost P o g l d (out,s',e) S) (.slice (lid S.nx k) 0 out.length) (St S [(o,some (14,cells))] own):=by
 have on:=jl hwf hr.obj;have gn:=jl hwf hr.glob;have ln:=jl hwf hr.log;have h1:=hr.og;have h2:=hr.ol;have h3:=hr.gl;refine ⟨_,_,(frz1 hk ho (jq vu (fun _=>rfl) _) (by simp)).toB _,rfl,KQ fun i c hi => ?_,l,⟨?_, ?_, ?_,h1,h2,h3⟩, .inl rfl⟩
 ·simp only [aL,List.not_mem_nil,or_false,not_or] at hi;simp [uGet,hi.1]
 ·rw [jh on,hc]; simp [uGet]
 ·rw [jh gn,hs]; simp [uGet,Ne.symm h1,hr.glob]
 ·rw [jh ln,hl]; simp [uGet,Ne.symm h2,hr.log]
theorem one_nil {S:Store} {P:Ev.Prog} {s s':Ev.State} {o g l:Nat} {d e:Int} {own:List (Option (Nat × List V))} {cells:List V} (hwf:S.Wf) (hr:RunAt S P s o g l d 0) (hs:s'.globals=s.globals) (hl:s'.log=s.log) (hc:cells=runC P s' g l d e) :
  Ja S.nx (RunPost P o g l d ([],s',e) S) .nils (St S [(o,some (14,cells))] own):=by
 have on:=jl hwf hr.obj;have gn:=jl hwf hr.glob;have ln:=jl hwf hr.log;have h1:=hr.og;have h2:=hr.ol;have h3:=hr.gl;refine ⟨_,_,(Ghost.nils_list _).toB _,rfl,KQ fun i c hi => ?_,l,⟨?_, ?_, ?_,h1,h2,h3⟩, .inl rfl⟩
 ·simp only [aL,List.not_mem_nil,or_false,not_or] at hi;simp [uGet,hi.1]
 ·rw [jh on,hc]; simp [uGet]
 ·rw [jh gn,hs]; simp [uGet,Ne.symm h1,hr.glob]
 ·rw [jh ln,hl]; simp [uGet,Ne.symm h2,hr.log]
theorem one_glob {S:Store} {P:Ev.Prog} {s s':Ev.State} {o g l:Nat} {d e:Int} {out:List Int} {own:List (Option (Nat × List V))} {cells:List V} {k:Nat} (hwf:S.Wf) (hr:RunAt S P s o g l d 0) (hl:s'.log=s.log) (hc:cells=runC P s' g l d e) (hk:k<own.length) (ho:(own[k]?).join=some (1,out.map vu)) :
  Ja S.nx (RunPost P o g l d (out,s',e) S) (.slice (lid S.nx k) 0 out.length) (St S [(g,some (1,s'.globals.map vu)),(o,some (14,cells))] own):=by
 have on:=jl hwf hr.obj;have gn:=jl hwf hr.glob;have ln:=jl hwf hr.log;have h1:=hr.og;have h2:=hr.ol;have h3:=hr.gl;refine ⟨_,_,(frz1 hk ho (jq vu (fun _=>rfl) _) (by simp)).toB _,rfl,KQ fun i c hi => ?_,l,⟨?_, ?_, ?_,h1,h2,h3⟩, .inl rfl⟩
 ·simp only [aL,List.not_mem_nil,or_false,not_or] at hi;simp [uGet,hi.1,hi.2.1]
 ·rw [jh on,hc]; simp [uGet,h1]
 ·rw [jh gn]; simp [uGet]
 ·rw [jh ln,hl]; simp [uGet,Ne.symm h2,Ne.symm h3,hr.log]
theorem Keeps.trans {S T U:Store} {xs:List Nat} (h:Keeps S T xs) (k:Keeps T U xs):Keeps S U xs :=
 ⟨bh h.1 k.1,fun i hi hx=>(k.2 i (aU hi h.1) hx).trans (h.2 i hi hx)⟩
theorem RunAt.ext {S T:Store} {P:Ev.Prog} {s:Ev.State} {o g l:Nat} {d e:Int} (h:RunAt S P s o g l d e) (ho:T.get o=S.get o) (hg:T.get g=S.get g) (hl:T.get l=S.get l):RunAt T P s o g l d e :=
 ⟨ho.trans h.obj,hg.trans h.glob,hl.trans h.log,h.og,h.ol,h.gl⟩
theorem RunAt.own {S:Store} {P:Ev.Prog} {s:Ev.State} {o g l:Nat} {d e:Int} (hwf:S.Wf) (h:RunAt S P s o g l d e) (w:List (Option (Nat × List V))):RunAt (St S [] w) P s o g l d e :=
 h.ext (by rw [jh (jl hwf h.obj)]; rfl) (by rw [jh (jl hwf h.glob)]; rfl) (by rw [jh (jl hwf h.log)]; rfl)
theorem RunPost.own {S T:Store} {P:Ev.Prog} {o g l:Nat} {d:Int} {r:Ev.Res} {x:V} {w:List (Option (Nat × List V))} (h:RunPost P o g l d r (St S [] w) x T):RunPost P o g l d r S x T:=by
 obtain ⟨h1,h2,l',h3,h4⟩:=h;refine ⟨h1,(KQ fun i c hi=>rfl).trans h2,l',h3,h4.imp_right fun h => ?_⟩;rw [jL,lid] at h; omega
theorem NOne_v (O:Ev.Ops) (hO:OpsV O) (P:Ev.Prog) (call:Int->List Int->Ev.State->Option Ev.Res) (f:Ss.Fn) (x:Ss.Ins) (a:List Int) (s:Ev.State) (o g l:Nat) (d:Int) (r:Ev.Res) (S:Store)
  (hcall:CallOk P call d) (hs:Ok s) (hx:x.Fits) (ha : ∀ y∈a,Ev.U64 y) (hal:a.length<=4096) (hcl:x.op=16->x.n<64) (hr:RunAt S P s o g l d 0) (hf:Ev.oneF O call x a s=some r) :
  bU 133 [.ptr o 0,jI f,jp x,vl vu a] S (RunPost P o g l d r S):=by
 have hR:=hr;obtain ⟨h1,h2,h3,h4,h5,h6⟩:=hr;obtain ⟨⟨hmB,hmo,hgW,hfu,hiW,hlW⟩,hf0⟩:=hs;have ca:=Yd x.op;obtain ⟨⟨fi,fo⟩,ft,fb⟩:=f;obtain ⟨op,n,xa,xo⟩:=x;obtain ⟨mem,most,glb,fuel,inp,log⟩:=s;obtain ⟨_,⟨n0,n1⟩,_,_⟩:=hx;simp only at ca n0 n1 hcl hmB hmo hgW hfu hiW hlW hf0;simp only [runC] at h1 h2 h3;have e1:jI ⟨⟨fi,fo⟩,ft,fb⟩ = .agg [vl vint fi,vl vint fo,vl vint ft,vl je fb]:=rfl;have e2:jp ⟨op,n,xa,xo⟩ = .agg [vint op,vu n,vl vint xa,vl vint xo]:=rfl;rw [e1,e2];obtain ⟨ok,hok⟩ : ∃ b,b=(Ss.accOf op).isSome:=⟨_,rfl⟩
 obtain ⟨acc,hacc⟩ : ∃ b,b=(Ss.accOf op).getD ⟨0,0,false,false⟩:=⟨_,rfl⟩
 rw [<-hok, <-hacc] at ca;refine QB (c:=jc Tryz.f133) Tryz.func133 Tryz.ntmps133 fun hwf=>?_
 have on:=jl hwf h1;have gn:=jl hwf h2;have oo:=fun u l => @jh S u l o on
 have gg:=fun u l => @jh S u l g gn
 have updo:=fun u l c => @jP S u l c o on
 have updg:=fun u l c => @jP S u l c g gn
 refine QY ?_;refine QH 5 0 ?_;refine QH 6 1 ?_;refine QP ?_;refine QL ca ?_;refine QW ?_;refine QY ?_
 by_cases c1:op=256
 ·subst c1;have hok:ok=false:=hok;subst hok;have hf:([n],_,0)=r:=Option.some.inj hf;subst hf
  refine bv oo updo h1 ?_
  exact zD (k:=2) (out:=[n]) hwf hR rfl rfl rfl (by simp) rfl
 by_cases c2:op=258
 ·subst c2;have hok:ok=false:=hok;subst hok;have hf:(if fuel=0 then some ([],⟨mem,most,glb,fuel,inp,log⟩,36) else some ([0],⟨mem,most,glb,fuel-1,inp,log⟩,0))=some r:=hf
  by_cases f0:fuel=0
  ·rw [if_pos f0] at hf
   cases hf
   subst f0
   refine bv oo updo h1 ?_
   exact one_nil hwf hR rfl rfl rfl
  ·rw [if_neg f0] at hf
   cases hf
   have hw:IntKind.i64.wrap (fuel-1)=fuel-1:=wrap_i64 (by omega) (by omega)
   refine bJ oo updo h1 f0 hw ?_
   exact zD (k:=2) (out:=[0]) (s':=⟨mem,most,glb,fuel-1,inp,log⟩) hwf hR rfl rfl rfl (by simp) rfl
 by_cases c3:op=27
 ·subst c3;have hok:ok=false:=hok;subst hok;rcases a with _ | ⟨p,_ | ⟨q,_ | ⟨t,_ | _⟩⟩⟩
  ·cases hf
  ·cases hf
  ·cases hf
  ·have hf:([if t=0 then q else p],(⟨mem,most,glb,fuel,inp,log⟩:Ev.State),0)=r:=Option.some.inj hf;subst hf;have i0 : ∀ S',jB 1 S' (vl vu [p,q,t]) (.int .i64 0)=some (.ref (vu p)):=fun _=>rfl
   have i1 : ∀ S',jB 1 S' (vl vu [p,q,t]) (.int .i64 1)=some (.ref (vu q)):=fun _=>rfl
   have i2 : ∀ S',jB 1 S' (vl vu [p,q,t]) (.int .i64 2)=some (.ref (vu t)):=fun _=>rfl
   by_cases t0:t=0
   ·rw [if_pos t0];subst t0
    refine bz oo updo h1 i0 i1 i2 ?_
    exact zD (k:=2) (out:=[q]) hwf hR rfl rfl rfl (by simp) rfl
   ·rw [if_neg t0]
    repeat first|refine QG ?_|refine QY ?_ (r:=by conv=>lhs;simp[QV,oo,updo,h1,i0,i1,i2,t0])
    exact zD (k:=2) (out:=[p]) hwf hR rfl rfl rfl (by simp) rfl
  ·cases hf
 by_cases c4:op=35
 ·subst c4;have hok:ok=false:=hok;subst hok;have hf:(match glb[n.toNat]? with
   | some y=>some ([y],(⟨mem,most,glb,fuel,inp,log⟩:Ev.State),0)
   | none=>none)=some r:=hf
  obtain ⟨k,rfl⟩ : ∃ k:Nat,n=(k:Int):=⟨n.toNat,by omega⟩
  rw [Int.toNat_natCast] at hf
  cases hy:glb[k]? with
  | none=>rw [hy] at hf; cases hf
  | some y =>
   rw [hy] at hf
   cases hf
   obtain ⟨hk,hy⟩:=ae.1 hy
   refine bv oo updo h1 ?_
   refine QT ?_;refine QD (r:=by conv=>lhs;simp[QV,oo,gg,h1,h2,h4,h6,hk,hy]) (k:=?_);refine QN ?_
   refine bv oo updo h1 ?_
   exact zD (k:=2) (out:=[y]) hwf hR rfl rfl rfl (by simp) rfl
 by_cases c5:op=36
 ·subst c5;have hok:ok=false:=hok;subst hok;rcases a with _ | ⟨p,_ | _⟩
  ·cases hf
  ·have hf:(if n.toNat<glb.length then some ([0],(⟨mem,most,glb.set n.toNat p,fuel,inp,log⟩:Ev.State),0) else none)=some r:=hf;obtain ⟨k,rfl⟩ : ∃ k:Nat,n=(k:Int):=⟨n.toNat,by omega⟩
   rw [Int.toNat_natCast] at hf;split at hf
   ·rename_i hk
    cases hf
    have i0 : ∀ S',jB 1 S' (vl vu [p]) (.int .i64 0)=some (.ref (vu p)):=fun _=>rfl
    have hset:(glb.map vu).set k (.int .u64 p)=(glb.set k p).map vu:=by rw [List.map_set]; rfl
    refine bv oo updo h1 ?_
    rw [Kb h2];refine QT ?_;refine QJ (St S [(g,none)] [none,none]) (St S [(g,some (1,glb.map vu))] [none,none]) [] ?_ (r:=by conv=>lhs; simp [QV,oo,gg,h1,h2,h4,h6,hk,i0]);refine QI ?_ (r:=by conv=>lhs;simp[QV,oo,gg,updg,h1,h2,h4,h6,hk,i0,hset]);refine QN ?_
    refine bD oo updo h1 h4 ?_
    exact one_glob (k:=2) (out:=[0]) (s':=⟨mem,most,glb.set k p,fuel,inp,log⟩) hwf hR rfl (by simp [runC]) (by simp) rfl
   ·cases hf
  ·cases hf
 by_cases c6:op=16
 ·subst c6;have hok:ok=false:=hok;subst hok;have hf:call n a ⟨mem,most,glb,fuel,inp,log⟩=some r:=hf;have hn:=hcl rfl;have hw:IntKind.i64.wrap n=n:=wrap_i64 (by omega) (by omega)
  refine bw ?_
  refine bH hw ?_;refine jK rfl (hcall n a _ r _ o g l ⟨⟨hmB,hmo,hgW,hfu,hiW,hlW⟩,hf0⟩ ha hal (by omega) hn (hR.own hwf _) hf) ?_;rintro X T hX;refine bQ ?_
  exact ⟨_,_,GhostB.refl _ _ _,hX.own⟩
 by_cases c7:op=257
 ·subst c7;have hok:ok=false:=hok;subst hok;rcases a with _ | ⟨p,_ | _⟩
  ·cases hf
  ·have hf:([0],(⟨mem,most,glb,fuel,inp,log⟩:Ev.State),if Ev.insideI mem.length p n=true then 0 else 35)=r:=Option.some.inj hf;subst hf;have i0 : ∀ S',jB 1 S' (vl vu [p]) (.int .i64 0)=some (.ref (vu p)):=fun _=>rfl
   have cin:=jbd mem p n hmB (ha p (by simp)).1 n0;generalize Ev.insideI mem.length p n=ib at *
   refine bv oo updo h1 ?_
   refine QT ?_;refine QD (r:=by conv=>lhs;simp[QV,oo,h1,i0]) (k:=?_);refine QL cin ?_
   cases ib with
   | true =>
    refine QW ?_
    refine bv oo updo h1 ?_
    exact zD (k:=2) (out:=[0]) hwf hR rfl rfl rfl (by simp) rfl
   | false =>
    refine QW ?_
    refine bv oo updo h1 ?_
    exact zD (k:=2) (out:=[0]) hwf hR rfl rfl rfl (by simp) rfl
  ·cases hf
 simp only [Ev.oneF,if_neg c1,if_neg c2,if_neg c3,if_neg c4,if_neg c5,if_neg c6,if_neg c7] at hf
 cases hao:Ss.accOf op with
 | some c =>
  rw [hao] at hf hok hacc;have hok:ok=true:=hok;have hacc:acc=c:=hacc;subst hok hacc;simp only at hf
  cases hst:acc.store with
  | true =>
   rw [hst,if_pos rfl] at hf;rcases a with _ | ⟨p,_ | ⟨q,_ | _⟩⟩
   ·cases hf
   ·cases hf
   ·have hf:=Option.some.inj hf;have i0 : ∀ S',jB 1 S' (vl vu [p,q]) (.int .i64 0)=some (.ref (vu p)):=fun _=>rfl
    have i1 : ∀ S',jB 1 S' (vl vu [p,q]) (.int .i64 1)=some (.ref (vu q)):=fun _=>rfl
    have cst:=hO.store mem op p n q hmB (ha p (by simp)) ⟨n0,n1⟩ (ha q (by simp));generalize O.store mem op p n q=sr at *
    obtain ⟨m',e⟩:=sr;simp only at hf cst
    by_cases e0:e=0
    ·rw [if_pos e0,if_pos e0] at hf;subst hf
     repeat first|refine QG ?_|refine QY ?_ (r:=by conv=>lhs;simp[QV,oo,updo,h1,c1,c2,c3,c4,c5,c6,c7,hst])
     refine QT ?_;refine QD (r:=by conv=>lhs;simp[QV,oo,h1,i0,i1]) (k:=?_);refine QL cst ?_;subst e0;refine QW ?_
     refine bv oo updo h1 ?_
     exact zD (k:=2) (out:=[0]) (s':=⟨m',most,glb,fuel,inp,log⟩) hwf hR rfl rfl rfl (by simp) rfl
    ·rw [if_neg e0,if_neg e0] at hf;subst hf
     repeat first|refine QG ?_|refine QY ?_ (r:=by conv=>lhs;simp[QV,oo,updo,h1,c1,c2,c3,c4,c5,c6,c7,hst])
     refine QT ?_;refine QD (r:=by conv=>lhs;simp[QV,oo,h1,i0,i1]) (k:=?_);refine QL cst ?_;refine QW ?_
     refine bD oo updo h1 e0 ?_
     exact zD (k:=2) (out:=[0]) hwf hR rfl rfl rfl (by simp) rfl
   ·cases hf
  | false =>
   rw [hst,if_neg (by decide)] at hf;rcases a with _ | ⟨p,_ | _⟩
   ·cases hf
   ·have hf:=Option.some.inj hf;have i0 : ∀ S',jB 1 S' (vl vu [p]) (.int .i64 0)=some (.ref (vu p)):=fun _=>rfl
    have cld:=hO.load mem op p n hmB (ha p (by simp)) ⟨n0,n1⟩;generalize O.load mem op p n=sr at *
    obtain ⟨y,e⟩:=sr;simp only at hf cld
    by_cases e0:e=0
    ·rw [if_pos e0] at hf;subst hf;subst e0
     repeat first|refine QG ?_|refine QY ?_ (r:=by conv=>lhs;simp[QV,oo,updo,h1,c1,c2,c3,c4,c5,c6,c7,hst])
     refine QT ?_;refine QD (r:=by conv=>lhs;simp[QV,oo,h1,i0]) (k:=?_);refine QL cld ?_;refine QW ?_
     refine bv oo updo h1 ?_
     exact zD (k:=2) (out:=[y]) hwf hR rfl rfl rfl (by simp) rfl
    ·rw [if_neg e0] at hf;subst hf
     repeat first|refine QG ?_|refine QY ?_ (r:=by conv=>lhs;simp[QV,oo,updo,h1,c1,c2,c3,c4,c5,c6,c7,hst])
     refine QT ?_;refine QD (r:=by conv=>lhs;simp[QV,oo,h1,i0]) (k:=?_);refine QL cld ?_;refine QW ?_
     refine bD oo updo h1 e0 ?_
     exact zD (k:=2) (out:=[y]) hwf hR rfl rfl rfl (by simp) rfl
   ·cases hf
 | none =>
  rw [hao] at hf hok;have hok:ok=false:=hok;subst hok;simp only at hf
  by_cases c8:op=63
  ·rw [if_pos c8] at hf
   cases hf
   subst c8;obtain ⟨q,hq⟩ : ∃ q,(mem.length:Int).tdiv 256=q:=⟨_,rfl⟩
   have hml:=hmB.1;have hq0:0<=q/\q<=140737488355328:=by
    rw [Int.tdiv_eq_ediv_of_nonneg (by omega)] at hq;omega
   have w1:IntKind.i64.wrap q=q:=wrap_i64 (by omega) (by omega);have w2:IntKind.u64.wrap q=q:=bO;rw [hq]
   refine bz oo updo h1 hq w1 w2 ?_
   exact zD (k:=2) (out:=[q]) hwf hR rfl rfl rfl (by simp) rfl
  rw [if_neg c8] at hf
  by_cases c9:op=64
  ·rw [if_pos c9] at hf;subst c9;rcases a with _ | ⟨p,_ | _⟩
   ·cases hf
   ·have hf:=Option.some.inj hf;have i0 : ∀ S',jB 1 S' (vl vu [p]) (.int .i64 0)=some (.ref (vu p)):=fun _=>rfl
    have cgr:=hO.grow mem most p hmB hmo.1 hmo.2 (ha p (by simp));generalize O.grow mem most p=sr at *
    obtain ⟨m',y⟩:=sr;simp only at hf cgr;subst hf
    refine bv oo updo h1 ?_
    rw [Kb h1];refine QT ?_;refine QJ (St S [(o,none)] [none,none]) (St S [(o,some (14,[vl jm P.env.sigs,vint P.env.imports,vl vint P.env.globals,vl V.bool P.env.muts, .bool P.env.mem,vl jI P.fns,vl vby mem,vint most, .slice g 0 glb.length,vint fuel,vl vu inp, .slice l 0 log.length,vint d,vint 0]))] [none,none]) [200,205] ?_ (r:=by conv=>lhs; simp [QV,oo,h1,i0]);refine QL cgr ?_;refine bF oo h1 ?_;refine QI ?_ (r:=by conv=>lhs;simp[QV,oo,updo,h1]);refine QW ?_
    refine bv oo updo h1 ?_
    exact zD (k:=2) (out:=[y]) (s':=⟨m',most,glb,fuel,inp,log⟩) hwf hR rfl rfl rfl (by simp) rfl
   ·cases hf
  rw [if_neg c9] at hf
  cases hf
  have cev:=hO.eval op a ha (by omega);generalize O.eval op a=sr at *
  obtain ⟨y,e⟩:=sr;simp only at cev ⊢
  repeat first|refine QG ?_|refine QY ?_ (r:=by conv=>lhs;simp[QV,oo,updo,h1,c1,c2,c3,c4,c5,c6,c7,c8,c9])
  refine QP ?_;refine QL cev ?_;refine QW ?_
  refine bv oo updo h1 ?_
  exact zD (k:=2) (out:=[y]) hwf hR rfl rfl rfl (by simp) rfl
end Go.Vw
namespace Go.Vw
open Go.Proofs Go.RowKit
def PostX (P:Ev.Prog) (o g l:Nat) (d e:Int) (s:Ev.State) (X:V) (S:Store) (x:V) (T:Store):Prop :=
 x=X/\Keeps S T [o,g,l] /\ ∃ l',RunAt T P s o g l' d e/\(l'=l\/S.nx<=l')
def JV (S:Store) (P:Ev.Prog) (s:Ev.State) (o g l:Nat) (d e:Int):Store :=
 St S [(o,some (14,runC P s g (lid S.nx 0) d e)),(g,some (1,s.globals.map vu)),(l,none)] [some (1,s.log.map vu)]
def ownS (S:Store) (P:Ev.Prog) (s:Ev.State) (o g l:Nat) (d e:Int) (w:List (Option (Nat × List V))) (k:Nat):Store :=
 St S [(o,some (14,runC P s g (lid S.nx k) d e)),(g,some (1,s.globals.map vu)),(l,none)] w
theorem runC_ren {P:Ev.Prog} {s:Ev.State} {g l g' l':Nat} {d e:Int} {f:Nat->Nat} (hg:f g=g') (hl:f l=l'):V.renL f (runC P s g l d e)=runC P s g' l' d e:=by
 simp only [runC,V.renL,hg,hl,V.ren,vl,vint]
def renP (n a b i:Nat):Nat:=if i<n then i else if i=n then a else b+i
theorem renP_lt {n a b i:Nat} (h:i<n):renP n a b i=i:=if_pos h
theorem renP_eq {n a b:Nat}:renP n a b n=a:=by rw [renP,if_neg (Nat.lt_irrefl _),if_pos rfl]
theorem renP_gt {n a b i:Nat} (h:n<i):renP n a b i=b+i:=by rw [renP,if_neg (by omega),if_neg (by omega)]
theorem post_ren {S T:Store} {P:Ev.Prog} {s:Ev.State} {o g l l':Nat} {d e:Int} (hwf:S.Wf) (ho:o<S.nx) (hg:g<S.nx) (hl:l<S.nx) (hk:Keeps S T [o,g,l]) (hr:RunAt T P s o g l' d e) (hll:l'=l\/S.nx<=l') (h5:o≠g) (h6:o≠l) (h7:g≠l) :
  RenS (renP S.nx l' T.nx) S.nx T (JV S P s o g l d e):=by
 have hf : ∀ i,i<S.nx->renP S.nx l' T.nx i=i:=fun i h=>renP_lt h
 have hf0:renP S.nx l' T.nx S.nx=l':=renP_eq;have hn:(JV S P s o g l d e).nx=S.nx+1:=by simp [JV,jL,lid]
 have hs : ∀ i,((JV S P s o g l d e).get i).isSome=true->(i<S.nx/\i≠l)\/i=S.nx:=fun i h=>by
  by_cases h1:i<S.nx
  ·refine .inl ⟨h1,fun e => ?_⟩;subst e;simp [JV,jh h1,uGet,Ne.symm h6,Ne.symm h7] at h
  ·rw [JV,qI,if_neg h1] at h
   cases h2:i-S.nx with
   | zero=>right; omega
   | succ n=>rw [h2] at h; cases h
 refine ⟨fun i c hc => ?_,fun i i' h1 h2 he => ?_,fun i hi => ?_,hf,by omega⟩
 ·rcases hs i (by rw [hc]; rfl) with ⟨h1,h2⟩ | h1
  ·refine ⟨by omega, ?_⟩;rw [hf i h1];rw [JV,jh h1] at hc;simp only [uGet] at hc;split at hc
   ·rename_i e; subst e
    cases hc
    rw [hr.obj];exact congrArg (fun c=>some (14,c)) (runC_ren (hf g hg) hf0).symm
   ·split at hc
    ·rename_i e; subst e
     cases hc
     rw [hr.glob,jn]
    ·rename_i e1 e2;rw [hk.2 i h1 (by simp [e1,e2,h2]),hc];have:=hwf.ids i c hc;simp only [qr,aD] at this;rw [qi,(a7 fun x hm=>WD (fun o h=>hf o (by simpa using h)) x (this x hm)).trans (List.map_id _)]
  ·subst h1;refine ⟨by omega, ?_⟩;rw [hf0];rw [JV,qI,if_neg (Nat.lt_irrefl _),Nat.sub_self] at hc
   cases hc
   rw [hr.log,jn]
 ·rcases hs i h1 with ⟨k1,k2⟩ | rfl
  ·rw [hf i k1] at he;rcases hs i' h2 with ⟨k3,k4⟩ | rfl
   ·rw [hf i' k3] at he; exact he
   ·rw [hf0] at he; subst he;rcases hll with e | e
    ·exact absurd e k2
    ·omega
  ·rw [hf0] at he;rcases hs i' h2 with ⟨k3,k4⟩ | rfl
   ·rw [hf i' k3] at he; subst he;rcases hll with e | e
    ·exact absurd e k4
    ·omega
   ·rfl
 ·rw [hn] at hi;rw [renP_gt (by omega)];omega
theorem ZB {S:Store} {P:Ev.Prog} {s s0:Ev.State} {o g l:Nat} {d e d0 e0:Int} {f:FuncId} {xs:List V} {X:V} (h0:RunAt S P s0 o g l d0 e0) (hx:X.ids (fun _=>false)=true) (h:bU f xs S (PostX P o g l d e s X S)) :
  bU f xs S (fun x T=>x=X/\T=JV S P s o g l d e):=by
 refine JH fun hwf=>qZ (h.mono fun x T hh => ?_)
 obtain ⟨rfl,hk,l',hr,hll⟩:=hh;refine ⟨_,_,GhostB.ren (post_ren hwf (jl hwf h0.obj) (jl hwf h0.glob) (jl hwf h0.log) hk hr hll h0.og h0.ol h0.gl) (WD (p:=fun _=>false) (fun _ h=>by cases h) _ hx).symm,rfl,rfl⟩
theorem ids_tuple2 {p:Nat->Bool} (l:List Int) (e:Int):V.ids p (.tuple [vl vu l,vint e])=true:=rfl
theorem ids_vu {p:Nat->Bool} (l:List Int):V.ids p (vl vu l)=true:=rfl
theorem post_own {S:Store} {P:Ev.Prog} {s s':Ev.State} {o g l:Nat} {d e d' e':Int} {w:List (Option (Nat × List V))} {k:Nat} (ho:o<S.nx) (hg:g<S.nx) (hl:l<S.nx) (h5:o≠g) (h6:o≠l) (h7:g≠l) :
  JV (ownS S P s o g l d e w k) P s' o g (lid S.nx k) d' e'=ownS S P s' o g l d' e' (w.set k none++[some (1,s'.log.map vu)]) w.length:=by
 have hn:(ownS S P s o g l d e w k).nx=S.nx+w.length:=by simp [ownS,jL,lid]
 refine Store.ext' (funext fun i => ?_) (by simp only [JV,jL,hn]; simp [ownS,jL,lid]; omega);rw [JV,qI,hn,ownS,qI,ownS,qI]
 by_cases h1:i<S.nx
 ·have hk:i≠lid S.nx k:=by simp only [lid]; omega
  have hll:lid (S.nx+w.length) 0=lid S.nx w.length:=by simp [lid]
  simp only [if_pos h1,if_pos (show i<S.nx+w.length by omega),uGet,if_neg hk,hll]
  by_cases e1:i=o
  ·simp only [if_pos e1]
  ·simp only [if_neg e1]
   by_cases e2:i=g
   ·simp only [if_pos e2]
   ·simp only [if_neg e2]
 ·have hio:i≠o:=by omega
  have hig:i≠g:=by omega
  have hil:i≠l:=by omega
  simp only [if_neg h1,uGet,if_neg hio,if_neg hig]
  by_cases h2:i<S.nx+w.length
  ·rw [if_pos h2,aV (by simp; omega)]
   by_cases h3:i=lid S.nx k
   ·have h4:i-S.nx=k:=by simp only [lid] at h3; omega
    rw [if_pos h3,h4,aZ (by simp only [lid] at h3; omega)]; rfl
   ·rw [if_neg h3,aR (by simp only [lid] at h3; omega)]
  ·rw [if_neg h2,bi (by simp; omega)];simp only [List.length_set]
   congr 2; omega
theorem own_ren {S:Store} {P:Ev.Prog} {s:Ev.State} {o g l:Nat} {d e:Int} {w:List (Option (Nat × List V))} (hwf:S.Wf) (hr:RunAt S P s o g l d e) (hw : ∀ c∈w, ∀ x,c=some x->V.idsL (fun i=>decide (i<S.nx+w.length)) x.2=true) :
  RenS (renP (S.nx+w.length) l 0) S.nx (St S [] w) (ownS S P s o g l d e (w++[some (1,s.log.map vu)]) w.length):=by
 have on:=jl hwf hr.obj;have gn:=jl hwf hr.glob;have ln:=jl hwf hr.log;have hf : ∀ i,i<S.nx+w.length->renP (S.nx+w.length) l 0 i=i:=fun i h=>renP_lt h
 have hf0:renP (S.nx+w.length) l 0 (S.nx+w.length)=l:=renP_eq;have hn:(ownS S P s o g l d e (w++[some (1,s.log.map vu)]) w.length).nx=S.nx+w.length+1:=by simp [ownS,jL,lid]; omega
 have hs : ∀ i,((ownS S P s o g l d e (w++[some (1,s.log.map vu)]) w.length).get i).isSome=true->(i<S.nx+w.length/\i≠l)\/i=S.nx+w.length:=fun i h=>by
  by_cases h1:i<S.nx
  ·refine .inl ⟨by omega,fun e => ?_⟩;subst e;simp [ownS,jh h1,uGet,Ne.symm hr.ol,Ne.symm hr.gl] at h
  ·rw [ownS,qI,if_neg h1] at h
   by_cases h2:i-S.nx<(w++[some (1,s.log.map vu)]).length
   ·simp at h2; omega
   ·rw [aJ (by omega)] at h; cases h
 refine ⟨fun i c hc => ?_,fun i i' h1 h2 he => ?_,fun i hi => ?_,fun i hi=>hf i (by omega),by omega⟩
 ·rcases hs i (by rw [hc]; rfl) with ⟨h1,h2⟩ | h1
  ·refine ⟨by omega, ?_⟩;rw [hf i h1]
   by_cases h3:i<S.nx
   ·rw [jh h3];rw [ownS,jh h3] at hc;simp only [uGet] at hc ⊢;split at hc
    ·rename_i e; subst e
     cases hc
     rw [hr.obj];exact congrArg (fun c=>some (14,c)) (runC_ren (hf g (by omega)) hf0).symm
    ·split at hc
     ·rename_i e; subst e
      cases hc
      rw [hr.glob,jn]
     ·rw [hc];have:=hwf.ids i c hc;simp only [qr,aD] at this;rw [qi,(a7 fun x hm=>WD (fun o h=>hf o (by have:=aQ h; omega)) x (this x hm)).trans (List.map_id _)]
   ·rw [qI,if_neg h3];rw [ownS,qI,if_neg h3,aV (by omega)] at hc
    cases hw2:w[i-S.nx]? with
    | none=>rw [hw2] at hc; cases hc
    | some y =>
     rw [hw2] at hc;simp only [Option.join_some] at hc ⊢;have:=hw y (aA hw2) c hc;simp only [qr,aD] at this;rw [hc,qi,(a7 fun x hm=>WD (fun o h=>hf o (by simpa using h)) x (this x hm)).trans (List.map_id _)]
  ·subst h1;refine ⟨by omega, ?_⟩;rw [hf0,jh ln];rw [ownS,qI,if_neg (by omega),bi (by omega)] at hc;simp at hc;subst hc;simp [uGet,hr.log,jn]
 ·rcases hs i h1 with ⟨k1,k2⟩ | rfl
  ·rw [hf i k1] at he;rcases hs i' h2 with ⟨k3,k4⟩ | rfl
   ·rw [hf i' k3] at he; exact he
   ·rw [hf0] at he; exact absurd he k2
  ·rw [hf0] at he;rcases hs i' h2 with ⟨k3,k4⟩ | rfl
   ·rw [hf i' k3] at he; exact absurd he.symm k4
   ·rfl
 ·rw [hn] at hi;rw [renP_gt (by omega),jL,lid];omega
theorem own_at {S:Store} {P:Ev.Prog} {s:Ev.State} {o g l:Nat} {d e:Int} {w:List (Option (Nat × List V))} {k:Nat} (ho:o<S.nx) (hg:g<S.nx) (hl:l<S.nx) (h5:o≠g) (h6:o≠l) (h7:g≠l) (hk:(w[k]?).join=some (1,s.log.map vu)):RunAt (ownS S P s o g l d e w k) P s o g (lid S.nx k) d e:=by
 refine ⟨?_, ?_, ?_,h5, ?_, ?_⟩
 ·rw [ownS,jh ho]; simp [uGet]
 ·rw [ownS,jh hg]; simp [uGet,Ne.symm h5]
 ·rw [ownS,jv,hk]
 ·simp only [lid]; omega
 ·simp only [lid]; omega
theorem own_keeps {S:Store} {P:Ev.Prog} {s:Ev.State} {o g l:Nat} {d e:Int} {w:List (Option (Nat × List V))} {k:Nat}:Keeps S (ownS S P s o g l d e w k) [o,g,l] :=
 KQ fun i c hi=>by
  simp only [aL,List.not_mem_nil,or_false,not_or] at hi;simp [uGet,hi.1,hi.2.1,hi.2.2]
theorem own_end {S:Store} {P:Ev.Prog} {s:Ev.State} {o g l:Nat} {d e:Int} {out:List Int} {w:List (Option (Nat × List V))} {k:Nat} (hwf:S.Wf) (ho:o<S.nx) (hg:g<S.nx) (hl:l<S.nx) (h5:o≠g) (h6:o≠l) (h7:g≠l) (hk:(w[k]?).join=some (1,s.log.map vu)) :
  Ja S.nx (RunPost P o g l d (out,s,e) S) (vl vu out) (ownS S P s o g l d e w k) :=
 ⟨_,_,GhostB.refl _ _ _,rfl,own_keeps,lid S.nx k,own_at ho hg hl h5 h6 h7 hk, .inr (by simp [lid])⟩
theorem own_nil {S:Store} {P:Ev.Prog} {s:Ev.State} {o g l:Nat} {d e:Int} {w:List (Option (Nat × List V))} {k:Nat} (hwf:S.Wf) (ho:o<S.nx) (hg:g<S.nx) (hl:l<S.nx) (h5:o≠g) (h6:o≠l) (h7:g≠l) (hk:(w[k]?).join=some (1,s.log.map vu)) :
  Ja S.nx (RunPost P o g l d ([],s,e) S) .nils (ownS S P s o g l d e w k) :=
 ⟨_,_,(Ghost.nils_list _).toB _,rfl,own_keeps,lid S.nx k,own_at ho hg hl h5 h6 h7 hk, .inr (by simp [lid])⟩
end Go.Vw
namespace Go.Vw
open Go.Proofs Go.RowKit
attribute [-simp] List.map_set
attribute [local simp] encRDef_eq
abbrev ckR (e:Ss.Env) (f:Ss.Fn) (ds:List Ss.Def) (near:List Int):V := .ref (.agg (ckC e f (vl qe ds) (vl vint near)))
theorem reqF_step {α:Type} {p:α->α->Bool} {l m:List α} {k:Nat} (h1:k<l.length) (h2:k<m.length):eqF p (l.drop k) (m.drop k)=(p l[k] m[k]&&eqF p (l.drop (k+1)) (m.drop (k+1))):=by
 rw [am h1,am h2,eqF]
theorem reqF_end {α:Type} {p:α->α->Bool} {l m:List α} {k:Nat} (h1 : ¬ k<l.length) (h2 : ¬ k<m.length):eqF p (l.drop k) (m.drop k)=true:=by
 have e1:l.drop k=[]:=by rw [aH]; omega
 have e2:m.drop k=[]:=by rw [aH]; omega
 rw [e1,e2,eqF]
theorem jck (e:Ss.Env) (f:Ss.Fn) (ds:List Ss.Def) (near:List Int) (l:List Int) (hl:l.length<=1048576) (hv:Ss.InTs f.types.length l):bS 46 [ckR e f ds near,vl vint l] (vl vint (Ss.typesOf f.types l)):=by
 intro S;obtain ⟨⟨fi,fo⟩,ts,bs⟩:=f;simp only at hv;generalize hg:(fun v:Int=>ts.getD v.toNat 0)=g;have hX:Ss.typesOf ts l=l.map g:=by rw [Ss.typesOf,hg]
 simp only;rw [hX];refine QB (c:=jc Tryz.f46) Tryz.func46 Tryz.ntmps46 fun hwf=>?_
 refine QY ?_;refine QY ?_;refine zx 5 1 rfl (by conv=>lhs; simp [Fr.set]) ?_
 refine bw ?_
 refine QT ?_;refine jd [0,1,5,6] rfl (fun c σ S' => ∃ (k:Nat) (out:List Int),k<=l.length/\c=l.length-k/\out=(l.take k).map g/\out.length=k/\σ=[(0,ckR e ⟨⟨fi,fo⟩,ts,bs⟩ ds near),(1,vl vint l),(5, .slice (lid S.nx 0) 0 k),(6,vnat k)]/\S'=St S [] [some (1,out.map vint)]) l.length ?_ ?_
 ·exact ⟨0,[],by omega,rfl,by simp,rfl,by simp [Fr.only],by simp⟩
 ·rintro c σ T ⟨k,out,hk,rfl,ho,hlen,rfl,rfl⟩
  by_cases hkt:k<l.length
  ·have hw:=jg hkt (by omega);obtain ⟨h0,h1⟩:=hv _ (ah hkt);obtain ⟨v,hx⟩ : ∃ v,l[k]=v:=⟨_,rfl⟩
   rw [hx] at h0 h1;obtain ⟨n,rfl⟩ : ∃ n:Nat,v=n:=⟨v.toNat,by omega⟩
   have hn:n<ts.length:=by omega
   have hgn:g (n:Int)=ts[n]:=by rw [<-hg]; simp [hn]
   have htk:l.take (k+1)=l.take k++[(n:Int)]:=by rw [List.take_add_one,ac hkt,hx]; rfl
   have hb:(k+1)*8<=140737488355328:=by omega
   have hb':k+1<=140737488355328:=by omega
   refine bz hkt hx hn hlen hb hb' ?_
   refine QT ?_;refine QJ (St S [] [none]) (St S [] [none]) [] ?_ (r:=by conv=>lhs; simp [QV,hkt,hx,hn,hlen,hb,hb']);refine QI ?_ (r:=by conv=>lhs;simp[QV,hkt,hx,hn,hlen,hb,hb']);refine QI ?_ (r:=by conv=>lhs;simp[QV,hkt,hx,hn,hlen,hb,hb']);refine QW ?_
   refine bz hkt hx hn hlen hb hb' ?_
   refine QA [2] (h:=⟨?_,k+1,out++[ts[n]],hkt,rfl,by rw [htk,List.map_append,ho]; simp [hgn],by simp [hlen],by simp [hw],by simp⟩);omega
  ·have hke:k=l.length:=by omega
   subst hke;rw [List.take_length] at ho
   refine bx hkt ?_
   rw [<-ho];exact jf hwf ((frz1 (by simp) (by rfl) (jq vint (fun _=>rfl) _) (by simpa using hlen)).toB _) rfl
theorem jcl (e:Ss.Env) (f:Ss.Fn) (ds:List Ss.Def) (near:List Int) (block pos:Int) (l types:List Int) (hds:ds.length=f.types.length) (htl:f.types.length<2^63) (hnl:near.length<2^63) (hl:l.length<2^63) (hnn : ∀ x∈ds,x.made=true->0<=x.block) :
  bS 82 [ckR e f ds near,vl vint l,vl vint types,vint block,vint pos] (.bool (Ss.asks f.types ds near block pos l types)):=by
 intro S;obtain ⟨⟨fi,fo⟩,ts,bs⟩:=f;simp only at hds htl ⊢;unfold Ss.asks;generalize hP:Ss.askOk ts ds near block pos=P
 by_cases hlm:l.length=types.length
 case neg =>
  have hlm' : ¬ (l.length:Int)=(types.length:Int):=by omega
  rw [eqF_len hlm];refine QB (c:=jc Tryz.f82) Tryz.func82 Tryz.ntmps82 fun hwf=>?_
  refine bt hlm hlm' ?_
  exact bN
 have hlm':(l.length:Int)=(types.length:Int):=by omega
 refine QB (c:=jc Tryz.f82) Tryz.func82 Tryz.ntmps82 fun hwf=>?_
 refine bt hlm hlm' ?_
 refine QT ?_;refine jd [0,1,2,3,4,11] rfl (fun c σ S' => ∃ (k:Nat),k<=l.length/\c=l.length-k/\eqF P (l.drop k) (types.drop k)=eqF P l types/\σ=[(0,ckR e ⟨⟨fi,fo⟩,ts,bs⟩ ds near),(1,vl vint l),(2,vl vint types),(3,vint block),(4,vint pos),(11,vnat k)]/\S'=St S [] []) l.length ?_ ?_
 ·exact ⟨0,by omega,rfl,rfl,by simp [Fr.only],rfl⟩
 ·rintro c σ T ⟨k,hk,rfl,hd,rfl,rfl⟩
  by_cases hkt:k<l.length
  case neg =>
   have hkm : ¬ k<types.length:=by omega
   refine bx hkt ?_
   rw [<-hd,reqF_end hkt hkm];exact bN
  have hkm:k<types.length:=by omega
  have hw:=jg hkt hl;have hst:=reqF_step (p:=P) hkt hkm;obtain ⟨v,hx⟩ : ∃ v,l[k]=v:=⟨_,rfl⟩
  obtain ⟨t,ht⟩ : ∃ t,types[k]=t:=⟨_,rfl⟩
  rw [hx,ht] at hst
  by_cases h0:v<0
  ·have e:P v t=false:=by rw [<-hP]; simp [Ss.askOk]; omega
   rw [e,aX,hd] at hst
   refine bv hkt hx h0 ?_
   rw [hst];exact bN
  obtain ⟨n,rfl⟩ : ∃ n:Nat,v=n:=⟨v.toNat,by omega⟩
  by_cases hnt:n<ts.length
  case neg =>
   have h1':(ts.length:Int)<=(n:Int):=by omega
   have e:P n t=false:=by rw [<-hP]; simp [Ss.askOk]; omega
   rw [e,aX,hd] at hst
   refine bD hkt hx h0 h1' ?_
   rw [hst];exact bN
  have h1' : ¬ (ts.length:Int)<=(n:Int):=by omega
  have h1:n<ds.length:=by omega
  obtain ⟨tt,htt⟩ : ∃ x,ts[n]=x:=⟨_,rfl⟩
  obtain ⟨⟨dm,db,dp⟩,hdx⟩ : ∃ x,ds[n]=x:=⟨_,rfl⟩
  have hX:P n t=(decide (tt=t)&&(dm&&(if db=block then decide (dp<pos) else G.dominates near db block))):=by
   rw [<-hP];simp [Ss.askOk,h1,hnt,htt,hdx,Bool.and_assoc]
  rw [hX] at hst
  by_cases h2:tt=t
  case neg =>
   rw [decide_eq_false h2,aX,aX,hd] at hst
   repeat first|refine QG ?_|refine QY ?_ (r:=by conv=>lhs;simp[QV,hkt,hkm,hx,ht,h0,h1',hnt,htt,h2])
   rw [hst];exact bN
  rw [decide_eq_true h2,aE] at hst
  cases dm with
  | false =>
   rw [aX,aX,hd] at hst
   repeat first|refine QG ?_|refine QY ?_ (r:=by conv=>lhs;simp[QV,hkt,hkm,hx,ht,h0,h1',hnt,htt,h2,h1,hdx])
   rw [hst];exact bN
  | true =>
   have hb0 : ¬ db<0:=by
    have:=hnn _ (ah h1);rw [hdx] at this;have:=this rfl;simp only at this;omega
   rw [aE] at hst
   by_cases h3:db=block
   ·rw [if_pos h3] at hst;subst h3
    by_cases h4:dp<pos
    ·have h4' : ¬ pos<=dp:=by omega
     rw [decide_eq_true h4,aE,hd] at hst
     repeat first|refine QG ?_|refine QY ?_ (r:=by conv=>lhs;simp[QV,hkt,hkm,hx,ht,h0,h1',hnt,htt,h2,h1,hdx,hb0,h4'])
     refine QA [] (h:=⟨?_,k+1,hkt,rfl,hst.symm,by simp [hw],by simp⟩);omega
    ·have h4':pos<=dp:=by omega
     rw [decide_eq_false h4,aX,hd] at hst
     repeat first|refine QG ?_|refine QY ?_ (r:=by conv=>lhs;simp[QV,hkt,hkm,hx,ht,h0,h1',hnt,htt,h2,h1,hdx,hb0,h4'])
     rw [hst];exact bN
   ·rw [if_neg h3] at hst;have cd:=RDominates_v near db block hnl;generalize G.dominates near db block=y at *
    repeat first|refine QG ?_|refine QY ?_ (r:=by conv=>lhs;simp[QV,hkt,hkm,hx,ht,h0,h1',hnt,htt,h2,h1,hdx,hb0,h3])
    refine QT ?_;refine QD (r:=by conv=>lhs;simp[QV,hkt,hkm,hx,ht,h0,h1',hnt,htt,h2,h1,hdx,hb0,h3]) (k:=?_);refine QL (cd) ?_
    by_cases hy:y=true
    ·rw [hy,aE,hd] at hst;refine bB hy ?_;refine bR ?_
     refine QA [] (h:=⟨?_,k+1,hkt,rfl,hst.symm,by simp [hw],by simp⟩);omega
    ·have hy':y=false:=by simpa using hy
     rw [hy',aX,hd] at hst;refine bB hy' ?_;refine bR ?_
     rw [hst];exact bN
end Go.Vw
