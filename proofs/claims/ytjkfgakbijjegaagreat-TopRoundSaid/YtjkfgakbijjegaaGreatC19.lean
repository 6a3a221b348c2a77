import Derived.Test.YtjkfgakbijjegaaGreatC18
/- Part of the proof. -/
set_option linter.unusedVariables false
set_option linter.unusedSimpArgs false
set_option maxRecDepth 10000
set_option maxHeartbeats 1000000

namespace Go.Vw
open Go.Proofs Go.RowKit Wm
attribute [-simp] List.map_set
theorem JB {n:Nat} {X r:V} {S T:Store} {R:V->Store->Prop} (h:zq n (fun r S'=>r=X/\S'=S) r T) (hR:R X S):zq n R r T:=by
 obtain ⟨x,S',h1,rfl,rfl⟩:=h;exact ⟨_,_,h1,hR⟩
theorem jdq {co fo:Nat} {mv:V} {c:Ck} {ps:List (Nat × Nat)} {S:Store} (hwf:S.Wf) (h:CIx co mv c fo ps S) (l:OL) (b:Bool) (e:Int) {E:EP} (hE:b=false -> ∀ T,Kept S [] T->E (jY 55 (c.flt e)) T) :
  VCallsX Tryz.prog 129 [.ptr co 0, .bool b,bH e] (St S [] l) (fun r T=>b=true/\r = .tuple []/\T=St S [] l) E :=
 jdr co fo mv c ps (St S [] l) (h.keep fun o ho=>jk (h.lt hwf o ho)) b e E fun hb T hk=>hE hb T (hk.up (by simp) (by simp))
def CkS (P:Program) (f:FuncId) (args:List V) (co:Nat) (mv:V) (p:Ck->Except Flt (List Int × List Int)):Prop :=
 ∀ (c:Ck) (own:List Nat) (S:Store) (E:EP),CI co mv c own S->(∀ e T,p c = .error e->Kept S [] T->E (jY 55 e) T) ->
  VCallsX P f args S (fun r T => ∃ i o,p c = .ok (i,o)/\r = .tuple [vl bH i,vl bH o]/\T=S) E
theorem apw (co:Nat) (m:Mod) (op:Int):CkS Tryz.prog 163 [.ptr co 0,bH op] co (.ref (jR m)) (memC m op):=by
 intro c own S E hi hE;obtain ⟨fo,ps,rfl,hx⟩:=hi;obtain ⟨fc,h1,_⟩:=hx.obj;have cA:=jgm op;obtain ⟨ac,hac⟩ : ∃ ac,Ss.accOf op=ac:=⟨_,rfl⟩
 rw [hac] at cA;obtain ⟨b,hb⟩ : ∃ b,decide (0<=m.pages)=b:=⟨_,rfl⟩
 have hmc:memC m op c=if b=false then .error (c.flt 9) else if op=63 then .ok ([],[127])
   else match Ss.accOf op with
   | none => .ok ([127],[127])
   | some a=>if a.store=true then .ok ([127,a.kind],[]) else .ok ([127],[a.kind]):=by
  unfold memC;rw [<-hb];by_cases hp:m.pages<0
  .rw [if_pos hp,if_pos (by simp; omega)]
  .rw [if_neg hp,bf (show 0<=m.pages by omega)]
   rfl
 refine jc (c:=jf Tryz.f163) Tryz.func163 rfl rfl (by simp [Tryz.ntmps163]) ?_;rw [Tryz.ntmps163];intro hwf;have l1:=hx.lt hwf co (by simp [ownC]);have g1 : ∀ l,(St S [] l).get co=_:=fun l=>(jk l1).trans h1;simp only [jR] at g1;refine bk ?_;refine XQ E ?_ (r:=by conv=>lhs;simp[QV,g1,hb]);refine jb rfl (jdq hwf hx _ b 9 (fun h T hk=>hE _ T (by rw [hmc,if_pos h]) hk)) ?_;rintro _ _ ⟨rfl,rfl,rfl⟩;rw [if_neg (by simp)] at hmc;refine ja ?_;have gg : ∀ (x:Int),Ghost (.tuple [.nils, .slice (lid S.nx 0) 0 1]) (St S [] [some (1,[bH x])]) (.tuple [vl bH [],vl bH [x]]) (St S [] [none]):=fun x=>(Ghost.tp [] [_] (Ghost.nl _)).trans (Ghost.tp [_] [] (frz1 (k:=0) (by simp) (by rfl) (by rfl) (by rfl)));refine XQ E ?_;refine qr rfl (cA) ?_;refine XN ?_;refine ja ?_;by_cases h63:op=63
 .rw [if_pos h63] at hmc;refine bi h63 ?_;exact JB (qc hwf ((gg 127).toB _) rfl) ⟨_,_,hmc,rfl,rfl⟩
 .rw [if_neg h63] at hmc;cases ac with
  | none =>
   rw [hac] at hmc;refine bi h63 ?_;exact JB (qc hwf (((Ghost.tp [] [_] (frz1 (k:=0) (by simp) (by rfl) (by rfl) (by rfl))).trans (Ghost.tp [_] [] (frz1 (k:=1) (by simp) (by rfl) (by rfl) (by rfl)))).toB _) rfl) ⟨[127],[127],hmc,rfl,rfl⟩
  | some a =>
   obtain ⟨ak,aw,ast,asg⟩:=a;rw [hac] at hmc;cases ast with
   | true =>
    refine bi h63 ?_;exact JB (qc hwf (((Ghost.tp [] [_] (frz1 (k:=0) (by simp) (by rfl) (by rfl) (by rfl))).trans (Ghost.tp [_] [] (Ghost.nl _))).toB _) rfl) ⟨[127,ak],[],hmc,rfl,rfl⟩
   | false =>
    refine bi h63 ?_;exact JB (qc hwf (((Ghost.tp [] [_] (frz1 (k:=0) (by simp) (by rfl) (by rfl) (by rfl))).trans (Ghost.tp [_] [] (frz1 (k:=1) (by simp) (by rfl) (by rfl) (by rfl)))).toB _) rfl) ⟨[127],[ak],hmc,rfl,rfl⟩
def DU (u:Upds):Store:=⟨fun o=>uGet u o none,0⟩
theorem aal {u:Upds} : ∀ {o:Nat} {d:Nat × List V},(DU u).get o=some d->(o,some d)∈u:=by
 induction u with
 | nil=>intro o d h; cases h
 | cons p u ih =>
  obtain ⟨k,c⟩:=p;intro o d h;simp only [DU,uGet] at h;split at h
  .rename_i e; subst e; subst h; simp
  .exact List.mem_cons_of_mem _ (ih h)
theorem aae {u:Upds} {B X:Store} {ks:List Nat} {n0:Nat} {lx:Bool} (hu : ∀ p∈u,X.get p.1=p.2) (hk:Kept B ks X) (hn:n0<=X.nx):ZX.ok ⟨DU u,DU u,B,ks,n0,lx⟩ X :=
 ⟨fun o d h=>⟨d,hu _ (aal h),rfl,rfl,fun i x hx => .inr hx⟩,fun o d h=>⟨d,hu _ (aal h),rfl⟩,hk,hn⟩
theorem jea {u:Upds} {B:Store} {ks:List Nat} {n0:Nat} {lx:Bool} (hu : ∀ p∈u,p.1<n0) (hB:B.nx<=n0):ZX.old ⟨DU u,DU u,B,ks,n0,lx⟩ :=
 ⟨fun o d h=>hu _ (aal h),fun o d h=>hu _ (aal h),hB⟩
theorem aia (co:Nat) (m:Mod) (op:Int) (n m':Nat) (ty:Wm.Sig) (body els:List Wm.Ins) (he:Bool) (ts:List Int) (hn:n<18446744073709551616) (hop:32<=op/\op<=36) (c:Ck) (hlo:c.locals.length<=1000000) (hgl:m.globals.length<=1000000) (own:List Nat) (S:Store) (E:EP) (hi:CI co (.ref (jR m)) c own S) (hE : ∀ e T,varC m op n c = .error e->Kept S [] T->E (jY 55 e) T) :
  VCallsX Tryz.prog 162 [.ptr co 0,encI (.mk op n m' ty body els he ts)] S (fun r T => ∃ i o,varC m op n c = .ok (i,o)/\r = .tuple [vl bH i,vl bH o]/\T=S) E:=by
 obtain ⟨fo,ps,rfl,hx⟩:=hi;obtain ⟨fc,h1,_⟩:=hx.obj;rw [jK];refine jc (c:=jf Tryz.f162) Tryz.func162 rfl rfl (by simp [Tryz.ntmps162]) ?_;rw [Tryz.ntmps162];intro hwf;have l1:=hx.lt hwf co (by simp [ownC]);have g1 : ∀ l,(St S [] l).get co=_:=fun l=>(jk l1).trans h1;simp only [jR] at g1;obtain ⟨M,hM⟩ : ∃ M,[V.ref (.agg [vl je m.types,vl jp m.imports,vl encF m.funcs,bH m.pages,bH m.most,vl jv m.globals,vl jr m.exports,bH m.start,vl jq m.datas]),bI c.k,bI c.op,vl bH c.locals,fc,bI c.ops]=M:=⟨_,rfl⟩
 rw [hM] at g1;have dg:(DU [(co,some (6,M))]).get co=some (6,M):=by simp [DU,uGet]
 have dok : ∀ l:OL,ZX.ok ⟨DU [(co,some (6,M))],DU [(co,some (6,M))],S,[],lid S.nx 1,false⟩ (St S [] (none::l)):=fun l=>aae (fun p hp=>by simp only [aM] at hp; subst hp; exact g1 _) (jN (by simp)) (by rw [jH]; simp [lid]);have dold:ZX.old ⟨DU [(co,some (6,M))],DU [(co,some (6,M))],S,[],lid S.nx 1,false⟩:=jea (fun p hp=>by simp only [aM] at hp; subst hp; simp [lid]; omega) (by simp [lid]);obtain ⟨D,hD⟩ : ∃ D,DU [(co,some (6,M))]=D:=⟨_,rfl⟩
 rw [hD] at dg dok dold;rw [<-hM] at dg;by_cases h35:op<35
 .obtain ⟨b,hb⟩ : ∃ b,decide (n<c.locals.length)=b:=⟨_,rfl⟩
  have hvc:varC m op n c=if b=false then .error (c.flt 9) else .ok (if op=32 then ([],[c.locals[n]?.getD 0]) else if op=33 then ([c.locals[n]?.getD 0],[]) else ([c.locals[n]?.getD 0],[c.locals[n]?.getD 0])):=by
   unfold varC;rw [if_pos h35, <-hb];by_cases hlt:n<c.locals.length
   .rw [aa hlt,bf hlt]; rfl
   .rw [aC (by omega),bg hlt]; rfl
  have a1:IntKind.u64.wrap (c.locals.length:Int)=(c.locals.length:Int):=by rw [jZ]; omega
  refine bi h35 ?_;refine qi 3 rfl (WH (k:=0) (s:=9) (cs:=[bH op, .int .u64 n, .int .u64 m',vl bH ty.inn,vl bH ty.out,vl encI body,vl encI els, .bool he,vl bH ts]) (by simp) (by simp) rfl (by simp)) (by conv=>lhs; simp [Fr.set]) ?_;refine QT ?_;refine XD E (⟨D,D,S,[],lid S.nx 1,false⟩) [] [0,1,2,3,4,5,6,7,8,9,10] [21] (ho:=dold) (hz:=dok []) (r:=by conv=>lhs;simp[QV,↓ju,ZR,Zs,zz,jl,ji,V.nj,V.nj1,V.bK,dg,a1,hb]) (k:=?_);refine qM rfl rfl (by rw [jH]; rfl) ((jdq hwf hx _ b 9 (fun h T hk=>hE _ T (by rw [hvc,if_pos h]) hk)).mono ?_ fun _ _ h=>h);rintro _ _ ⟨rfl,rfl,rfl⟩;refine ⟨dok [], ?_⟩;rw [if_neg (by simp)] at hvc;refine jy ?_;have hlt:n<c.locals.length:=by simpa using hb
  obtain ⟨t,ht⟩ : ∃ t,c.locals[n]?.getD 0=t:=⟨_,rfl⟩
  rw [ht] at hvc;have a2:IntKind.u64.wrap ((n:Int)+1)=((n+1:Nat):Int):=by rw [jZ]; omega
  have hsl:qN 1 D (vl bH c.locals) (some (.int .u64 (n:Int))) (some (.int .u64 ((n:Int)+1))) none=some (.list [.int .i64 t]):=by
   have e:((c.locals.map bH).take (n+1)).drop n=[bH t]:=by
    rw [List.drop_take,aj (by simpa using hlt)];have e2:c.locals[n]=t:=by rw [<-ht,aa hlt]; rfl
    simp [e2]
   have e3:(c.locals.map bH).all (fun x=>x.ncells==1)=true:=by simp
   have e4:((n:Int)+1).toNat=n+1:=by omega
   simp only [vl,qN,zd,ba,e4,e,aB];rw [if_pos (by omega),if_pos (by omega)];simp only;rw [if_pos ⟨by omega,by omega,by omega,by simp, .inr e3⟩];simp;exact e
  refine QT ?_;refine XD E (⟨D,D,S,[],lid S.nx 1,false⟩) [] [0,1,2,3,4,5,6,7,8,9,10] [] (ho:=dold) (hz:=dok []) (r:=by conv=>lhs;simp[QV,↓ju,ZR,Zs,zz,jl,ji,V.nj,V.nj1,V.bK,dg,a2,hsl]) (k:=?_);refine jy ?_;have h3:op=32\/op=33\/op=34:=by omega
  have w0:IntKind.i64.wrap 0=0:=by decide
  have w1:IntKind.i64.wrap 1=1:=by decide
  have w2:IntKind.i64.wrap 2=2:=by decide
  obtain ⟨L,hL⟩ : ∃ L,V.list [.int .i64 t]=L:=⟨_,rfl⟩
  have i0:jz 1 D (.list [.nils,L,L]) (.int .i64 0)=some (.ref .nils):=by rw [<-hL]; rfl
  have i1:jz 1 D (.list [.nils,L,L]) (.int .i64 1)=some (.ref L):=by rw [<-hL]; rfl
  have i2:jz 1 D (.list [.nils,L,L]) (.int .i64 2)=some (.ref L):=by rw [<-hL]; rfl
  have j0:jz 1 D (.list [L, .nils,L]) (.int .i64 0)=some (.ref L):=by rw [<-hL]; rfl
  have j1:jz 1 D (.list [L, .nils,L]) (.int .i64 1)=some (.ref .nils):=by rw [<-hL]; rfl
  have j2:jz 1 D (.list [L, .nils,L]) (.int .i64 2)=some (.ref L):=by rw [<-hL]; rfl
  subst hL;rcases h3 with rfl | rfl | rfl
  .refine QT ?_;refine XD E (⟨D,D,S,[],lid S.nx 1,false⟩) [34,42] [0,1,2,3,4,5,6,7,8,9,10,11,12,13,14,15,16,17] [] (ho:=dold) (hz:=dok []) (r:=by conv=>lhs;simp[QV,↓ju,ZR,Zs,zz,jl,ji,V.nj,V.nj1,V.bK,dg,w0,i0,j0]) (k:=?_);refine jy ?_;refine bk ?_;exact JB (qc hwf ((Ghost.tp [] [_] (Ghost.nl _)).toB _) rfl) ⟨[],[t],hvc,rfl,rfl⟩
  .refine QT ?_;refine XD E (⟨D,D,S,[],lid S.nx 1,false⟩) [34,42] [0,1,2,3,4,5,6,7,8,9,10,11,12,13,14,15,16,17] [] (ho:=dold) (hz:=dok []) (r:=by conv=>lhs;simp[QV,↓ju,ZR,Zs,zz,jl,ji,V.nj,V.nj1,V.bK,dg,w1,i1,j1]) (k:=?_);refine jy ?_;refine bk ?_;exact JB (qc hwf ((Ghost.tp [_] [] (Ghost.nl _)).toB _) rfl) ⟨[t],[],hvc,rfl,rfl⟩
  .refine QT ?_;refine XD E (⟨D,D,S,[],lid S.nx 1,false⟩) [34,42] [0,1,2,3,4,5,6,7,8,9,10,11,12,13,14,15,16,17] [] (ho:=dold) (hz:=dok []) (r:=by conv=>lhs;simp[QV,↓ju,ZR,Zs,zz,jl,ji,V.nj,V.nj1,V.bK,dg,w2,i2,j2]) (k:=?_);refine jy ?_;refine bk ?_;exact JB (jd hwf rfl rfl) ⟨[t],[t],hvc,rfl,rfl⟩
 .obtain ⟨b,hb⟩ : ∃ b,decide (n<m.globals.length)=b:=⟨_,rfl⟩
  have a1:IntKind.u64.wrap (m.globals.length:Int)=(m.globals.length:Int):=by rw [jZ]; omega
  refine bi h35 ?_;refine qi 3 rfl (WH (k:=0) (s:=9) (cs:=[bH op, .int .u64 n, .int .u64 m',vl bH ty.inn,vl bH ty.out,vl encI body,vl encI els, .bool he,vl bH ts]) (by simp) (by simp) rfl (by simp)) (by conv=>lhs; simp [Fr.set]) ?_;have hv0:b=false->varC m op n c = .error (c.flt 9):=fun h=>by
   unfold varC;rw [h] at hb;rw [if_neg h35,aC (by simpa using hb)]
  refine QT ?_;refine XD E (⟨D,D,S,[],lid S.nx 1,false⟩) [] [0,1,2,3,4,5,6,7,8,9,10,11,12,13,14] [62] (ho:=dold) (hz:=dok []) (r:=by conv=>lhs;simp[QV,↓ju,ZR,Zs,zz,jl,ji,V.nj,V.nj1,V.bK,dg,a1,hb]) (k:=?_);refine qM rfl rfl (by rw [jH]; rfl) ((jdq hwf hx _ b 9 (fun h T hk=>hE _ T (hv0 h) hk)).mono ?_ fun _ _ h=>h);rintro _ _ ⟨rfl,rfl,rfl⟩;refine ⟨dok [], ?_⟩;refine jy ?_;have hlt:n<m.globals.length:=by simpa using hb
  obtain ⟨g,hg⟩ : ∃ g,m.globals[n]=g:=⟨_,rfl⟩
  obtain ⟨gt,gw,gn⟩:=g;have hvc:varC m op n c=if op=35 then .ok ([],[gt]) else if gw=true then .ok ([gt],[]) else .error (c.flt 6):=by
   unfold varC;rw [if_neg h35,aa hlt,hg]
  have hgi:jz 3 D (vl jv m.globals) (.int .u64 (n:Int))=some (.ref (.agg [bH gt, .bool gw, .int .u64 gn])):=by
   have:(m.globals.map jv)[n]? = some (.agg [bH gt, .bool gw, .int .u64 gn]):=by rw [aQ,aa hlt,hg]; rfl
   simp [jz,vl,aa hlt,hg,jv]
  have dokl : ∀ l:OL,ZX.ok ⟨D,D,S,[],lid S.nx 1,false⟩ (St S [] (none::l)):=dok;refine QT ?_;refine XD E (⟨D,D,S,[],lid S.nx 1,false⟩) [] [0,1,2,3,4,5,6,7,8,9,10,11,12,13] [] (ho:=dold) (hz:=dok []) (r:=by conv=>lhs;simp[QV,↓ju,ZR,Zs,zz,jl,ji,V.nj,V.nj1,V.bK,dg,hgi]) (k:=?_);refine jo rfl (by conv=>lhs; simp [QV]) (dok _) ?_;refine jo rfl (by conv=>lhs; simp [QV]) (dok _) ?_;refine jy ?_;by_cases e35:op=35
  .rw [if_pos e35] at hvc;have d2:(DU [(lid S.nx 1,some (3,[.int .i64 gt, .bool gw, .int .u64 gn]))]).get (lid S.nx 1)=some (3,[.int .i64 gt, .bool gw, .int .u64 gn]):=by simp [DU,uGet]
   have d3:ZX.old ⟨DU [(lid S.nx 1,some (3,[.int .i64 gt, .bool gw, .int .u64 gn]))],DU [(lid S.nx 1,some (3,[.int .i64 gt, .bool gw, .int .u64 gn]))],S,[],lid S.nx 2,false⟩:=jea (fun p hp=>by simp only [aM] at hp; subst hp; simp [lid]) (by simp [lid]);have d4:ZX.ok ⟨DU [(lid S.nx 1,some (3,[.int .i64 gt, .bool gw, .int .u64 gn]))],DU [(lid S.nx 1,some (3,[.int .i64 gt, .bool gw, .int .u64 gn]))],S,[],lid S.nx 2,false⟩ (St S [] [none,some (3,[.int .i64 gt, .bool gw, .int .u64 gn])]):=aae (fun p hp=>by simp only [aM] at hp; subst hp; simp) (jN (by simp)) (by rw [jH]; simp [lid]);obtain ⟨D2,hD2⟩ : ∃ D2,DU [(lid S.nx 1,some (3,[V.int .i64 gt, .bool gw, .int .u64 gn]))]=D2:=⟨_,rfl⟩
   rw [hD2] at d2 d3 d4;refine bi e35 ?_;refine QT ?_;refine XD E (⟨D2,D2,S,[],lid S.nx 2,false⟩) [80] [0,1,2,3,4] [] (ho:=d3) (hz:=d4) (r:=by conv=>lhs;simp[QV,↓ju,ZR,Zs,zz,jl,ji,V.nj,V.nj1,V.bK,d2]) (k:=?_);refine jy ?_;refine bk ?_;exact JB (qc hwf ((Ghost.tp [] [_] (Ghost.nl _)).toB _) rfl) ⟨[],[gt],hvc,rfl,rfl⟩
  .rw [if_neg e35] at hvc;refine bi e35 ?_;refine XQ E ?_;refine jb rfl (jdq hwf hx _ gw 6 (fun h T hk=>hE _ T (by rw [hvc,h]; rfl) hk)) ?_;rintro _ _ ⟨rfl,rfl,rfl⟩;rw [if_pos rfl] at hvc;refine ja ?_;refine bk ?_;exact JB (qc hwf (((Ghost.tp [] [_] (frz1 (k:=2) (by simp) (by rfl) (by rfl) (by rfl))).trans (Ghost.tp [_] [] (Ghost.nl _))).toB _) rfl) ⟨[gt],[],hvc,rfl,rfl⟩
theorem ZQ {α:Type} (enc:α->V) (s:Nat) (hs : ∀ x,(enc x).ncells=s) (l:List α) (k:Nat) (h:k<l.length) (kd:IntKind) (T:Store):jz s T (vl enc l) (.int kd (k:Int))=some (.ref (enc l[k])):=by
 simp [jz,vl,aa h,hs]
theorem agp (m:Mod) (n:Int) (hm:m.imports.length<1000000/\m.funcs.length<1000000/\m.types.length<1000000):bF 88 [jR m,bH n] (.tuple [je (KI m n).1, .bool (KI m n).2]):=by
 intro S;obtain ⟨L,hL⟩ : ∃ L,m.imports.length+m.funcs.length=L:=⟨_,rfl⟩
 have a1:IntKind.i64.wrap ((m.imports.length:Int)+(m.funcs.length:Int))=(L:Int):=by rw [wrap_i64 (by omega) (by omega)]; omega
 simp only [jR];refine qm (c:=jf Tryz.f88) Tryz.func88 rfl (by conv=>lhs; reduce) (by simp [Tryz.ntmps88]) ?_;rw [Tryz.ntmps88];intro hwf;by_cases h0:n<0
 .have hs:KI m n=(⟨[],[]⟩,false):=by unfold KI; rw [if_pos (.inl h0)]
  rw [hs];refine bi h0 ?_;exact JZ (xs:=[.agg [.nils, .nils], .bool false]) (by simp) (qc hwf ((Ghost.tp [] [_] (ach _)).toB _) rfl)
 by_cases h1:(L:Int)<=n
 .have hs:KI m n=(⟨[],[]⟩,false):=by unfold KI; rw [if_pos (.inr (by omega))]
  rw [hs];refine bj h0 a1 h1 ?_;exact JZ (xs:=[.agg [.nils, .nils], .bool false]) (by simp) (qc hwf ((Ghost.tp [] [_] (ach _)).toB _) rfl)
 obtain ⟨k,rfl⟩ : ∃ k:Nat,n=k:=⟨n.toNat,by omega⟩
 obtain ⟨t,ht⟩ : ∃ t,(if (k:Int)<m.imports.length then ((m.imports[(k:Int).toNat]?).map Import.type).getD 0 else ((m.funcs[((k:Int)-m.imports.length).toNat]?).map Func.type).getD 0)=t:=⟨_,rfl⟩
 have hs:KI m k=if t<0\/(m.types.length:Int)<=t then (⟨[],[]⟩,false) else (m.types[t.toNat]?.getD ⟨[],[]⟩,true):=by
  unfold KI;rw [if_neg (by omega)];simp only [ht]
 rw [hs];have h0':((k:Int)<0)=False:=by simp
 have h1':((L:Int)<=(k:Int))=False:=by simp; omega
 have h1'':(L<=k)=False:=by simp; omega
 have hi : ∀ (hk:k<m.imports.length) T,jz 3 T (vl jp m.imports) (.int .i64 (k:Int))=some (.ref (jp m.imports[k])):=fun hk=>ZQ jp 3 (fun _=>rfl) _ _ hk _;have hf : ∀ (hk : ¬ k<m.imports.length), ∃ j:Nat,IntKind.i64.wrap ((k:Int)-(m.imports.length:Int))=(j:Int) /\ ∃ h:j<m.funcs.length,(∀ T,jz 3 T (vl encF m.funcs) (.int .i64 (j:Int))=some (.ref (encF m.funcs[j])))/\m.funcs[j].type=t:=fun hk=>by
  refine ⟨k-m.imports.length,by rw [wrap_i64 (by omega) (by omega)]; omega,by omega,ZQ encF 3 (fun _=>rfl) _ _ (by omega) _, ?_⟩;rw [if_neg (by omega),show ((k:Int)-m.imports.length).toNat=k-m.imports.length by omega,aa (by omega)] at ht;exact ht
 have ht' : ∀ hk:k<m.imports.length,m.imports[k].type=t:=fun hk=>by
  rw [if_pos (by omega),ba,aa hk] at ht;exact ht
 have fin0 : ∀ (T:Store),Ghost (.tuple [.agg [.nils, .nils], .bool false]) T (.tuple [je ⟨[],[]⟩, .bool false]) T:=fun T=>Ghost.tp [] [_] (ach T);by_cases t0:t<0
 .rw [if_pos (.inl t0)];by_cases hk:k<m.imports.length
  .have hi1:=hi hk;have ht1:=ht' hk
   repeat first|refine QG ?_|refine QY ?_ (r:=by conv=>lhs;simp[QV,h0,a1,h1,h0',h1',h1'',hk,hi1,jp,ht1,t0])
   exact JZ (xs:=[.agg [.nils, .nils], .bool false]) (by simp) (qc hwf ((fin0 _).toB _) rfl)
  .obtain ⟨j,w1,hj,hfi,htj⟩:=hf hk
   repeat first|refine QG ?_|refine QY ?_ (r:=by conv=>lhs;simp[QV,h0,a1,h1,h0',h1',h1'',hk,w1,hfi,encF,htj,t0])
   exact JZ (xs:=[.agg [.nils, .nils], .bool false]) (by simp) (qc hwf ((fin0 _).toB _) rfl)
 by_cases t1:(m.types.length:Int)<=t
 .rw [if_pos (.inr t1)];by_cases hk:k<m.imports.length
  .have hi1:=hi hk;have ht1:=ht' hk
   repeat first|refine QG ?_|refine QY ?_ (r:=by conv=>lhs;simp[QV,h0,a1,h1,h0',h1',h1'',hk,hi1,jp,ht1,t0,t1])
   exact JZ (xs:=[.agg [.nils, .nils], .bool false]) (by simp) (qc hwf ((fin0 _).toB _) rfl)
  .obtain ⟨j,w1,hj,hfi,htj⟩:=hf hk
   repeat first|refine QG ?_|refine QY ?_ (r:=by conv=>lhs;simp[QV,h0,a1,h1,h0',h1',h1'',hk,w1,hfi,encF,htj,t0,t1])
   exact JZ (xs:=[.agg [.nils, .nils], .bool false]) (by simp) (qc hwf ((fin0 _).toB _) rfl)
 rw [if_neg (by omega)];obtain ⟨i,rfl⟩ : ∃ i:Nat,t=i:=⟨t.toNat,by omega⟩
 have hil:i<m.types.length:=by omega
 obtain ⟨sg,hsg⟩ : ∃ sg,m.types[i]=sg:=⟨_,rfl⟩
 have hti : ∀ T,jz 2 T (vl je m.types) (.int .i64 (i:Int))=some (.ref (je sg)):=fun T=>by rw [<-hsg]; exact ZQ je 2 (fun _=>rfl) _ _ hil _ T
 have t0':((i:Int)<0)=False:=by simp
 have t1':((m.types.length:Int)<=(i:Int))=False:=by simp; omega
 have t1'':(m.types.length<=i)=False:=by simp; omega
 rw [ba,aa hil,hsg];by_cases hk:k<m.imports.length
 .have hi1:=hi hk;have ht1:=ht' hk
  repeat first|refine QG ?_|refine QY ?_ (r:=by conv=>lhs;simp[QV,h0,a1,h1,h0',h1',h1'',hk,hi1,jp,ht1,t0',t1',t1'',hti,je])
  exact JZ (xs:=[.agg [vl bH sg.inn,vl bH sg.out], .bool true]) (by simp) (jd hwf rfl rfl)
 .obtain ⟨j,w1,hj,hfi,htj⟩:=hf hk
  repeat first|refine QG ?_|refine QY ?_ (r:=by conv=>lhs;simp[QV,h0,a1,h1,h0',h1',h1'',hk,w1,hfi,encF,htj,t0',t1',t1'',hti,je])
  exact JZ (xs:=[.agg [vl bH sg.inn,vl bH sg.out], .bool true]) (by simp) (jd hwf rfl rfl)
theorem i64w (n:Int):IntKind.i64.wrap n=(n+9223372036854775808) % 18446744073709551616-9223372036854775808:=by
 simp only [IntKind.wrap,IntKind.bits,IntKind.signed];simp;split<;>omega
theorem ajw {S:Store} (x:Int):Ghost (.tuple [.nils, .slice (lid S.nx 1) 0 1]) (St S [] [none,some (1,[.int .i64 x])]) (.tuple [vl bH [],vl bH [x]]) (St S [] [none,none]) :=
 (Ghost.tp [] [_] (Ghost.nl _)).trans (Ghost.tp [_] [] (frz1 (k:=1) (by simp) (by rfl) (by rfl) (by rfl)))
structure okMc (m:Mod) (c:Ck):Prop where
 n:m.imports.length<1000000/\m.funcs.length<1000000/\m.types.length<1000000
 gl:m.globals.length<=1000000
 lo:c.locals.length<=1000000
theorem axj (co:Nat) (m:Mod) (op:Int) (hop:Ss.I64 op) (n m':Nat) (ty:Wm.Sig) (body els:List Wm.Ins) (he:Bool) (ts:List Int) (hn:n<18446744073709551616) (c:Ck) (hmc:okMc m c) (own:List Nat) (S:Store) (E:EP) (hi:CI co (.ref (jR m)) c own S) (hE : ∀ e T,sigC m op n c = .error e->Kept S [] T->E (jY 55 e) T) :
  VCallsX Tryz.prog 142 [.ptr co 0,encI (.mk op n m' ty body els he ts)] S (fun r T => ∃ i o,sigC m op n c = .ok (i,o)/\r = .tuple [vl bH i,vl bH o]/\T=S) E:=by
 have hi0:=hi;obtain ⟨fo,ps,rfl,hx⟩:=hi;obtain ⟨fc,h1,_⟩:=hx.obj;rw [jK];refine jc (c:=jf Tryz.f142) Tryz.func142 rfl rfl (by simp [Tryz.ntmps142]) ?_;rw [Tryz.ntmps142];intro hwf;have l1:=hx.lt hwf co (by simp [ownC]);have g1 : ∀ l,(St S [] l).get co=_:=fun l=>(jk l1).trans h1;simp only [jR] at g1;obtain ⟨M,hM⟩ : ∃ M,[V.ref (.agg [vl je m.types,vl jp m.imports,vl encF m.funcs,bH m.pages,bH m.most,vl jv m.globals,vl jr m.exports,bH m.start,vl jq m.datas]),bI c.k,bI c.op,vl bH c.locals,fc,bI c.ops]=M:=⟨_,rfl⟩
 rw [hM] at g1;have dg:(DU [(co,some (6,M))]).get co=some (6,M):=by simp [DU,uGet]
 have dok : ∀ l:OL,ZX.ok ⟨DU [(co,some (6,M))],DU [(co,some (6,M))],S,[],lid S.nx 1,false⟩ (St S [] (none::l)):=fun l=>aae (fun p hp=>by simp only [aM] at hp; subst hp; exact g1 _) (jN (by simp)) (by rw [jH]; simp [lid]);have dold:ZX.old ⟨DU [(co,some (6,M))],DU [(co,some (6,M))],S,[],lid S.nx 1,false⟩:=jea (fun p hp=>by simp only [aM] at hp; subst hp; simp [lid]; omega) (by simp [lid]);obtain ⟨D,hD⟩ : ∃ D,DU [(co,some (6,M))]=D:=⟨_,rfl⟩
 rw [hD] at dg dok dold;rw [<-hM] at dg;refine XQ E ?_;refine ja ?_;refine qi 3 rfl (WH (k:=0) (s:=9) (cs:=[bH op, .int .u64 n, .int .u64 m',vl bH ty.inn,vl bH ty.out,vl encI body,vl encI els, .bool he,vl bH ts]) (by simp) (by simp) rfl (by simp)) (by conv=>lhs; simp [Fr.set]) ?_;by_cases c1:op=1
 .have hs:sigC m op n c = .ok ([],[]):=by unfold sigC; rw [if_pos c1]
  refine bi c1 ?_;exact JB (qc hwf (((Ghost.tp [] [_] (Ghost.nl _)).trans (Ghost.tp [_] [] (Ghost.nl _))).toB _) rfl) ⟨[],[],hs,rfl,rfl⟩
 by_cases c16:op=16
 .obtain ⟨sg,hsg⟩ : ∃ sg,(KI m (i64 n)).1=sg:=⟨_,rfl⟩
  obtain ⟨ok,hok⟩ : ∃ ok,(KI m (i64 n)).2=ok:=⟨_,rfl⟩
  have hs:sigC m op n c=if ok=true then .ok (sg.inn,sg.out) else .error (c.flt 9):=by unfold sigC; rw [if_neg c1,if_pos c16,hsg,hok]
  have pS:=agp m (i64 n) hmc.n;rw [hsg,hok] at pS;simp only [jR,je] at pS;have w1:IntKind.i64.wrap (n:Int)=i64 n:=i64w n;refine bm c1 c16 ?_;refine QT ?_;refine XD E (⟨D,D,S,[],lid S.nx 1,false⟩) [] [0,1,2,3,4,5,6,7,8,9,10,11,12,13,14,15,16] [] (ho:=dold) (hz:=dok []) (r:=by conv=>lhs;simp[QV,↓ju,ZR,Zs,zz,jl,ji,V.nj,V.nj1,V.bK,dg,w1]) (k:=?_);refine JF rfl pS rfl ?_;refine ZM (r:=by conv=>lhs;simp[QV,↓ju,ZR,Zs,zz,jl,ji,V.nj,V.nj1,V.bK]) (k:=?_);refine jo rfl (by conv=>lhs; simp [QV]) (dok _) ?_;refine jo rfl (by conv=>lhs; simp [QV]) (dok _) ?_;refine ZM (r:=by conv=>lhs;simp[QV,↓ju,ZR,Zs,zz,jl,ji,V.nj,V.nj1,V.bK]) (k:=?_);refine jy ?_;refine bk ?_;refine XQ E ?_;refine jb rfl (jdq hwf hx _ ok 9 (fun h T hk=>hE _ T (by rw [hs,h]; rfl) hk)) ?_;rintro _ _ ⟨rfl,rfl,rfl⟩;rw [if_pos rfl] at hs;refine ja ?_;have d2:(DU [(lid S.nx 1,some (2,[vl bH sg.inn,vl bH sg.out]))]).get (lid S.nx 1)=some (2,[vl bH sg.inn,vl bH sg.out]):=by simp [DU,uGet]
  have d3:ZX.old ⟨DU [(lid S.nx 1,some (2,[vl bH sg.inn,vl bH sg.out]))],DU [(lid S.nx 1,some (2,[vl bH sg.inn,vl bH sg.out]))],S,[],lid S.nx 2,false⟩:=jea (fun p hp=>by simp only [aM] at hp; subst hp; simp [lid]) (by simp [lid]);have d4:ZX.ok ⟨DU [(lid S.nx 1,some (2,[vl bH sg.inn,vl bH sg.out]))],DU [(lid S.nx 1,some (2,[vl bH sg.inn,vl bH sg.out]))],S,[],lid S.nx 2,false⟩ (St S [] [none,some (2,[vl bH sg.inn,vl bH sg.out])]):=aae (fun p hp=>by simp only [aM] at hp; subst hp; simp) (jN (by simp)) (by rw [jH]; simp [lid]);obtain ⟨D2,hD2⟩ : ∃ D2,DU [(lid S.nx 1,some (2,[vl bH sg.inn,vl bH sg.out]))]=D2:=⟨_,rfl⟩
  rw [hD2] at d2 d3 d4;refine QT ?_;refine XD E (⟨D2,D2,S,[],lid S.nx 2,false⟩) [] [0,1,2,3,4,5] [] (ho:=d3) (hz:=d4) (r:=by conv=>lhs;simp[QV,↓ju,ZR,Zs,zz,jl,ji,V.nj,V.nj1,V.bK,d2]) (k:=?_);refine jy ?_;refine bk ?_;exact JB (jd hwf rfl rfl) ⟨sg.inn,sg.out,hs,rfl,rfl⟩
 by_cases c32:32<=op/\op<=36
 .have hs:sigC m op n c=varC m op n c:=by unfold sigC; rw [if_neg c1,if_neg c16,if_pos c32]
  have k1:=c32.1;have k2:=c32.2;refine bq c1 c16 k1 k2 ?_;refine XQ E ?_;have hvc:=aia co m op n m' ty body els he ts hn c32 c hmc.lo hmc.gl _ (St S [] [none]) E (hi0.up hwf _) (fun e T he hk=>hE e T (by rw [hs]; exact he) (hk.up (by simp) (by simp)));rw [jK] at hvc;refine jb rfl hvc ?_;rintro _ _ ⟨i,o,hv,rfl,rfl⟩;rw [<-hs] at hv;refine XN ?_;refine ja ?_;refine bk ?_;exact JB (jd hwf rfl rfl) ⟨i,o,hv,rfl,rfl⟩
 have n32:(32<=op -> ¬ op<=36):=fun h1 h2=>c32 ⟨h1,h2⟩;by_cases c40:40<=op/\op<=64
 .have hs:sigC m op n c=memC m op c:=by unfold sigC; rw [if_neg c1,if_neg c16,if_neg c32,if_pos c40]
  have k1:=c40.1;have k2:=c40.2;have k3:(32<=op)=True:=by simp; omega
  have k4:(op<=36)=False:=by simp; omega
  refine bu c1 c16 k3 k4 k1 k2 ?_;refine XQ E ?_;refine jb rfl (apw co m op c _ (St S [] [none]) E (hi0.up hwf _) (fun e T he hk=>hE e T (by rw [hs]; exact he) (hk.up (by simp) (by simp)))) ?_;rintro _ _ ⟨i,o,hv,rfl,rfl⟩;rw [<-hs] at hv;refine XN ?_;refine ja ?_;refine bk ?_;exact JB (jd hwf rfl rfl) ⟨i,o,hv,rfl,rfl⟩
 have nS:=ad5 op hop;obtain ⟨sg,hsg⟩ : ∃ sg,Ss.bJ op=sg:=⟨_,rfl⟩
 rw [hsg] at nS;obtain ⟨si,so,sk⟩:=sg;simp only at nS;have hs:sigC m op n c=if op=65 then .ok ([],[127]) else if op=66 then .ok ([],[126]) else .ok (si,[so]):=by unfold sigC; rw [if_neg c1,if_neg c16,if_neg c32,if_neg c40,hsg]
 have fin : ∀ x:Int,sigC m op n c = .ok ([],[x])->zq S.nx (fun r T => ∃ i o,sigC m op n c = .ok (i,o)/\r = .tuple [vl bH i,vl bH o]/\T=S) (.tuple [.nils, .slice (lid S.nx 1) 0 1]) (St S [] [none,some (1,[.int .i64 x])]):=fun x h=>JB (qc hwf ((ajw x).toB _) rfl) ⟨[],[x],h,rfl,rfl⟩;have fin2:sigC m op n c = .ok (si,[so])->zq S.nx (fun r T => ∃ i o,sigC m op n c = .ok (i,o)/\r = .tuple [vl bH i,vl bH o]/\T=S) (.tuple [vl bH si, .slice (lid S.nx 1) 0 1]) (St S [] [none,some (1,[.int .i64 so])]):=fun h=>JB (qc hwf ((Ghost.tp [_] [] (frz1 (k:=1) (by simp) (by rfl) (by rfl) (by rfl))).toB _) rfl) ⟨si,[so],h,rfl,rfl⟩;have cs:op<32\/(36<op/\op<40)\/64<op:=by omega
 rcases cs with c2 | ⟨c2,c3⟩ | c2
 .have e65:(op=65)=False:=by simp; omega
  have e66:(op=66)=False:=by simp; omega
  have k1:(32<=op)=False:=by simp; omega
  have k2:(40<=op)=False:=by simp; omega
  rw [if_neg (by omega),if_neg (by omega)] at hs;refine bu c1 c16 k1 k2 e65 e66 ?_;refine XQ E ?_;refine qr rfl (nS) ?_;refine XN ?_;refine ja ?_;refine bk ?_;exact fin2 hs
 .have e65:(op=65)=False:=by simp; omega
  have e66:(op=66)=False:=by simp; omega
  have k1:(32<=op)=True:=by simp; omega
  have k2:(40<=op)=False:=by simp; omega
  have k3:(op<=36)=False:=by simp; omega
  rw [if_neg (by omega),if_neg (by omega)] at hs
  repeat first|refine QG ?_|refine QY ?_ (r:=by conv=>lhs;simp[QV,c1,c16,k1,k2,k3,e65,e66])
  refine XQ E ?_;refine qr rfl (nS) ?_;refine XN ?_;refine ja ?_;refine bk ?_;exact fin2 hs
 .have k1:(32<=op)=True:=by simp; omega
  have k2:(40<=op)=True:=by simp; omega
  have k3:(op<=36)=False:=by simp; omega
  have k4:(op<=64)=False:=by simp; omega
  by_cases e65:op=65
  .rw [if_pos e65] at hs
   repeat first|refine QG ?_|refine QY ?_ (r:=by conv=>lhs;simp[QV,c1,c16,k1,k2,k3,k4,e65])
   exact fin 127 hs
  rw [if_neg e65] at hs;by_cases e66:op=66
  .rw [if_pos e66] at hs
   repeat first|refine QG ?_|refine QY ?_ (r:=by conv=>lhs;simp[QV,c1,c16,k1,k2,k3,k4,e65,e66])
   exact fin 126 hs
  rw [if_neg e66] at hs
  repeat first|refine QG ?_|refine QY ?_ (r:=by conv=>lhs;simp[QV,c1,c16,k1,k2,k3,k4,e65,e66])
  refine XQ E ?_;refine qr rfl (nS) ?_;refine XN ?_;refine ja ?_;refine bk ?_;exact fin2 hs
structure OkC (B:Nat) (c:Ck):Prop where
 b:okB B c
 ne:c.fs≠[]
theorem Wj {c c':Ck} (h:c.fs≠[]) (hn:c'.fs.length=c.fs.length):c'.fs≠[]:=fun e=>h (List.length_eq_zero_iff.1 (by rw [<-hn,e]; rfl))
theorem OkC.pop {B:Nat} {c c':Ck} {t x:Int} (h:OkC B c) (q:popC t c = .ok (x,c')):OkC B c':=⟨agz h.b q,Wj h.ne (Ki q).n⟩
theorem OkC.pops {B:Nat} {c c':Ck} {l xs:List Int} (h:OkC B c) (q:zM l c = .ok (xs,c')):OkC B c':=⟨(WE h.b q).1,Wj h.ne (zQ q).n⟩
theorem OkC.push {B:Nat} {c:Ck} (l:List Int) (h:OkC B c):OkC (B+l.length) (Wh l c):=⟨apk h.b,Wj h.ne (WY l c).n⟩
theorem OkC.die {B:Nat} {c:Ck} (h:OkC B c):OkC B (dieC c):=⟨ar1 h.b,Wj h.ne (jcy c).n⟩
theorem OkC.mono {B B':Nat} {c:Ck} (h:OkC B c) (hb:B<=B'):OkC B' c:=⟨h.b.mono hb,h.ne⟩
section
variable {P:Program} {f:FuncId} {args:List V} {co B:Nat} {mv:V} {c:Ck} {own:List Nat} {S T:Store} {E:EP}
theorem CkX.use {α:Type} {enc:α->V} {p:Ck->CR α} (h:CkX P f args co mv B enc p) (hp:CP co mv own S c T) (w:T.Wf) (hb:OkC B c) (hE : ∀ e U,p c = .error e->Kept S own U->E (jY 55 e) U) :
  VCallsX P f args (St T [] []) (fun r U => ∃ x c',p c = .ok (x,c')/\r=enc x/\CP co mv own S c' U/\U.Wf) E:=by
 rw [jh w];obtain ⟨own1,hi,hk,ho⟩:=hp;refine (h c own1 T E hi hb.b hb.ne (fun e U he hk'=>hE e U he (JT hk ho hk'))).wf.mono ?_ fun _ _ h=>h;rintro r U ⟨⟨x,c',h1,h2,h3⟩,h4⟩;exact ⟨x,c',h1,h2,CP.trans (c1:=c) hk ho h3,h4⟩
theorem CkU.use {p:Ck->Except Flt Ck} (h:CkU P f args co mv B p) (hp:CP co mv own S c T) (w:T.Wf) (hb:OkC B c) (hE : ∀ e U,p c = .error e->Kept S own U->E (jY 55 e) U) :
  VCallsX P f args (St T [] []) (fun r U => ∃ c',p c = .ok c'/\r = .tuple []/\CP co mv own S c' U/\U.Wf) E:=by
 rw [jh w];obtain ⟨own1,hi,hk,ho⟩:=hp;refine (h c own1 T E hi hb.b hb.ne (fun e U he hk'=>hE e U he (JT hk ho hk'))).wf.mono ?_ fun _ _ h=>h;rintro r U ⟨⟨c',h1,h2,h3⟩,h4⟩;exact ⟨c',h1,h2,CP.trans (c1:=c) hk ho h3,h4⟩
theorem CP.same {T':Store} (hp:CP co mv own S c T) (hT:T'=T):CP co mv own S c T':=hT▸hp
theorem jfR {n:Nat} (hn:n<18446744073709551616) (hp:CP co mv own S c T) (w:T.Wf) (hb:OkC B c) (hE : ∀ e U,JS n c = .error e->Kept S own U->E (jY 55 e) U) :
  VCallsX Tryz.prog 160 [.ptr co 0, .int .u64 n] (St T [] []) (fun r U => ∃ l,JS n c = .ok l/\r=vl bH l/\U=St T [] []) E:=by
 rw [jh w];obtain ⟨own1,hi,hk,ho⟩:=hp;exact ar8 co mv n hn c own1 T E hi hb.b.n hb.ne fun e U he hk'=>hE e U he (JT hk ho (hk'.weak (by simp)))
theorem al8 (b:Bool) (e:Int) (hp:CP co mv own S c T) (w:T.Wf) (hE:b=false -> ∀ U,Kept S own U->E (jY 55 (c.flt e)) U) :
  VCallsX Tryz.prog 129 [.ptr co 0, .bool b,bH e] (St T [] []) (fun r U=>b=true/\r = .tuple []/\U=St T [] []) E:=by
 obtain ⟨own1,⟨fo,ps,rfl,hx⟩,hk,ho⟩:=hp;exact jdq w hx [] b e fun h U hk'=>hE h U (JT hk ho (hk'.weak (by simp)))
end
theorem Yj {B n:Nat} {c:Ck} {l:List Int} (h:OkC B c) (q:JS n c = .ok l):l.length<=4096:=by
 unfold JS at q;split at q
 .rename_i f hf;cases q;exact (h.b.st f (au hf)).2.2
 .cases q
theorem ak8 (t:Int):u64 t<18446744073709551616:=by unfold u64; omega
theorem u64w (t:Int):IntKind.u64.wrap t=(u64 t:Int):=by rw [jZ]; unfold u64; omega
theorem ae2 {last:List Int} : ∀ {l:List Int} {B:Nat} {c c':Ck},OkC B c->tabL last l c = .ok c'->OkC (B+l.length*4096) c'/\SameK c c'
 | [],B,c,c',h,q=>by cases q; exact ⟨by simpa using h,SameK.refl c⟩
 | t::l,B,c,c',h,q=>by
  simp only [tabL] at q;split at q
  .cases q
  rename_i lab h1;split at q
  .cases q
  split at q
  .cases q
  rename_i xs c1 h2;have hl:=Yj h h1;have hx:=(WE h.b h2).2;have k:=ae2 ((h.pops h2).push xs) q;refine ⟨k.1.mono (by rw [av]; omega),((zQ h2).trans (WY xs c1)).trans k.2⟩
theorem asc (co:Nat) (mv:V) (l:List Int) (B:Nat) (hl:0<l.length/\l.length<=4096) (hB:B+16777216<=10000000000000):CkU Tryz.prog 161 [.ptr co 0,vl bH l] co mv B (jbZ l):=by
 intro c own S E hi hb hne hE;have h0:=CP.refl hi;have b0:OkC B c:=⟨hb,hne⟩
 refine jc (c:=jf Tryz.f161) Tryz.func161 rfl rfl (by simp [Tryz.ntmps161]) ?_;rw [Tryz.ntmps161];intro hwf;refine XQ E ?_;refine jb rfl ((aab co mv 127 B (by omega)).use h0 hwf b0 (fun e U he hk=>hE e U (by unfold jbZ; rw [he]) hk)) ?_;rintro _ T1 ⟨x1,c1,q1,rfl,h1,w1⟩;refine XN ?_;refine ja ?_;rw [<-jh w1];have b1:=b0.pop q1;obtain ⟨n,hn⟩ : ∃ n,l.length-1=n:=⟨_,rfl⟩
 have a1:IntKind.i64.wrap ((l.length:Int)-1)=(n:Int):=by rw [wrap_i64 (by omega) (by omega)]; omega
 have hnl:n<l.length:=by omega
 have hlast:l.getLast?.getD 0=l[n]:=by rw [List.getLast?_eq_getElem?,hn,aa hnl]; rfl
 have a2:=u64w l[n];refine bi a1 ?_;refine XQ E ?_ (r:=by conv=>lhs;simp[QV,hnl,a2]);refine jb rfl (jfR (ak8 l[n]) h1 w1 b1 (fun e U he hk=>hE e U (by unfold jbZ; rw [q1]; simp only; rw [hlast,he]) hk)) ?_;rintro _ _ ⟨last,q2,rfl,rfl⟩;refine XN ?_;refine ja ?_;obtain ⟨dl,hdl⟩ : ∃ dl,l.dropLast=dl:=⟨_,rfl⟩
 have hdn:dl.length=n:=by rw [<-hdl,List.length_dropLast,hn]
 have hsl:qN 1 (St T1 [] []) (vl bH l) none (some (.int .i64 (n:Int))) none=some (vl bH dl):=by
  have e:(l.map bH).take n=dl.map bH:=by rw [<-List.map_take, <-hdl,List.dropLast_eq_take,hn]
  simp only [vl,qN,zd,ba,aB,List.drop_zero,e];rw [if_pos (by omega)];simp only;rw [if_pos ⟨by omega,by omega,by omega,by simp, .inl trivial⟩];simp;exact e
 have htc:jbZ l c=match tabL last dl c1 with
  | .error e => .error e
  | .ok c2=>match zM last c2 with
   | .error e => .error e
   | .ok (_,c3) => .ok (dieC c3):=by
  unfold jbZ; rw [q1]; simp only; rw [hlast,q2]; simp only; rw [hdl];cases tabL last dl c1 with
  | error e=>rfl
  | ok c2=>simp only; cases zM last c2<;>rfl
 have hll:=Yj b1 q2;refine bm hsl hdn ?_;refine bB [0,5,23,24,25] (fun j σ T => ∃ (k:Nat) (cc:Ck),k<=n/\j=n-k/\tabL last (dl.drop k) cc=tabL last dl c1/\CP co mv own S cc T/\OkC (B+k*4096) cc/\T.Wf/\σ=[(0, .ptr co 0),(5,vl bH last),(23,vl bH dl),(24,bI n),(25,bI k)]) n ?_ ?_
 .exact ⟨0,c1,by omega,by omega,rfl,h1.same (jh w1),by simpa using b1,by rw [jh w1]; exact w1,by simp [Fr.oy,Fr.lk]⟩
 .rintro j σ T ⟨k,cc,hk,rfl,hrest,hp,hb,wT,rfl⟩;rw [<-jh wT];by_cases hkn:k<n
  .have hkd:k<dl.length:=by omega
   have a3:=u64w dl[k];rw [aj hkd,tabL] at hrest;refine bm hkn hkd ?_;refine XQ E ?_ (r:=by conv=>lhs;simp[QV,a3]);refine jb rfl (jfR (ak8 dl[k]) hp wT hb (fun e U he hk=>hE e U (by rw [htc, <-hrest,he]) hk)) ?_;rintro _ _ ⟨lab,q3,rfl,rfl⟩;refine XN ?_;refine ja ?_;rw [q3] at hrest;simp only at hrest;obtain ⟨bb,hbb⟩ : ∃ bb,decide (lab.length=last.length)=bb:=⟨_,rfl⟩
   have hbi:decide ((lab.length:Int)=(last.length:Int))=bb:=by rw [<-hbb]; exact decide_eq_decide.2 (by omega)
   refine bk ?_;refine XQ E ?_ (r:=by conv=>lhs;simp[QV,hbb,hbi]);refine jb rfl (al8 bb 10 hp wT fun h U hk=>hE _ U (by rw [htc, <-hrest,if_pos (by rw [h] at hbb; simpa using hbb)]) hk) ?_;rintro _ _ ⟨rfl,rfl,rfl⟩;rw [if_neg (by simpa using hbb)] at hrest;refine ja ?_;have hlab:=Yj hb q3;refine XQ E ?_;refine jb rfl ((jca co mv lab _ (by omega) (by omega)).use hp wT hb (fun e U he hk=>hE e U (by rw [htc, <-hrest,he]) hk)) ?_;rintro _ T2 ⟨xs,c2,q4,rfl,h2,w2⟩;rw [q4] at hrest;simp only at hrest;have b2:=hb.pops q4;have hxl:=(WE hb.b q4).2;have hkb:k*4096<=16777216:=by omega
   refine XN ?_;rw [<-jh w2];refine jb rfl ((jeC co mv xs _ (by omega)).use h2 w2 b2 (fun e U he hk=>by cases he)) ?_;rintro _ T3 ⟨c3,q5,rfl,h3,w3⟩;cases q5;have a4:IntKind.i64.wrap ((k:Int)+1)=((k+1:Nat):Int):=by rw [wrap_i64 (by omega) (by omega)]; omega
   obtain ⟨k1,hk1⟩ : ∃ k1,k+1=k1:=⟨_,rfl⟩
   rw [hk1] at a4 hrest;refine ja ?_;refine bi a4 ?_;show zI _ _ _ _ _ _ _;exact again ⟨(by omega:n-k1<n-k),k1,Wh xs c2,(by omega),rfl,hrest,h3,(b2.push xs).mono (by omega),w3,by simp [Fr.oy,Fr.lk]⟩
  .have:k=n:=by omega
   subst this;rw [List.drop_eq_nil_of_le (by omega)] at hrest;simp only [tabL] at hrest;rw [<-hrest] at htc;simp only at htc;refine bk ?_;refine XQ E ?_;refine jb rfl ((jca co mv last _ (by omega) (by omega)).use hp wT hb (fun e U he hk=>hE e U (by rw [htc,he]) hk)) ?_;rintro _ T2 ⟨xs,c2,q4,rfl,h2,w2⟩;rw [q4] at htc;simp only at htc;refine ja ?_;rw [<-jh w2];refine XQ E ?_;refine jb rfl ((ace co mv _).use h2 w2 (hb.pops q4) (fun e U he hk=>by cases he)) ?_;rintro _ T3 ⟨c3,q5,rfl,h3,w3⟩;cases q5;refine ja ?_;refine bk ?_;exact jn ⟨_,htc,rfl,h3⟩
theorem aq6 (co:Nat) (mv:V) (op:Int) (n m':Nat) (ty:Wm.Sig) (body els:List Wm.Ins) (he:Bool) (ts:List Int) (hn:n<18446744073709551616) (hts:ts.length<=4096) (ht:op=14->0<ts.length) (hop:op=0\/op=12\/op=13\/op=14\/op=15) (B:Nat) (hB:B+16777216<=10000000000000) :
  CkU Tryz.prog 140 [.ptr co 0,encI (.mk op n m' ty body els he ts)] co mv B (Zg op n ts):=by
 intro c own S E hi hb hne hE;have b0:OkC B c:=⟨hb,hne⟩
 rw [jK];refine jc (c:=jf Tryz.f140) Tryz.func140 rfl rfl (by simp [Tryz.ntmps140]) ?_;rw [Tryz.ntmps140];intro hwf;have h0:CP co mv own S c (St S [] [none]):=⟨own,hi.up hwf _,jN (by simp),fun o h => .inl h⟩
 refine XQ E ?_;refine ja ?_;refine qi 3 rfl (WH (k:=0) (s:=9) (cs:=[bH op, .int .u64 n, .int .u64 m',vl bH ty.inn,vl bH ty.out,vl encI body,vl encI els, .bool he,vl bH ts]) (by simp) (by simp) rfl (by simp)) (by conv=>lhs; simp [Fr.set]) ?_;obtain ⟨T0,hT0⟩ : ∃ T0,St S [] [none]=T0:=⟨_,rfl⟩
 rw [hT0] at h0;show VWp _ _ _ _ _ _ (St S [] [none]);rw [hT0];refine jD fun w0 => ?_;rw [<-jh w0];rcases hop with rfl | rfl | rfl | rfl | rfl
 .refine bk ?_;refine XQ E ?_;refine jb rfl ((ace co mv _).use h0 w0 b0 (fun e U he hk=>by cases he)) ?_;rintro _ T1 ⟨c1,q1,rfl,h1,w1⟩;cases q1;refine ja ?_;refine bk ?_;exact jn ⟨_,rfl,rfl,h1⟩
 .have hlc:Zg 12 n ts c=match JS n c with
   | .error e => .error e
   | .ok l=>match zM l c with
    | .error e => .error e
    | .ok (_,c1) => .ok (dieC c1):=rfl
  refine bk ?_;refine XQ E ?_;refine jb rfl (jfR hn h0 w0 b0 (fun e U he hk=>hE e U (by rw [hlc,he]) hk)) ?_;rintro _ _ ⟨l,q1,rfl,rfl⟩;rw [q1] at hlc;simp only at hlc;have hll:=Yj b0 q1;refine jb rfl ((jca co mv l _ (by omega) (by omega)).use h0 w0 b0 (fun e U he hk=>hE e U (by rw [hlc,he]) hk)) ?_;rintro _ T2 ⟨xs,c2,q2,rfl,h2,w2⟩;rw [q2] at hlc;simp only at hlc;refine ja ?_;rw [<-jh w2];refine XQ E ?_;refine jb rfl ((ace co mv _).use h2 w2 (b0.pops q2) (fun e U he hk=>by cases he)) ?_;rintro _ T3 ⟨c3,q3,rfl,h3,w3⟩;cases q3;refine ja ?_;refine bk ?_;exact jn ⟨_,hlc,rfl,h3⟩
 .have hlc:Zg 13 n ts c=match JS n c with
   | .error e => .error e
   | .ok l=>match popC 127 c with
    | .error e => .error e
    | .ok (_,c1)=>match zM l c1 with
     | .error e => .error e
     | .ok (_,c2) => .ok (Wh l c2):=rfl
  refine bk ?_;refine XQ E ?_;refine jb rfl (jfR hn h0 w0 b0 (fun e U he hk=>hE e U (by rw [hlc,he]) hk)) ?_;rintro _ _ ⟨l,q1,rfl,rfl⟩;rw [q1] at hlc;simp only at hlc;have hll:=Yj b0 q1;refine XN ?_;refine ja ?_;refine XQ E ?_;refine jb rfl ((aab co mv 127 _ (by omega)).use h0 w0 b0 (fun e U he hk=>hE e U (by rw [hlc,he]) hk)) ?_;rintro _ T2 ⟨x,c2,q2,rfl,h2,w2⟩;rw [q2] at hlc;simp only at hlc;refine ja ?_;rw [<-jh w2];refine XQ E ?_;refine jb rfl ((jca co mv l _ (by omega) (by omega)).use h2 w2 (b0.pop q2) (fun e U he hk=>hE e U (by rw [hlc,he]) hk)) ?_;rintro _ T3 ⟨xs,c3,q3,rfl,h3,w3⟩;rw [q3] at hlc;simp only at hlc;refine ja ?_;rw [<-jh w3];refine XQ E ?_;refine jb rfl ((jeC co mv l _ (by omega)).use h3 w3 ((b0.pop q2).pops q3) (fun e U he hk=>by cases he)) ?_;rintro _ T4 ⟨c4,q4,rfl,h4,w4⟩
  cases q4
  refine ja ?_;refine bk ?_;exact jn ⟨_,hlc,rfl,h4⟩
 .refine bk ?_;refine XQ E ?_;refine jb rfl ((asc co mv ts _ ⟨ht rfl,hts⟩ hB).use h0 w0 b0 (fun e U he hk=>hE e U he hk)) ?_;rintro _ T1 ⟨c1,q1,rfl,h1,w1⟩;refine ja ?_;refine bk ?_;exact jn ⟨_,q1,rfl,h1⟩
 .obtain ⟨ol,hol⟩ : ∃ ol,(c.fs.getLast?.map Fm.out).getD []=ol:=⟨_,rfl⟩
  have hlc:Zg 15 n ts c=match zM ol c with
   | .error e => .error e
   | .ok (_,c1) => .ok (dieC c1):=by rw [<-hol]; rfl
  have h0':=h0;obtain ⟨own1,⟨fo,ps,rfl,hx⟩,hk0,ho0⟩:=h0';have hln:=hx.frm.len;have hpos:0<ps.length:=by rw [hln]; exact List.length_pos_iff.2 hne
  obtain ⟨L,p,f,k1,k2,k3,k4,k5,k6,k7⟩:=hx.at (n:=ps.length-1) (by omega);rw [show ps.length-1-(ps.length-1)=0 by omega] at k3;obtain ⟨cell,k8,k9⟩:=k5;have hfo:f.out=ol:=by
   rw [<-hol,List.getLast?_eq_getElem?, <-hln,k4]
   rfl
  rw [hfo] at k8;obtain ⟨N,hN⟩ : ∃ N,ps.length=N:=⟨_,rfl⟩
  rw [hN] at k1 hpos;have hlt:=hx.lt w0;have g1 : ∀ l,(St T0 [] l).get co=_:=fun l=>(jk (hlt co (by simp [ownC]))).trans k1;have g2 : ∀ l,(St T0 [] l).get fo=_:=fun l=>(jk (hlt fo (by simp [ownC]))).trans k2;have g3 : ∀ l,(St T0 [] l).get p.1=_:=fun l=>(jk (hlt p.1 (by simp [ownC,k7]))).trans k8;have hpos':(0:Int)<N:=by omega
  have hol2:ol.length<=4096:=by rw [<-hfo]; exact (hb.st f (au k4)).2.1
  refine bk ?_;refine XQ E ?_ (r:=by conv=>lhs;simp[QV,g1,g2,g3,k3,hpos,hpos']);refine jb rfl ((jca co mv ol _ (by omega) (by omega)).use h0 w0 b0 (fun e U he hk=>hE e U (by rw [hlc,he]) hk)) ?_;rintro _ T2 ⟨xs,c2,q2,rfl,h2,w2⟩;rw [q2] at hlc;simp only at hlc;refine ja ?_;rw [<-jh w2];refine XQ E ?_;refine jb rfl ((ace co mv _).use h2 w2 (b0.pops q2) (fun e U he hk=>by cases he)) ?_;rintro _ T3 ⟨c3,q3,rfl,h3,w3⟩;cases q3;refine ja ?_;refine bk ?_;exact jn ⟨_,hlc,rfl,h3⟩
end Go.Vw
namespace Wm
open Go.Vw
mutual
def tI:Ins->Prop
 | .mk op n m ty body els _ ts=>Ss.I64 op/\n<18446744073709551616/\ty.inn.length<=4096/\ty.out.length<=4096/\ts.length<=4096/\(op=14->0<ts.length)/\body.length<=1000000/\els.length<=1000000/\tL body/\tL els
def tL:List Ins->Prop
 | []=>True
 | x::xs=>tI x/\tL xs
end
theorem aag : ∀ {l:List Ins},tL l -> ∀ x∈l,tI x
 | [],_,_,h=>by cases h
 | x::xs,h,y,hy=>by
  simp only [tL] at h;rcases aE.1 hy with rfl | hy
  .exact h.1
  .exact aag h.2 y hy
def tM (m:Mod):Prop := ∀ s∈m.types,s.inn.length<=4096/\s.out.length<=4096
structure Goes (N:Nat) (c c':Ck):Prop where
 k:c'.k=c.k
 lo:c'.locals=c.locals
 n:c'.fs.length=c.fs.length
 ops:c'.ops<=c.ops+N
theorem SameK.goes {c c':Ck} (h:SameK c c'):Goes 0 c c':=⟨h.k,h.lo,h.n,Nat.le_of_eq h.ops⟩
theorem Goes.mono {a b:Nat} {c c':Ck} (h:Goes a c c') (hab:a<=b):Goes b c c':=⟨h.k,h.lo,h.n,by have:=h.ops; omega⟩
theorem Goes.trans {a b:Nat} {c c1 c2:Ck} (h:Goes a c c1) (k:Goes b c1 c2):Goes (a+b) c c2:=⟨k.k.trans h.k,k.lo.trans h.lo,k.n.trans h.n,by have:=k.ops; have:=h.ops; omega⟩
theorem alu {m:Mod} (hm:tM m) (n:Int):(KI m n).1.inn.length<=4096/\(KI m n).1.out.length<=4096:=by
 unfold KI;split
 .simp
 .simp only;generalize (if n < ↑m.imports.length then _ else _:Int)=t;split
  .simp
  .simp only;cases h:m.types[t.toNat]? with
   | none=>simp
   | some s=>exact hm s (au h)
theorem agr {m:Mod} (hm:tM m) {op:Int} {n:Nat} {c:Ck} {i o:List Int} (h:sigC m op n c = .ok (i,o)):i.length<=4096/\o.length<=4096:=by
 have hv : ∀ {i o},varC m op n c = .ok (i,o)->i.length<=4096/\o.length<=4096:=by
  intro i o h;unfold varC at h;split at h
  .split at h
   .cases h
   .simp only [Except.ok.injEq] at h;split at h
    .cases h; simp
    .split at h<;>cases h<;>simp
  .split at h
   .cases h
   .split at h
    .cases h; simp
    .split at h
     .cases h; simp
     .cases h
 have hme : ∀ {i o},memC m op c = .ok (i,o)->i.length<=4096/\o.length<=4096:=by
  intro i o h;unfold memC at h;split at h
  .cases h
  .split at h
   .cases h; simp
   .split at h
    .cases h; simp
    .split at h<;>cases h<;>simp
 have hns:(Ss.bJ op).1.length<=2:=by
  unfold Ss.bJ;split
  .rename_i g _;simp only [Ss.Grp.ins];split<;>simp
  .simp
 unfold sigC at h;generalize i64 n=nn at h;split at h
 .cases h; simp
 .split at h
  .split at h
   .simp only [Except.ok.injEq,Prod.mk.injEq] at h;rw [<-h.1, <-h.2];exact alu hm nn
   .cases h
  .split at h
   .exact hv h
   .split at h
    .exact hme h
    .split at h
     .cases h; simp
     .split at h
      .cases h; simp
      .cases h; exact ⟨by omega,by simp⟩
theorem agl {B K:Nat} (hK:16777216<=K) {ts:List Int} {c c':Ck} (ht:ts.length<=4096) (h:OkC B c) (q:jbZ ts c = .ok c'):OkC (B+K) c'/\SameK c c':=by
 unfold jbZ at q;generalize u64 (ts.getLast?.getD 0)=n at q;cases h1:popC 127 c with
 | error e=>rw [h1] at q; cases q
 | ok r1 =>
  rw [h1] at q;simp only at q;cases h2:JS n r1.2 with
  | error e=>rw [h2] at q; cases q
  | ok last =>
   rw [h2] at q;simp only at q;cases h3:tabL last ts.dropLast r1.2 with
   | error e=>rw [h3] at q; cases q
   | ok c2 =>
    rw [h3] at q;simp only at q;cases h4:zM last c2 with
    | error e=>rw [h4] at q; cases q
    | ok r4 =>
     rw [h4] at q;cases q;have k:=ae2 (h.pop h1) h3;have hl:B+ts.dropLast.length*4096<=B+K:=by rw [List.length_dropLast]; omega
     exact ⟨((k.1.pops h4).die).mono hl,(((Ki h1).trans k.2).trans (zQ h4)).trans (jcy _)⟩
theorem aed {B K:Nat} (hK:16777216<=K) {op:Int} {n:Nat} {ts:List Int} {c c':Ck} (ht:ts.length<=4096) (h:OkC B c) (q:Zg op n ts c = .ok c'):OkC (B+K) c'/\SameK c c':=by
 have hle:B<=B+K:=Nat.le_add_right _ _;have dieP : ∀ {l xs:List Int} {c1:Ck},zM l c = .ok (xs,c1)->OkC (B+K) (dieC c1)/\SameK c (dieC c1):=fun h2=>⟨(h.pops h2).die.mono hle,(zQ h2).trans (jcy _)⟩
 unfold Zg at q;by_cases e0:op=0
 .rw [if_pos e0] at q; cases q; exact ⟨h.die.mono hle,jcy c⟩
 rw [if_neg e0] at q;by_cases e12:op=12
 .rw [if_pos e12] at q;cases h1:JS n c with
  | error e=>rw [h1] at q; cases q
  | ok l =>
   rw [h1] at q;simp only at q;cases h2:zM l c with
   | error e=>rw [h2] at q; cases q
   | ok r=>rw [h2] at q; cases q; exact dieP h2
 rw [if_neg e12] at q;by_cases e13:op=13
 .rw [if_pos e13] at q;cases h1:JS n c with
  | error e=>rw [h1] at q; cases q
  | ok l =>
   rw [h1] at q;simp only at q;cases h2:popC 127 c with
   | error e=>rw [h2] at q; cases q
   | ok r =>
    rw [h2] at q;simp only at q;cases h3:zM l r.2 with
    | error e=>rw [h3] at q; cases q
    | ok r3 =>
     rw [h3] at q;cases q;have hl:=Yj h h1;exact ⟨(((h.pop h2).pops h3).push l).mono (by omega),((Ki h2).trans (zQ h3)).trans (WY l _)⟩
 rw [if_neg e13] at q;by_cases e14:op=14
 .rw [if_pos e14] at q; exact agl hK ht h q
 rw [if_neg e14] at q;cases h2:zM ((c.fs.getLast?.map Fm.out).getD []) c with
 | error e=>rw [h2] at q; cases q
 | ok r=>rw [h2] at q; cases q; exact dieP h2
theorem ajk {m:Mod} (hm:tM m) {K:Nat} (hK:16777216<=K) {B:Nat} {op:Int} {n:Nat} {ts:List Int} {c c':Ck} (ht:ts.length<=4096) (h:OkC B c) (q:ZS m op n ts c = .ok c'):OkC (B+K) c'/\SameK c c':=by
 have pushed : ∀ {B':Nat} {c1:Ck} (l:List Int),OkC B' c1->l.length<=4096->B'<=B->OkC (B+K) (Wh l c1):=fun l h1 h2 h3=>(h1.push l).mono (by omega);unfold ZS at q;split at q
 .exact aed hK ht h q
 .split at q
  .split at q
   .cases q
   rename_i x c1 h1;cases q;exact ⟨(h.pop h1).mono (by omega),Ki h1⟩
  .split at q
   .split at q
    .cases q
    rename_i x c1 h1;split at q
    .cases q
    rename_i t c2 h2;split at q
    .cases q
    rename_i t' c3 h3;cases q;exact ⟨pushed [t'] (((h.pop h1).pop h2).pop h3) (by simp) (aT _),(((Ki h1).trans (Ki h2)).trans (Ki h3)).trans (WY _ c3)⟩
   .split at q
    .cases q
    rename_i i o h1;split at q
    .cases q
    rename_i xs c1 h2;cases q;exact ⟨pushed o (h.pops h2) (agr hm h1).2 (aT _),(zQ h2).trans (WY o c1)⟩
theorem jdl {B:Nat} {c:Ck} {inn out lab:List Int} (h:okB B c) (h1:inn.length<=4096) (h2:out.length<=4096) (h3:lab.length<=4096) (hn:c.fs.length<1000000):OkC (B+4096) (KM inn out lab c):=by
 refine ⟨⟨by simp only [KM,av]; omega,fun f hf => ?_⟩,by simp [KM]⟩;simp only [KM,aE] at hf;rcases hf with rfl | hf
 .exact ⟨by simp only; omega,h2,h3⟩
 .have:=h.st f hf; exact ⟨by omega,this.2⟩
theorem jge {B:Nat} {c c':Ck} {out:List Int} {f:Ck->Nat} (h:okB B c) (q:jbb out f c = .ok c') (hne:c.fs≠[]):okB B c'/\c'.k=c.k/\c'.locals=c.locals/\c'.fs.length+1=c.fs.length/\c'.ops=c.ops:=by
 unfold jbb at q;split at q
 .cases q
 rename_i xs c1 h1;have s1:=zQ h1;have b1:=(WE (B:=B) (c:={ c with op:=f c }) ⟨h.n,h.st⟩ h1).1;split at q
 .rename_i h2;have:=s1.n;rw [h2] at this;exact absurd (List.length_eq_zero_iff.1 this.symm) hne
 .rename_i f1 r h2;split at q
  .cases q
   have hn:=s1.n;rw [h2] at hn;have bn:=b1.n;rw [h2] at bn;simp only [av] at hn bn;exact ⟨⟨by simp only; omega,fun g hg=>b1.st g (by rw [h2]; simp [hg])⟩,s1.k,s1.lo,hn,s1.ops⟩
  .cases q
mutual
theorem abl {m:Mod} (hm:tM m) : ∀ (x:Ins) (B:Nat) (c c':Ck),tI x->OkC B c->c.fs.length+cI x<=1000000->insC m x c = .ok c'->OkC (B+20000000*cI x) c'/\Goes (cI x) c c'
 | .mk op n m' ty body els he ts,B,c,c',ht,h,hn,q=>by
  simp only [tI] at ht;obtain ⟨t1,t2,t3,t4,t5,t6,t7,t8,t9,t10⟩:=ht;simp only [cI] at hn ⊢;simp only [insC] at q;have h0:OkC B { c with op:=c.ops,ops:=c.ops+1 }:=⟨⟨h.b.n,h.b.st⟩,h.ne⟩
  have g0:Goes 1 c { c with op:=c.ops,ops:=c.ops+1 }:=⟨rfl,rfl,rfl,aT _⟩
  split at q
  .have hlab:(if op=3 then ty.inn else ty.out).length<=4096:=by split<;>assumption
   obtain ⟨lab,hl⟩ : ∃ lab,(if op=3 then ty.inn else ty.out)=lab:=⟨_,rfl⟩
   rw [hl] at q hlab;split at q
   .cases q
   rename_i c1 h1;have k1:OkC B c1/\SameK { c with op:=c.ops,ops:=c.ops+1 } c1:=by
    split at h1
    .cases hp:popC 127 { c with op:=c.ops,ops:=c.ops+1 } with
     | error e=>rw [hp] at h1; cases h1
     | ok r=>rw [hp] at h1; cases h1; exact ⟨h0.pop hp,Ki hp⟩
    .cases h1; exact ⟨h0,SameK.refl _⟩
   split at q
   .cases q
   rename_i xs c2 h2;have k2:=k1.1.pops h2;have n2:c2.fs.length=c.fs.length:=(zQ h2).n.trans k1.2.n;have g2:Goes 1 c c2:=(g0.trans k1.2.goes).trans (zQ h2).goes;split at q
   .cases q
   rename_i c3 h3;obtain ⟨k3,g3⟩:=jaA hm body (B+4096) (KM ty.inn ty.out lab c2) c3 t9 (jdl k2.b t3 t4 hlab (by omega)) (by simp only [KM,av]; omega) h3;split at q
   .cases q
   rename_i c4 h4;obtain ⟨b4,e1,e2,e3,e4⟩:=jge k3.b h4 k3.ne;have n3:=g3.n;simp only [KM,av] at n3;have g4:Goes (1+cL body) c c4:=⟨e1.trans (g3.k.trans g2.k),e2.trans (g3.lo.trans g2.lo),by omega,by have:=g3.ops; have:=g2.ops; simp only [KM] at *; omega⟩
   have k4:OkC (B+4096+20000000*cL body) c4:=⟨b4,Wj h.ne g4.n⟩
   split at q
   .cases q
   rename_i c6 h6;have k6:OkC (B+8192+20000000*(cL body+cL els)) c6/\Goes (1+(cL body+cL els)) c c6:=by
    split at h6
    .split at h6
     .cases h6
     rename_i c5 h5;have n4:=g4.n;obtain ⟨k5,g5⟩:=jaA hm els _ (KM ty.inn ty.out lab c4) c5 t10 (jdl k4.b t3 t4 hlab (by omega)) (by simp only [KM,av]; omega) h5;obtain ⟨b6,f1,f2,f3,f4⟩:=jge k5.b h6 k5.ne;have n5:=g5.n;simp only [KM,av] at n5;have g6:Goes (1+(cL body+cL els)) c c6:=⟨f1.trans (g5.k.trans g4.k),f2.trans (g5.lo.trans g4.lo),by omega,by have:=g5.ops; have:=g4.ops; simp only [KM] at *; omega⟩
     exact ⟨⟨b6.mono (by omega),Wj h.ne g6.n⟩,g6⟩
    .cases h6
     exact ⟨k4.mono (by omega),g4.mono (by omega)⟩
   split at q
   .cases q
    refine ⟨((show OkC _ { c6 with op:=c.ops } from ⟨⟨k6.1.b.n,k6.1.b.st⟩,k6.1.ne⟩).push ty.out).mono (by omega), ?_⟩;have s:=WY ty.out { c6 with op:=c.ops };exact ⟨s.k.trans k6.2.k,s.lo.trans k6.2.lo,s.n.trans k6.2.n,by have:=s.ops; have:=k6.2.ops; simp only at *; omega⟩
   .cases q
  .obtain ⟨k1,s1⟩:=ajk hm (K:=20000000) (by omega) t5 h0 q;refine ⟨k1.mono (by omega), ?_⟩;exact (g0.trans s1.goes).mono (by omega)
theorem jaA {m:Mod} (hm:tM m) : ∀ (l:List Ins) (B:Nat) (c c':Ck),tL l->OkC B c->c.fs.length+cL l<=1000000->seqC m l c = .ok c'->OkC (B+20000000*cL l) c'/\Goes (cL l) c c'
 | [],B,c,c',ht,h,hn,q=>by cases q; exact ⟨by simpa [cL] using h,⟨rfl,rfl,rfl,by simp [cL]⟩⟩
 | x::xs,B,c,c',ht,h,hn,q=>by
  simp only [tL] at ht;simp only [cL] at hn ⊢;simp only [seqC] at q;split at q
  .cases q
  rename_i c1 h1;obtain ⟨k1,g1⟩:=abl hm x B c c1 ht.1 h (by omega) h1;have:=g1.n;obtain ⟨k2,g2⟩:=jaA hm xs _ c1 c' ht.2 k1 (by omega) q;exact ⟨k2.mono (by omega),g1.trans g2⟩
end
end Wm
namespace Go.Vw
open Go.Proofs Go.RowKit Wm
attribute [-simp] List.map_set
theorem CIx.turn {co fo:Nat} {mv:V} {c c':Ck} {ps:List (Nat × Nat)} {S T:Store} (h:CIx co mv c fo ps S) (hfs:c'.fs=c.fs) (hT : ∀ o∈ownC co fo ps,o≠co->T.get o=S.get o)
  (hco : ∀ fc,S.get co=some (6,[mv,bI c.k,bI c.op,vl bH c.locals,fc,bI c.ops])->T.get co=some (6,[mv,bI c'.k,bI c'.op,vl bH c'.locals,fc,bI c'.ops])):CIx co mv c' fo ps T:=by
 obtain ⟨⟨fc,h1,h2⟩,h3,h4,h5⟩:=h;refine ⟨⟨fc,hco fc h1, ?_⟩, ?_,h4,h5⟩
 .rcases h2 with h2 | ⟨rest,h2,h6,h7⟩
  .exact .inl h2
  .exact .inr ⟨rest,h2,(hT fo (by simp [ownC]) h7).trans h6,h7⟩
 .rw [hfs];refine h3.keep fun o ho=>hT o (by simp [ownC,ho]) ?_;obtain ⟨p,hp,e⟩:=jcD ho;have:=h4 p hp;rcases e with rfl | rfl
  .exact this.1
  .exact this.2.1
theorem adr {S:Store} {s:Nat} {x:V} (hs:S.get s=some (1,[x])):jB 1 8 S .nils (.slice s 0 1)=some (.slice S.nx 0 1,S.add (1,[x])):=by
 simp [jB,qb,hs]
theorem asv {S:Store} {o s:Nat} {x:V} {xs rest:List V} (hs:S.get s=some (1,[x])) (ho:S.get o=some (1,xs++rest)) (hb:xs.length<=1000000):jB 1 8 S (.slice o 0 xs.length) (.slice s 0 1)=some (.slice S.nx 0 (xs.length+1),(S.del o).add (1,xs++[x])):=by
 simp only [jB,qb,hs,ho];simp;omega
def AtOk (P:Program) (at':V) (f:Ck->Nat) (co:Nat) (mv:V) (own:List Nat) (S:Store):Prop := ∃ g caps,at' = .func g caps/\jE P g=true/\at'.nj1=true /\
 ∀ c own' U,CI co mv c own' U->Kept S own U->VCalls P g caps U fun r T=>r=bI (f c)/\T=U
theorem CIx.open {co fo p fo':Nat} {mv:V} {c:Ck} {ps:List (Nat × Nat)} {S T:Store} (hw:S.Wf) (h:CIx co mv c fo ps S) {out lab:List Int} (hp:S.nx<=p) (hfo:S.nx<=fo') (hne:p≠fo') (hT : ∀ o,o<S.nx->o≠co->o≠fo->T.get o=S.get o)
  (hco:T.get co=some (6,[mv,bI c.k,bI c.op,vl bH c.locals, .slice fo' 0 (ps.length+1),bI c.ops])) (hpo:T.get p=some (4,[vl bH out,vl bH lab, .nils, .bool false])) (hf:T.get fo'=some (1,(ps.map pO).reverse++[.ptr p 0])) :
  CIx co mv { c with fs:=⟨out,lab,[],false⟩::c.fs } fo' ((p,p)::ps) T:=by
 have hlt:=h.lt hw;have lco:=hlt co (by simp [ownC]);have lfo:=hlt fo (by simp [ownC]);obtain ⟨⟨fc,h1,h2⟩,h3,h4,h5⟩:=h;have lu : ∀ q∈ps,q.1<S.nx/\q.2<S.nx:=fun q hq=>⟨hlt q.1 (by simp [ownC,(jau hq).1]),hlt q.2 (by simp [ownC,(jau hq).2])⟩
 refine ⟨⟨.slice fo' 0 (ps.length+1),hco, .inr ⟨[],by simp,by rw [hf]; simp [pO],by omega⟩⟩,⟨⟨.nils,hpo, .inl ⟨rfl,rfl,rfl⟩⟩,h3.keep fun o ho => ?_⟩,fun q hq => ?_,List.pairwise_cons.2 ⟨fun q hq => ?_,h5⟩⟩
 .obtain ⟨q,hq,e⟩:=jcD ho;have:=h4 q hq;have:=lu q hq;rcases e with rfl | rfl
  .exact hT _ this.1 (by omega) (by omega)
  .exact hT _ this.2 (by omega) (by omega)
 .rcases aE.1 hq with rfl | hq
  .exact ⟨by simp only; omega,by simp only; omega,by simpa using hne,by simpa using hne⟩
  .have:=h4 q hq;have:=lu q hq;exact ⟨by omega,by omega,by omega,by omega⟩
 .have:=lu q hq;simp only;exact ⟨by omega,by omega,by omega,by omega⟩
def inC (m:Mod) (l:List Wm.Ins) (inn out lab:List Int) (f:Ck->Nat) (c:Ck):Except Flt Ck:=match seqC m l (KM inn out lab c) with
 | .error e => .error e
 | .ok c3=>jbb out f c3
theorem ahc : ∀ (l:List Wm.Ins) (k:Nat),cL (l.drop k)<=cL l
 | l,0=>aT _
 | [],k+1=>by simp
 | x::xs,k+1=>by rw [List.drop_succ_cons]; have:=ahc xs k; simp only [cL]; omega
def InsX (P:Program) (fid:FuncId) (co:Nat) (mv:V) (m:Mod) (x:Wm.Ins):Prop :=
 ∀ (c:Ck) (own:List Nat) (S:Store) (E:EP) (B:Nat),CI co mv c own S->OkC B c->B+20000000*cI x<=10000000000000->c.fs.length+cI x<=1000000->okMc m c->c.ops+cI x<=1000000000000->(∀ e T,insC m x c = .error e->Kept S own T->E (jY 55 e) T) ->
  VCallsX P fid [.ptr co 0,encI x] S (fun r T => ∃ c',insC m x c = .ok c'/\r = .tuple []/\CP co mv own S c' T) E
theorem InsX.use {P:Program} {f:FuncId} {co:Nat} {mv:V} {m:Mod} {x:Wm.Ins} {B:Nat} {c:Ck} {own:List Nat} {S T:Store} {E:EP} (h:InsX P f co mv m x) (hp:CP co mv own S c T) (w:T.Wf) (hb:OkC B c) (h1:B+20000000*cI x<=10000000000000) (h2:c.fs.length+cI x<=1000000) (h3:okMc m c) (h4:c.ops+cI x<=1000000000000) (hE : ∀ e U,insC m x c = .error e->Kept S own U->E (jY 55 e) U) :
  VCallsX P f [.ptr co 0,encI x] (St T [] []) (fun r U => ∃ c',insC m x c = .ok c'/\r = .tuple []/\CP co mv own S c' U/\U.Wf) E:=by
 rw [jh w];obtain ⟨own1,hi,hk,ho⟩:=hp;refine (h c own1 T E B hi hb h1 h2 h3 h4 (fun e U he hk'=>hE e U he (JT hk ho hk'))).wf.mono ?_ fun _ _ h=>h;rintro r U ⟨⟨c',h1,h2,h3⟩,h4⟩;exact ⟨c',h1,h2,CP.trans (c1:=c) hk ho h3,h4⟩
theorem CP.addl {co:Nat} {mv:V} {c:Ck} {own:List Nat} {S T:Store} (h:CP co mv own S c T) (w:T.Wf) (l:OL):CP co mv own S c (St T [] l):=by
 obtain ⟨own1,hi,hk,ho⟩:=h;refine ⟨own1,hi.up w l,⟨by rw [jH]; simp only [lid]; have:=hk.1; omega,fun o h1 h2 => ?_⟩,ho⟩;rw [jk (by have:=hk.1; omega)];exact hk.2 o h1 h2
theorem acp (co:Nat) (mv:V) (hmj:mv.nj1=true) (m:Mod) (l:List Wm.Ins) (s:Wm.Sig) (lab:List Int) (at':V) (f:Ck->Nat) (c:Ck) (own:List Nat) (S:Store) (E:EP) (B:Nat) (hi:CI co mv c own S) (hb:okB B c) (hn:c.fs.length+1+cL l<=1000000) (htm:tM m) (htl:tL l) (hll:l.length<=1000000) (hmc:okMc m c) (hop:c.ops+cL l<=1000000000000) (hins : ∀ x∈l,InsX Tryz.prog 127 co mv m x) (hs:s.inn.length<=4096/\s.out.length<=4096/\lab.length<=4096) (hB:B+8192+20000000*cL l<=10000000000000)
  (hat:AtOk Tryz.prog at' f co mv own S) (hE : ∀ e T,inC m l s.inn s.out lab f c = .error e->Kept S own T->E (jY 55 e) T) :
  VCallsX Tryz.prog 90 [.ptr co 0,vl encI l,je s,vl bH lab,at'] S (fun r T => ∃ c',inC m l s.inn s.out lab f c = .ok c'/\r = .tuple []/\CP co mv own S c' T) E:=by
 obtain ⟨g,caps,rfl,hcal,hnj,hatc⟩:=hat;obtain ⟨fo,ps,rfl,hx⟩:=hi;obtain ⟨fc,h1,hfc⟩:=hx.obj;have hln:=hx.frm.len;refine jc (c:=jf Tryz.f90) Tryz.func90 rfl rfl (by simp [Tryz.ntmps90]) ?_;rw [Tryz.ntmps90];intro hwf;simp only [je];have hlt:=hx.lt hwf;have l1:=hlt co (by simp [ownC]);have l2:=hlt fo (by simp [ownC]);obtain ⟨M,hM⟩ : ∃ M,[mv,bI c.k,bI c.op,vl bH c.locals,fc,bI c.ops]=M:=⟨_,rfl⟩
 rw [hM] at h1;have dg:(DU [(co,some (6,M))]).get co=some (6,M):=by simp [DU,uGet]
 have dold : ∀ ks,ZX.old ⟨DU [(co,some (6,M))],DU [(co,some (6,M))],S,ks,lid S.nx 1,true⟩:=fun ks=>jea (fun p hp=>by simp only [aM] at hp; subst hp; simp [lid]; omega) (by simp [lid]);have dok : ∀ u l,(St S u (none::l)).get co=some (6,M)->(∀ p∈u,p.1=fo)->ZX.ok ⟨DU [(co,some (6,M))],DU [(co,some (6,M))],S,[fo,co],lid S.nx 1,true⟩ (St S u (none::l)):=fun u l hg hu=>aae (fun p hp=>by simp only [aM] at hp; subst hp; exact hg) (jN (fun p hp=>by simp [hu p hp])) (by rw [jH]; simp [lid]);obtain ⟨D,hD⟩ : ∃ D,DU [(co,some (6,M))]=D:=⟨_,rfl⟩
 rw [hD] at dg dok dold;have g1 : ∀ l,(St S [] l).get co=some (6,M):=fun l=>(jk l1).trans h1;rw [<-hM] at dg;refine XQ E ?_;refine ja ?_;refine qi 7 rfl (WH (k:=0) (s:=2) (cs:=[vl bH s.inn,vl bH s.out]) (by simp) (by simp) rfl (by simp)) (by conv=>lhs; simp [Fr.set]) ?_;have hopen : ∀ T:Store,S.nx<=T.nx->(∀ o,o<S.nx->o≠co->o≠fo->T.get o=S.get o)->T.get co=some (6,[mv,bI c.k,bI c.op,vl bH c.locals, .slice (lid S.nx 3) 0 (ps.length+1),bI c.ops])->T.get (lid S.nx 1)=some (4,[vl bH s.out,vl bH lab, .nils, .bool false])->T.get (lid S.nx 3)=some (1,(ps.map pO).reverse++[.ptr (lid S.nx 1) 0]) ->
   CP co mv (ownC co fo ps) S { c with fs:=⟨s.out,lab,[],false⟩::c.fs } T:=fun T k1 k2 k3 k4 k5=>by
  refine ⟨_,⟨lid S.nx 3,(lid S.nx 1,lid S.nx 1)::ps,rfl,hx.open hwf (by simp [lid]) (by simp [lid]) (by simp [lid]) k2 k3 k4 k5⟩,⟨k1,fun o ho hno=>k2 o ho ?_ ?_⟩,fun o ho => ?_⟩
  .rintro rfl; exact hno (by simp [ownC])
  .rintro rfl; exact hno (by simp [ownC])
  .simp only [ownC,qG,aE] at ho ⊢;rcases ho with h | rfl | rfl | rfl | h
   .exact .inl (.inl h)
   .exact .inr (by simp [lid])
   .exact .inr (by simp [lid])
   .exact .inr (by simp [lid])
   .exact .inl (.inr (.inr h))
 have rest : ∀ T0:Store,CP co mv (ownC co fo ps) S { c with fs:=⟨s.out,lab,[],false⟩::c.fs } T0->T0.Wf->VWp Tryz.prog 72 S.nx (Code.snd (Code.snd (jf Tryz.f90))) (jcq [].reverse (zq S.nx fun r T => ∃ c',inC m l s.inn s.out lab f c = .ok c'/\r = .tuple []/\CP co mv (ownC co fo ps) S c' T) E)
   [(0, .ptr co 0),(1,vl encI l),(4, .func g caps),(7, .ref (.agg [vl bH s.inn,vl bH s.out]))] T0:=by
  intro T0 h0 w0;have b0:OkC (B+4096) { c with fs:=⟨s.out,lab,[],false⟩::c.fs }:=jdl (inn:=[]) hb (by simp) hs.2.1 hs.2.2 (by omega);rw [<-jh w0];refine XQ E ?_;refine jb rfl ((jeC co mv s.inn _ (by omega)).use h0 w0 b0 (fun e U he hk=>by cases he)) ?_;rintro _ T1 ⟨c1,q1,rfl,h1,w1⟩;have q1':c1=KM s.inn s.out lab c:=by cases q1; rfl
  clear q1;have b1:OkC (B+4096) c1:=by rw [q1']; exact jdl hb hs.1 hs.2.1 hs.2.2 (by omega)
  have hinc:inC m l s.inn s.out lab f c=match seqC m l c1 with
   | .error e => .error e
   | .ok c3=>jbb s.out f c3:=by rw [q1']; rfl
  have n1:c1.fs.length=c.fs.length+1:=by rw [q1']; rfl
  have o1:c1.ops=c.ops:=by rw [q1']; rfl
  have lo1:c1.locals=c.locals:=by rw [q1']; rfl
  refine ja ?_;rw [<-jh w1];refine bk ?_;refine bB [0,4,7,30,31,32] (fun j σ T => ∃ (k:Nat) (cc:Ck) (Bk:Nat),k<=l.length/\j=l.length-k/\seqC m (l.drop k) cc=seqC m l c1/\CP co mv (ownC co fo ps) S cc T/\OkC Bk cc/\Bk+20000000*cL (l.drop k)<=10000000000000/\cc.fs.length=c.fs.length+1/\cc.locals=c.locals/\cc.ops+cL (l.drop k)<=1000000000000/\T.Wf/\σ=[(0, .ptr co 0),(4, .func g caps),(7, .ref (.agg [vl bH s.inn,vl bH s.out])),(30,vl encI l),(31,bI l.length),(32,bI k)]) l.length ?_ ?_
  .exact ⟨0,c1,B+4096,by omega,by omega,rfl,h1.same (jh w1),b1,by rw [List.drop_zero]; omega,n1,lo1,by rw [List.drop_zero]; omega,by rw [jh w1]; exact w1,by simp [Fr.oy,Fr.lk]⟩
  .rintro j σ T ⟨k,cc,Bk,hk,rfl,hrest,hp,hbk,hB2,hn2,hl2,ho2,wT,rfl⟩;rw [<-jh wT];by_cases hkl:k<l.length
   .have hx:=aj hkl;rw [hx] at hB2 ho2;simp only [cL] at hB2 ho2;have hcl:=ahc l k;rw [hx] at hcl;simp only [cL] at hcl;rw [hx,seqC] at hrest;have hix : ∀ S,jz 9 S (vl encI l) (.int .i64 (k:Int))=some (.ref (encI l[k])):=fun S=>jG jbL hkl;have hin:=hins l[k] (ah hkl);have hti:=aag htl _ (ah hkl);have hw:IntKind.i64.wrap ((k:Int)+1)=((k+1:Nat):Int):=by rw [wrap_i64 (by omega) (by omega)]; omega
    obtain ⟨x,hxk⟩ : ∃ x,l[k]=x:=⟨_,rfl⟩
    rw [hxk] at hrest hB2 ho2 hcl hix hin hti;have hin':=fun T1 (h:CP co mv (ownC co fo ps) S cc T1) (w:T1.Wf)=>hin.use h w hbk (by omega) (by omega) ⟨hmc.n,hmc.gl,by rw [hl2]; exact hmc.lo⟩ (by omega) (E:=E) (fun e U he hk=>hE e U (by rw [hinc, <-hrest,he]) hk);obtain ⟨op,xn,xm,ty,body,els,he,ts⟩:=x;rw [jK] at hix;simp only [jK] at hin';obtain ⟨k1,hk1⟩ : ∃ k1,k+1=k1:=⟨_,rfl⟩
    rw [hk1] at hw hrest hB2 ho2 hcl;refine bm hkl hix ?_;have hp2:=hp.addl wT [none];refine qi 11 rfl (WH (k:=0) (s:=9) (cs:=[bH op, .int .u64 xn, .int .u64 xm,vl bH ty.inn,vl bH ty.out,vl encI body,vl encI els, .bool he,vl bH ts]) (by simp) (by simp) rfl (by simp)) (by conv=>lhs; simp [Fr.set]) ?_;show VWp _ _ _ _ _ _ (St T [] [none]);obtain ⟨T2,hT2⟩ : ∃ T2,St T [] [none]=T2:=⟨_,rfl⟩
    rw [hT2] at hp2 ⊢;refine jD fun w2 => ?_;rw [<-jh w2];refine XQ E ?_;refine jb rfl (hin' T2 hp2 w2) ?_;rintro _ T3 ⟨c3,q3,rfl,h3,w3⟩;rw [q3] at hrest;simp only at hrest;obtain ⟨k3,g3⟩:=abl htm _ Bk cc c3 hti hbk (by omega) q3;have g3n:=g3.n;have g3o:=g3.ops;refine ja ?_;rw [<-jh w3];refine bi hw ?_;show zI _ _ _ _ _ _ _;exact again ⟨(by omega:l.length-k1<l.length-k),k1,c3,Bk+20000000*cI (.mk op xn xm ty body els he ts),(by omega),rfl,hrest,h3.same (jh w3),k3,(by omega),(by omega),g3.lo.trans hl2,(by omega),(by rw [jh w3]; exact w3),by simp [Fr.oy,Fr.lk]⟩
   .have hke:k=l.length:=by omega
    subst hke;rw [List.drop_length,seqC] at hrest;rw [<-hrest] at hinc;simp only at hinc;obtain ⟨own1,hi1,hk1,ho1⟩:=hp;have hc8:VCallsX Tryz.prog g caps (St T [] []) (fun r U=>r=bI (f cc)/\U=St T [] []) E:=by rw [jh wT]; exact (hatc cc own1 T hi1 hk1).toX
    obtain ⟨fo1,ps1,rfl,hx1⟩:=hi1;obtain ⟨fc1,e1,_⟩:=hx1.obj;have lc1:=hx1.lt wT co (by simp [ownC]);have g3 : ∀ l,(St T [] l).get co=_:=fun l=>(jk lc1).trans e1;have u3 : ∀ c' l,(St T [] l).upd co c'=St T [(co,some c')] l:=fun c' l=>by rw [jT lc1]; rfl
    refine bk ?_;refine XQ E ?_;refine afy rfl hcal rfl hc8 ?_;rintro _ _ ⟨rfl,rfl⟩;refine XN ?_ (r:=by conv=>lhs;simp[QV,g3,u3]);refine ja ?_;have h8:CP co mv (ownC co fo ps) S { cc with op:=f cc } (St T [(co,some (6,[mv,bI cc.k,bI (f cc),vl bH cc.locals,fc1,bI cc.ops]))] []):=by
     refine ⟨_,⟨fo1,ps1,rfl,hx1.turn rfl (fun o ho hne=>by rw [jk (hx1.lt wT o ho)]; simp [uGet,hne]) fun fc h=>by rw [e1] at h; cases h; rw [jk lc1]; simp [uGet]⟩,⟨by rw [jH]; simp only [lid]; have:=hk1.1; simp; omega,fun o ho hno => ?_⟩,ho1⟩;have hoc:o≠co:=by rintro rfl; exact hno (by simp [ownC])
     rw [jk (by have:=hk1.1; omega)];simp only [uGet];rw [if_neg hoc];exact hk1.2 o ho hno
    obtain ⟨T8,hT8⟩ : ∃ T8,St T [(co,some (6,[mv,bI cc.k,bI (f cc),vl bH cc.locals,fc1,bI cc.ops]))] []=T8:=⟨_,rfl⟩
    rw [hT8] at h8;show VWp _ _ _ _ _ _ (St T [(co,some (6,[mv,bI cc.k,bI (f cc),vl bH cc.locals,fc1,bI cc.ops]))] []);rw [hT8];refine jD fun w8 => ?_;rw [<-jh w8];have b8:OkC Bk { cc with op:=f cc }:=⟨⟨hbk.b.n,hbk.b.st⟩,hbk.ne⟩
    have hcc:inC m l s.inn s.out lab f c=match zM s.out { cc with op:=f cc } with
     | .error e => .error e
     | .ok (_,c1)=>match c1.fs with
      | [] => .ok c1
      | f::r=>if f.st=[] then .ok { c1 with fs:=r } else .error (c1.flt 10):=hinc
    refine XQ E ?_;refine jb rfl ((jca co mv s.out _ (by omega) (by omega)).use h8 w8 b8 (fun e U he hk=>hE e U (by rw [hcc,he]) hk)) ?_;rintro _ T9 ⟨xs,c9,q9,rfl,h9,w9⟩;rw [q9] at hcc;simp only at hcc;have b9:=b8.pops q9;refine ja ?_;rw [<-jh w9];obtain ⟨own9,hi9,hk9,ho9⟩:=h9;obtain ⟨fo9,p9,ps9,f9,fs9,hfs9,rfl,hx9⟩:=hi9.cons b9.ne;rw [hfs9] at hcc;simp only at hcc;have hl9:=hx9.frm.len;rw [hfs9] at hl9;have hn9:=b9.b.n;rw [hfs9] at hn9;simp only [av] at hl9 hn9;have htop:VCallsX Tryz.prog 130 [.ptr co 0] (St T9 [] []) (fun r U=>r = .ptr p9.1 0/\U=St T9 [] []) E:=by rw [jh w9]; exact (acf hx9 (by omega)).toX
    have hfr:=hx9.frm;rw [hfs9] at hfr;obtain ⟨cell,k8,k9⟩:=hfr.1;have hlt9:=hx9.lt w9;have g9 : ∀ l,(St T9 [] l).get p9.1=_:=fun l=>(jk (hlt9 p9.1 (by simp [ownC,qG]))).trans k8;obtain ⟨bb,hbb⟩ : ∃ bb,decide (f9.st=[])=bb:=⟨_,rfl⟩
    have hm10:=jdq w9 hx9 [] bb 10 (E:=E) (fun h U hk=>hE _ U (by rw [hcc,if_neg (by rw [h] at hbb; simpa using hbb)]) (JT hk9 ho9 (hk.weak (by simp))));have hlc:Yf (St T9 [] []) cell=some (.int .i64 (f9.st.length:Int)):=by
     rcases k9 with ⟨rfl,h,_⟩ | ⟨rst,rfl,k10,_⟩
     .rw [h]; rfl
     .simp only [Yf];rw [jk (hlt9 p9.2 (by simp [ownC,qG]))];simp only [uGet];rw [k10]
      rfl
    have hb1:decide (f9.st.length=0)=bb:=by rw [<-hbb]; exact decide_eq_decide.2 List.length_eq_zero_iff
    have hb2:decide ((f9.st.length:Int)=0)=bb:=by rw [<-hb1]; exact decide_eq_decide.2 (by omega)
    refine XQ E ?_;refine jb rfl htop ?_;rintro _ _ ⟨rfl,rfl⟩;refine XN ?_ (r:=by conv=>lhs;simp[QV,g9,hlc,hb1,hb2,hbb]);refine jb rfl hm10 ?_;rintro _ _ ⟨rfl,rfl,rfl⟩;rw [if_pos (by simpa using hbb)] at hcc;refine ja ?_;obtain ⟨⟨fc9,e9,e10⟩,e11,e12,e13⟩:=hx9;obtain ⟨N,hN⟩ : ∃ N,ps9.length=N:=⟨_,rfl⟩
    rcases e10 with ⟨_,h,_⟩ | ⟨rst9,rfl,e14,e15⟩
    .cases h
    simp only [av,hN] at e9;have lc9:=hlt9 co (by simp [ownC]);have lf9:=hlt9 fo9 (by simp [ownC]);obtain ⟨C9,hC9⟩ : ∃ C9,((p9::ps9).map pO).reverse++rst9=C9:=⟨_,rfl⟩
    rw [hC9] at e14;have dg1:(DU [(co,some (6,[mv,bI c9.k,bI c9.op,vl bH c9.locals, .slice fo9 0 (N+1),bI c9.ops])),(fo9,some (1,C9))]).get co=some (6,[mv,bI c9.k,bI c9.op,vl bH c9.locals, .slice fo9 0 (N+1),bI c9.ops]):=by simp [DU,uGet]
    have dg2:(DU [(co,some (6,[mv,bI c9.k,bI c9.op,vl bH c9.locals, .slice fo9 0 (N+1),bI c9.ops])),(fo9,some (1,C9))]).get fo9=some (1,C9):=by simp [DU,uGet,e15]
    have dold9 : ∀ n0,T9.nx<=n0->ZX.old ⟨DU [(co,some (6,[mv,bI c9.k,bI c9.op,vl bH c9.locals, .slice fo9 0 (N+1),bI c9.ops])),(fo9,some (1,C9))],DU [(co,some (6,[mv,bI c9.k,bI c9.op,vl bH c9.locals, .slice fo9 0 (N+1),bI c9.ops])),(fo9,some (1,C9))],T9,[co],n0,true⟩:=fun n0 h=>jea (fun p hp=>by
     simp only [aE,List.not_mem_nil,or_false] at hp;rcases hp with rfl | rfl
     .simp only; omega
     .simp only; omega) h
    have dok9:ZX.ok ⟨DU [(co,some (6,[mv,bI c9.k,bI c9.op,vl bH c9.locals, .slice fo9 0 (N+1),bI c9.ops])),(fo9,some (1,C9))],DU [(co,some (6,[mv,bI c9.k,bI c9.op,vl bH c9.locals, .slice fo9 0 (N+1),bI c9.ops])),(fo9,some (1,C9))],T9,[co],T9.nx,true⟩ (St T9 [] []):=aae (fun p hp=>by
     rw [jh w9];simp only [aE,List.not_mem_nil,or_false] at hp;rcases hp with rfl | rfl
     .exact e9
     .exact e14) (jN (by simp)) (by rw [jh w9]; exact aT _)
    obtain ⟨D9,hD9⟩ : ∃ D9,DU [(co,some (6,[mv,bI c9.k,bI c9.op,vl bH c9.locals,V.slice fo9 0 (N+1),bI c9.ops])),(fo9,some (1,C9))]=D9:=⟨_,rfl⟩
    rw [hD9] at dg1 dg2 dold9 dok9;have a9:IntKind.i64.wrap (((N+1:Nat):Int)-1)=(N:Int):=by rw [wrap_i64 (by omega) (by omega)]; omega
    have a10:IntKind.i64.wrap ((N:Int)+1-1)=(N:Int):=by rw [wrap_i64 (by omega) (by omega)]; omega
    have a11:IntKind.i64.wrap (N:Int)=(N:Int):=wrap_i64 (by omega) (by omega);have hsl:qN 1 D9 (.slice fo9 0 (N+1)) none (some (.int .i64 (N:Int))) none=some (.slice fo9 0 N):=by
     simp [qN,zd,dg2]
    have g10 : ∀ l,(St T9 [] l).get co=_:=fun l=>(jk lc9).trans e9;have u10 : ∀ c' l,(St T9 [] l).upd co c'=St T9 [(co,some c')] l:=fun c' l=>by rw [jT lc9]; rfl
    refine QT ?_;refine XD E (⟨D9,D9,T9,[co],T9.nx,true⟩) [] [0,1,2,3,4,5,6,7,8,9,10,11,12,13,14] [] (ho:=dold9 _ (aT _)) (hz:=dok9) (r:=by conv=>lhs;simp[QV,↓ju,ZR,Zs,zz,jl,ji,V.nj,V.nj1,V.bK,dg1,dg2,a9,a10,a11,hsl]) (k:=?_);refine zw rfl (by conv=>lhs; simp [QV,g10,u10]) rfl ?_;refine bk ?_;obtain ⟨T10,hT10⟩ : ∃ T10,St T9 [(co,some (6,[mv,bI c9.k,bI c9.op,vl bH c9.locals,V.slice fo9 0 N,bI c9.ops]))] []=T10:=⟨_,rfl⟩
    have t10 : ∀ o,o<T9.nx->o≠co->T10.get o=T9.get o:=fun o h h2=>by rw [<-hT10,jk h]; simp [uGet,h2]
    have t11:T10.get co=some (6,[mv,bI c9.k,bI c9.op,vl bH c9.locals, .slice fo9 0 N,bI c9.ops]):=by rw [<-hT10,jk lc9]; simp [uGet]
    have hx10:CIx co mv { c9 with fs:=fs9 } fo9 ps9 T10:=by
     rw [hfs9] at e11;refine ⟨⟨.slice fo9 0 ps9.length,by rw [hN]; exact t11, .inr ⟨.ptr p9.1 0::rst9,rfl, ?_,e15⟩⟩,e11.2.keep fun o ho => ?_,fun q hq=>e12 q (by simp [hq]),(List.pairwise_cons.1 e13).2⟩
     .rw [t10 fo9 lf9 e15,e14, <-hC9]; simp [pO]
     .obtain ⟨q,hq,e⟩:=jcD ho;have:=e12 q (by simp [hq]);refine t10 o (hlt9 o (by simp [ownC,qG,ho])) ?_;rcases e with rfl | rfl
      .exact this.1
      .exact this.2.1
    refine jn ⟨{ c9 with fs:=fs9 },hcc,rfl,ownC co fo9 ps9,⟨fo9,ps9,rfl, ?_⟩,⟨?_,fun o ho hno => ?_⟩,fun o ho=>ho9 o ?_⟩
    .rw [<-hT10] at hx10; exact hx10
    .rw [jH]; simp only [lid]; have:=hk9.1; simp; omega
    .have hoc:o≠co:=by rintro rfl; exact hno (by simp [ownC])
     have h:=(t10 o (by have:=hk9.1; omega) hoc).trans (hk9.2 o ho hno);rw [<-hT10] at h;exact h
    .simp only [ownC,qG,aE] at ho ⊢;rcases ho with h | h | h
     .exact .inl h
     .exact .inr (.inl h)
     .exact .inr (.inr (.inr (.inr h)))
 rcases hfc with ⟨rfl,hps,hfo⟩ | ⟨rst,rfl,hf2,hf3⟩
 .subst hps;simp only [aF,List.map_nil,List.reverse_nil,aZ] at hopen rest ⊢;have ap:jB 1 8 (St S [] [none,some (4,[vl bH s.out,vl bH lab, .nils, .bool false]),some (1,[.ptr (lid S.nx 1) 0])]) .nils (.slice (lid S.nx 2) 0 1)=some (.slice (lid S.nx 3) 0 1,St S [] [none,some (4,[vl bH s.out,vl bH lab, .nils, .bool false]),some (1,[.ptr (lid S.nx 1) 0]),some (1,[.ptr (lid S.nx 1) 0])]):=by
   rw [adr (x := .ptr (lid S.nx 1) 0) (by simp),jH,qT]; rfl
  have u1 : ∀ l c',(St S [] l).upd co c'=St S [(co,some c')] l:=fun l c'=>by rw [jT l1]; rfl
  have g1':=g1;rw [<-hM] at g1';refine QT ?_;refine XD E (⟨D,D,S,[fo,co],lid S.nx 1,true⟩) [] [0,1,2,3,4,5,6,7,8,9,10,11,12,13,14] [] (ho:=dold _) (hz:=dok [] [] (g1 _) (by simp)) (r:=by conv=>lhs;simp[QV,↓ju,ZR,Zs,zz,jl,ji,V.nj,V.nj1,V.bK,dg]) (k:=?_);refine jo rfl (by conv=>lhs; simp [QV]) (dok _ _ (g1 _) (by simp)) ?_;refine jo rfl (by conv=>lhs; simp [QV]) (dok _ _ (g1 _) (by simp)) ?_;refine jo rfl (by conv=>lhs; simp [QV,ap]) (dok _ _ (g1 _) (by simp)) ?_;refine ZM (r:=by conv=>lhs;simp[QV,↓ju,ZR,Zs,zz,jl,ji,V.nj,V.nj1,V.bK,dg]) (k:=?_);refine zw rfl (by conv=>lhs; simp [QV,g1',u1]) rfl ?_;refine QO [0,1,4,7] ?_;refine jD fun w0 => ?_;refine rest _ (hopen _ (by rw [jH]; simp [lid]) (fun o ho h1 h2=>by rw [jk ho]; simp [uGet,h1]) (by rw [jk l1]; simp [uGet]) (by simp) (by simp)) w0
 .obtain ⟨R,hR⟩ : ∃ R,(ps.map pO).reverse=R:=⟨_,rfl⟩
  have hRl:R.length=ps.length:=by rw [<-hR]; simp
  obtain ⟨N,hN⟩ : ∃ N,ps.length=N:=⟨_,rfl⟩
  rw [hN] at hRl hopen;rw [hR] at hf2 hopen;have ap:jB 1 8 (St S [] [none,some (4,[vl bH s.out,vl bH lab, .nils, .bool false]),some (1,[.ptr (lid S.nx 1) 0])]) (.slice fo 0 N) (.slice (lid S.nx 2) 0 1)=some (.slice (lid S.nx 3) 0 (N+1),St S [(fo,none)] [none,some (4,[vl bH s.out,vl bH lab, .nils, .bool false]),some (1,[.ptr (lid S.nx 1) 0]),some (1,R++[.ptr (lid S.nx 1) 0])]):=by
   have:=asv (S:=St S [] [none,some (4,[vl bH s.out,vl bH lab, .nils, .bool false]),some (1,[.ptr (lid S.nx 1) 0])]) (o:=fo) (s:=lid S.nx 2) (x := .ptr (lid S.nx 1) 0) (xs:=R) (rest:=rst) (by simp) (by rw [jk l2]; exact hf2) (by omega);rw [hRl] at this;rw [this,jH,Jv l2,qT]; rfl
  have u1 : ∀ l c',(St S [(fo,none)] l).upd co c'=St S [(fo,none),(co,some c')] l:=fun l c'=>by rw [jT l1]; simp [uSet,hf3,Ne.symm hf3]
  have g2 : ∀ l,(St S [(fo,none)] l).get co=some (6,M):=fun l=>by rw [jk l1]; simp only [uGet]; rw [if_neg (Ne.symm hf3)]; exact h1
  have g2':=g2;rw [hN] at hM dg;rw [<-hM] at g2';refine QT ?_;refine XD E (⟨D,D,S,[fo,co],lid S.nx 1,true⟩) [] [0,1,2,3,4,5,6,7,8,9,10,11,12,13,14] [] (ho:=dold _) (hz:=dok [] [] (g1 _) (by simp)) (r:=by conv=>lhs;simp[QV,↓ju,ZR,Zs,zz,jl,ji,V.nj,V.nj1,V.bK,dg]) (k:=?_);refine jo rfl (by conv=>lhs; simp [QV]) (dok _ _ (g1 _) (by simp)) ?_;refine jo rfl (by conv=>lhs; simp [QV]) (dok _ _ (g1 _) (by simp)) ?_;refine jo rfl (by conv=>lhs; simp [QV,ap]) (dok _ _ (g2 _) (by simp)) ?_;refine ZM (r:=by conv=>lhs;simp[QV,↓ju,ZR,Zs,zz,jl,ji,V.nj,V.nj1,V.bK,dg]) (k:=?_);refine zw rfl (by conv=>lhs; simp [QV,g2',u1]) rfl ?_;refine QO [0,1,4,7] ?_;refine jD fun w0 => ?_;refine rest _ (hopen _ (by rw [jH]; simp [lid]) (fun o ho h1 h2=>by rw [jk ho]; simp [uGet,h1,h2]) (by rw [jk l1]; simp [uGet,Ne.symm hf3]) (by simp) (by simp)) w0
end Go.Vw
