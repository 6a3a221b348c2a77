import Derived.Test.YtcpncecdegmliaaGreatC28
/- Part of the proof. -/
set_option linter.unusedVariables false
set_option linter.unusedSimpArgs false
set_option maxRecDepth 10000
set_option maxHeartbeats 2000000
namespace Ss
open Go.Vw.G
def UpEnds (near:List Int):Nat→Int→Prop
 | 0,b=>b<0
 | k+1,b=>b<0∨(okIx near b∧UpEnds near k (near.getD b.toNat 0))
end Ss
namespace Go.Vw
open Go.Proofs Go.RowKit
attribute [-simp] List.map_set
def qG (M:Ss.Far):List V:=M.map fun e => .tuple [.agg [.int .i64 e.1.1, .int .i64 e.1.2], .int .u64 e.2]
theorem keySame_pair (a b a' b':Int):zh (.agg [.int .i64 a, .int .i64 b]) (.agg [.int .i64 a', .int .i64 b'])=some (a==a'&&b==b'):=rfl
theorem lookV_pairs (v b:Int) (v' b':Int) (w:V) (r:List V) (i:Nat):qR (.agg [.int .i64 v, .int .i64 b]) (.tuple [.agg [.int .i64 v', .int .i64 b'],w]::r) i=if (v,b)=(v',b') then some (some (i,w)) else qR (.agg [.int .i64 v, .int .i64 b]) r (i+1):=by
 rw [qR,keySame_pair]
 by_cases e1:v=v'<;>by_cases e2:b=b'<;>simp [e1,e2]
theorem ZW (v b:Int) : ∀ (M:Ss.Far) (i:Nat),(qR (.agg [.int .i64 v, .int .i64 b]) (qG M) i=some none∧Ss.farGet (v,b) M=0 ∧ ∀ w,Ss.farPut (v,b) w M=M++[((v,b),w)]) ∨
  ∃ (j:Nat),qR (.agg [.int .i64 v, .int .i64 b]) (qG M) i=some (some (i+j, .int .u64 (Ss.farGet (v,b) M))) ∧ ∀ w,Ss.farPut (v,b) w M=M.set j ((v,b),w)
 | [],i => .inl ⟨rfl,rfl,fun w=>rfl⟩
 | ((v',b'),w')::r,i=>by
  have h1:qR (.agg [.int .i64 v, .int .i64 b]) (qG (((v',b'),w')::r)) i=_:=lookV_pairs v b v' b' (.int .u64 w') (qG r) i
  by_cases e:(v,b)=(v',b')
  ·rw [if_pos e] at h1;exact .inr ⟨0,by rw [h1]; simp [Ss.farGet,e],fun w=>by simp [Ss.farPut,e]⟩
  ·rw [if_neg e] at h1;rcases ZW v b r (i+1) with ⟨h2,h3,h4⟩ | ⟨j,h2,h3⟩
   ·exact .inl ⟨h1.trans h2,by simp only [Ss.farGet,if_neg e,h3],fun w=>by simp only [Ss.farPut,if_neg e,h4]; rfl⟩
   ·exact .inr ⟨j+1,by rw [h1,h2]; simp only [Ss.farGet,if_neg e]; congr 3; omega,fun w=>by simp only [Ss.farPut,if_neg e,h3]; rfl⟩
theorem look_far {S:Store} {om:Nat} {M:Ss.Far} (h:S.get om=some (0,qG M)) (v b:Int):ze true (.int .u64 0) false S (.map om) (.agg [.int .i64 v, .int .i64 b])=some (.int .u64 (Ss.farGet (v,b) M)):=by
 simp only [ze,if_true,h];rcases ZW v b M 0 with ⟨h1,h2,_⟩ | ⟨j,h1,_⟩
 ·rw [h1,h2]; rfl
 ·rw [h1]; rfl
theorem put_far {S:Store} {om:Nat} {M:Ss.Far} (h:S.get om=some (0,qG M)) (v b w:Int):qF true S (.map om) (.agg [.int .i64 v, .int .i64 b]) (.int .u64 w)=some (S.upd om (0,qG (Ss.farPut (v,b) w M))):=by
 simp only [qF,if_true,h];rcases ZW v b M 0 with ⟨h1,_,h2⟩ | ⟨j,h1,h2⟩
 ·rw [h1,h2]; simp [qG]
 ·rw [h1,h2]; simp [qG,List.map_set]
theorem jbo (p:Nat→Bool) (M:Ss.Far):V.idsL p (qG M)=true:=by
 simp only [qm,List.all_eq_true,qG,List.mem_map];rintro x ⟨e,_,rfl⟩; rfl
theorem encFar_ren (f:Nat→Nat) (M:Ss.Far):V.renL f (qG M)=qG M:=by
 simp only [qe,qG,List.map_map];exact List.map_congr_left fun e _=>rfl
theorem pairOk13:JG (P:=Tryz.prog) (kt:=76) 0=true:=by rw [WW]; kernel_rfl
theorem Clo_v (S:Store) (near:List Int) (n:Int) (M:Ss.Far) (x:Ss.Ins) (pn pr pf om oa:Nat) (ou:V) (hx:x.Fits) (hx1:x.op=257→x.args≠[]∧x.n≤8589934592) (hup:Ss.UpEnds near 256 n) (hn:near.length<2^62)
  (hou:ou.one=true) (gn:S.get pn=some (1,[vint n])) (gr:S.get pr=some (1,[vl vint near])) (gf:S.get pf=some (1,[.map om])) (gm:S.get om=some (0,qG M)) (ga:S.get oa=some (1,x.args.map vint)) :
  VCalls Tryz.prog 22 [.agg [vint x.op,vu x.n, .slice oa 0 x.args.length,ou], .ptr pn 0, .ptr pr 0, .ptr pf 0] S fun v T=>v = .bool (Ss.pcov near n M x)∧T=S.upd om (0,qG (Ss.pnext near n M x)):=by
 refine QB (c:=jc Tryz.f22) Tryz.func22 Tryz.ntmps22 fun hwf=>?_
 have ln:=jx hwf gn;have lr:=jx hwf gr;have lf:=jx hwf gf;have lm:=jx hwf gm;have la:=jx hwf ga;have bn:=fun u l => @jm S u l pn ln
 have br:=fun u l => @jm S u l pr lr
 have bf:=fun u l => @jm S u l pf lf
 have bm:=fun u l => @jm S u l om lm
 have ba:=fun u l => @jm S u l oa la
 obtain ⟨op,N,args,outs⟩:=x;simp only at *
 have hno : ∀ M',Ss.pnext near n M ⟨op,N,args,outs⟩=M'→M'=M→St S [] []=S.upd om (0,qG M'):=fun M' h1 h2=>by
  subst h2;rw [qB hwf];refine Store.ext' (funext fun o => ?_) rfl;rw [qg]; split
  ·rename_i e; subst e; exact gm
  ·rfl
 by_cases ho:op=257
 case neg =>
  have ho' : ¬ (op:Int)=257:=ho
  repeat first|refine QG ?_|refine QY ?_ (r:=by conv=>lhs;simp[QV,ho,hou])
  refine zi (X := .bool false) (S':=St S [] []) hwf (by simp) rfl rfl rfl ⟨?_, ?_⟩
  ·simp [Ss.pcov,ho]
  ·exact hno _ rfl (by simp [Ss.pnext,ho])
 subst ho;obtain ⟨ha,hN⟩:=hx1 rfl;obtain ⟨v,ar,rfl⟩ : ∃ v ar,args=v::ar:=by cases args with | nil=>exact absurd rfl ha | cons v ar=>exact ⟨v,ar,rfl⟩
 have ga':S.get oa=some (1, .int .i64 v::ar.map vint):=ga;have h0:(0:Int)<(ar.length:Int)+1:=by omega
 repeat first|refine QG ?_|refine QY ?_ (r:=by conv=>lhs;simp[QV,hou,bn,br,bf,bm,ba,gn,gr,gf,gm,ga',h0])
 have hcov:Ss.pcov near n M ⟨257,N,v::ar,outs⟩=(Ss.chain near 257 n).any fun up=>decide (N<Ss.farGet (v,up) M):=by simp [Ss.pcov]
 have hlk : ∀ l b,ze true (.int .u64 0) false (St S [] l) (.map om) (.agg [.int .i64 v, .int .i64 b])=some (.int .u64 (Ss.farGet (v,b) M)):=fun l b=>look_far ((bm [] l).trans gm) v b
 have hput : ∀ l w,qF true (St S [] l) (.map om) (.agg [.int .i64 v, .int .i64 n]) (.int .u64 w)=some (St S [(om,some (0,qG (Ss.farPut (v,n) w M)))] l):=fun l w=>by rw [put_far ((bm [] l).trans gm),qN lm]; rfl
 have hpk:=pairOk13;have hwN:IntKind.u64.wrap (N+1)=N+1:=by
  have:=hx.2.1.1;simp only at this;exact jr (by omega) (by omega)
 refine QT ?_;refine QJ (St S [] [some (4,[.int .i64 257, .int .u64 N, .slice oa 0 (ar.length+1),ou])]) (St S [] [some (4,[.int .i64 257, .int .u64 N, .slice oa 0 (ar.length+1),ou])]) [] ?_ (r:=by conv=>lhs; simp [QV,hou,bn,br,bf,bm,ba,gn,gr,gf,gm,ga',h0]);refine QI ?_;refine QI ?_;refine QN ?_
 repeat first|refine QG ?_|refine QY ?_ (r:=by conv=>lhs;simp[QV,bn,gn])
 refine QT ?_;refine jd [2,3,4,6,7] rfl (fun c σ S' => ∃ (k:Nat) (b:Int),c=k∧Ss.UpEnds near k b∧((Ss.chain near (k+1) b).any fun up=>decide (N<Ss.farGet (v,up) M))=(Ss.chain near 257 n).any (fun up=>decide (N<Ss.farGet (v,up) M))∧σ=[(2, .ptr pr 0),(3, .ptr pf 0),(4, .ptr (lid S.nx 0) 0),(6, .ptr (lid S.nx 1) 0),(7,vint b)]∧S'=St S [] [some (4,[.int .i64 257, .int .u64 N, .slice oa 0 (ar.length+1),ou]),some (2,[vint v,vint n])]) 256 ?_ ?_
 ·exact ⟨256,n,rfl,hup,rfl,by simp [Fr.only,Fr.look],rfl⟩
 ·rintro k σ T ⟨_,b,rfl,hE,hany,rfl,rfl⟩
  by_cases hb:0≤b
  case neg =>
   have hnb : ¬ Go.Vw.G.okIx near b:=fun h=>hb h.1
   rw [Ss.chain,if_neg hnb,List.any_nil] at hany;rw [←hcov] at hany;have hnx:Ss.pnext near n M ⟨257,N,v::ar,outs⟩=Ss.farPut (v,n) (N+1) M:=by rw [Ss.pnext,if_pos ⟨rfl,hany.symm⟩]; rfl
   rw [hnx, ←hany]
   repeat first|refine QG ?_|refine QY ?_ (r:=by conv=>lhs;simp[QV,hb])
   refine QT ?_;refine QY ?_ (r:=by conv=>lhs;simp[QV,bf,gf,hwN,hpk,hput])
   repeat first|refine QG ?_|refine QY ?_
   refine zi (X := .bool false) (S':=S.upd om (0,qG (Ss.farPut (v,n) (N+1) M))) hwf (by simp) rfl (by simp [JI,jag,jbo]) ?_ ⟨rfl,rfl⟩;simp only [gcU,gcE,Option.map_some,encFar_ren];exact jaC hwf lm
  obtain ⟨m,rfl⟩ : ∃ m:Nat,b=m:=⟨b.toNat,by omega⟩
  cases k with
  | zero=>simp only [Ss.UpEnds] at hE; omega
  | succ k =>
   rcases hE with hE | ⟨hok,hE⟩
   ·omega
   have hml:m<near.length:=by have:=hok.2; omega
   have hmi:(m:Int)<(near.length:Int):=hok.2;have eg:near.getD m 0=near[m]:=by rw [List.getD_eq_getElem?_getD,List.getElem?_eq_getElem hml]; rfl
   rw [Ss.chain,if_pos hok,List.any_cons] at hany;simp only [Int.toNat_natCast,eg] at hany hE
   by_cases hN2:N<Ss.farGet (v,(m:Int)) M
   ·simp only [hN2,decide_true,Bool.true_or] at hany;have hcv:Ss.pcov near n M ⟨257,N,v::ar,outs⟩=true:=by rw [hcov, ←hany]
    repeat first|refine QG ?_|refine QY ?_ (r:=by conv=>lhs;simp[QV,hb,bf,gf,ba,ga',hlk,hpk,hN2,h0])
    refine zi (X := .bool true) (S':=St S [] []) hwf (by simp) rfl rfl rfl ⟨?_, ?_⟩
    ·rw [hcv]
    ·exact hno _ rfl (by rw [Ss.pnext,if_neg (fun h=>by rw [hcv] at h; cases h.2)])
   ·simp only [hN2,decide_false,Bool.false_or] at hany
    repeat first|refine QG ?_|refine QY ?_ (r:=by conv=>lhs;simp[QV,hb,bf,gf,ba,ga',hlk,hpk,hN2,h0,br,gr,hml,hmi])
    show jy _ _ _ _ _ _ _;exact again ⟨Nat.lt_succ_self k,k,near[m],rfl,hE,hany,by simp [Fr.only,Fr.look],rfl⟩
end Go.Vw
namespace Ss
open Go.Vw Go.Vw.G
theorem form_check {e:Env} {n out:Int} (h:(form e 257 n out).ok=true):(form e 257 n out).inn=[127]∧(form e 257 n out).most=8589934592∧(form e 257 n out).outs=[]:=by
 have e0:form e 257 n out=formNum e 257:=by simp [form]
 have e1:numSig 257=((numSig 257).1,(numSig 257).2.1,false):=by
  have:(numSig 257).2.2=false:=by decide
  rw [←this]
 rw [e0] at h ⊢;unfold formNum at h ⊢;rw [e1] at h ⊢;simp only at h ⊢
 cases hm:e.mem with
 | false=>rw [hm] at h; simp at h
 | true=>simp [formMem]
theorem check_ins {e:Env} {f:Fn} (h:check e f=true) {b:Block} (hb:b∈f.blocks) {x:Ins} (hx:x∈b.code) : ∃ ds near i k,insOk e f ds near i k x=true:=by
 obtain ⟨_,ds,_,_,hB⟩:=check_spec h;obtain ⟨j,hj⟩:=List.mem_iff_getElem?.1 hb;obtain ⟨k,hk⟩:=List.mem_iff_getElem?.1 hx;obtain ⟨h1,_⟩:=checkBlocks_at hB hj;exact ⟨_,_,_,_,checkCode_at h1 hk⟩
theorem eqF_len {α:Type} {p:α→α→Bool} : ∀ {l m:List α},eqF p l m=true→l.length=m.length
 | [],[],_=>rfl
 | [],_::_,h=>by simp [eqF] at h
 | _::_,[],h=>by simp [eqF] at h
 | x::l,y::m,h=>by
  have:eqF p l m=true:=by
   simp only [eqF,Bool.and_eq_true] at h
   first | exact h.2 | exact h.2.2
  simp [eqF_len this]
theorem check_257 {e:Env} {f:Fn} (h:check e f=true) {b:Block} (hb:b∈f.blocks) {x:Ins} (hx:x∈b.code) (ho:x.op=257):x.args.length=1∧x.n≤8589934592∧x.outs=[]:=by
 obtain ⟨ds,near,i,k,hi⟩:=check_ins h hb hx;simp only [insOk,Bool.and_eq_true,decide_eq_true_eq,ho] at hi;obtain ⟨⟨⟨h1,h2⟩,h3⟩,h4⟩:=hi;obtain ⟨f1,f2,f3⟩:=form_check h1;rw [f1] at h4;rw [f2] at h2;rw [f3] at h3;exact ⟨by have h5:List.length x.args=List.length [(127:Int)]:=eqF_len h4; simpa using h5,h2,by simpa [typesOf] using h3⟩
theorem ends_of {g:List (List Nat)} (hg:Ok g) {near:List Int} (hN:NearOk g near) : ∀ (k:Nat) (b:Nat),b∈order g→rk g (order g) b<k→UpEnds near k b
 | 0,b,_,h=>by omega
 | k+1,b,hb,h=>by
  have ho:=order_ok hg;have hbl:=ho.lt b hb;have hok:okIx near (b:Int):=⟨by omega,by rw [hN.len]; omega⟩
  refine .inr ⟨hok, ?_⟩;rw [Int.toNat_natCast]
  by_cases hb0:b=0
  ·subst hb0;have:near.getD 0 0 = -1:=hN.zero;rw [this]
   cases k with
   | zero=>show (-1:Int)<0; omega
   | succ k=>exact .inl (by omega)
  ·obtain ⟨p,q1,q2,q3,q4,q5⟩:=hN.near b hb hb0;have hnd:near.getD b 0=(p:Int):=q1;rw [hnd];have hr:=q4.rk ho q2 hb q3;exact ends_of hg hN k p q2 (by omega)
structure Graphic (f:Fn):Prop where
 ok:Ok (nats (succs f.blocks))
 right:G.right (succs f.blocks)=true
 ord:G.ordI (succs f.blocks)=order (nats (succs f.blocks))
 near:G.nearI (succs f.blocks)=rNear (nats (succs f.blocks))
 len:(order (nats (succs f.blocks))).length=f.blocks.length
 lt : ∀ n∈order (nats (succs f.blocks)),n<f.blocks.length
 nlen:(rNear (nats (succs f.blocks))).length=f.blocks.length
 ends : ∀ n∈order (nats (succs f.blocks)),UpEnds (rNear (nats (succs f.blocks))) 256 n
 blocks:f.blocks.length≤256
theorem jaK (bs:List Block):(nats (succs bs)).length=bs.length:=by rw [nats_length,succs,List.length_map]
theorem graphic {e:Env} {f:Fn} (h:check e f=true):Graphic f:=by
 obtain ⟨h1,ds,hds,hsh,hB⟩:=check_spec h;have hr:G.right (succs f.blocks)=true:=by
  unfold shapeOk at hsh;simp only [Bool.and_eq_true] at hsh;exact hsh.1.1.1.1
 have hol:(G.ordI (succs f.blocks)).length=f.blocks.length:=by
  unfold shapeOk at hsh;simp only [Bool.and_eq_true,decide_eq_true_eq] at hsh;exact hsh.1.1.1.2
 have hok:=right_ok hr;have e1:G.ordI (succs f.blocks)=order (nats (succs f.blocks)):=by simp [G.ordI,hr]
 have e2:G.nearI (succs f.blocks)=rNear (nats (succs f.blocks)):=by simp [G.nearI,hr]
 have hN:=jbV hok;have ho:=order_ok hok;have hl:=jaK f.blocks;rw [e1] at hol;have hmx:=hok.max;rw [hl] at hmx;exact ⟨hok,hr,e1,e2,hol,fun n hn=>by rw [←hl]; exact ho.lt n hn,by rw [hN.len,hl],fun n hn=>ends_of hok hN 256 n hn (by have:=rk_lt ho hn; omega),hmx⟩
theorem check_small {e:Env} {f:Fn} (h:check e f=true):f.small=true:=by
 have:=(check_spec h).1;unfold checkHead at this;simp only [Bool.and_eq_true] at this;exact this.1.1.1.1.2
end Ss
namespace Ss
abbrev on (need:List Bool) (v:Int):Bool:=need.getD v.toNat false
def off (need:List Bool):Nat:=need.countP fun b => !b
def InR (n:Nat) (v:Int):Prop:=0≤v∧v<n
def Inc (a b:List Bool):Prop:=a.length=b.length ∧ ∀ i:Nat,a[i]? = some true→b[i]? = some true
theorem Inc.refl (a:List Bool):Inc a a:=⟨rfl,fun _ h=>h⟩
theorem Inc.trans {a b c:List Bool} (h:Inc a b) (k:Inc b c):Inc a c:=⟨h.1.trans k.1,fun i hi=>k.2 i (h.2 i hi)⟩
def rootsB (b:Block):List Int:=(b.code.flatMap fun x=>if pure x.op then [] else x.args++x.outs)++(b.term.args++if branches b.term then [b.term.arg] else [])
def roots (f:Fn):List Int:=(f.blocks.getD 0 default).params++f.blocks.flatMap rootsB
/-! ### An instruction more -/
def moreX (ts:List Int) (b:Block):Ins:=b.params.foldl (fun (x:Ins) (p:Int)=>if 0≤p∧p<(ts.length:Int)∧ts.getD p.toNat 0=126 then ⟨124,0,[p,p],[(ts.length:Int)]⟩ else x) ⟨256,9,[],[(ts.length:Int)]⟩
def addB (b:Block) (x:Ins):Block:=⟨b.params,b.code++[x],b.term⟩
def more (f:Fn) (j:Nat):Fn:=⟨f.sig,f.types++[126],f.blocks.set j (addB (f.blocks.getD j default) (moreX f.types (f.blocks.getD j default)))⟩
theorem putCode_len' {i:Int} : ∀ {l:List Ins} {k:Nat} {ds d:List Def},putCode i k ds l=some d→d.length=ds.length:=fun h=>(WT h).1
theorem putBlocks_params : ∀ {l:List Block} {i:Nat} {ds d:List Def},putBlocks i ds l=some d → ∀ (j:Nat) (b:Block),l[j]? = some b → ∀ v∈b.params,dAt d v=⟨true,((i+j:Nat):Int), -1⟩
 | [],i,ds,d,h=>by simp
 | b::l,i,ds,d,h=>by
  simp only [putBlocks] at h;obtain ⟨d2,h1,h2⟩:=Option.bind_eq_some_iff.1 h;obtain ⟨d1,h3,h4⟩:=Option.bind_eq_some_iff.1 h1;obtain ⟨p1,q1⟩:=Ks h3;obtain ⟨p2,_⟩:=Jf h4;obtain ⟨p3,_⟩:=Jk h2;intro j y hj v hv
  cases j with
  | zero =>
   simp only [List.getElem?_cons_zero,Option.some.injEq] at hj;subst hj;have n2:v∉Ju b.code:=fun hm=>by
    have:=p2.new v hm;rw [p1.made v hv] at this; cases this
   have e2:dAt d2 v=dAt d1 v:=p2.keep v (p1.pos v hv) n2;have n3:v∉allL l:=fun hm=>by
    have:=p3.new v hm;rw [e2,p1.made v hv] at this; cases this
   rw [p3.keep v (p1.pos v hv) n3,e2,q1 v hv]; simp
  | succ j =>
   have:=putBlocks_params h2 j y (by simpa using hj) v hv;rw [this]; congr 2; omega
theorem eqF_mono {α:Type} {p q:α→α→Bool} : ∀ {l m:List α},(∀ x∈l, ∀ y,p x y=true→q x y=true)→Go.Vw.eqF p l m=true→Go.Vw.eqF q l m=true
 | [],[],_,_=>rfl
 | [],_::_,_,h=>by simp [Go.Vw.eqF] at h
 | _::_,[],_,h=>by simp [Go.Vw.eqF] at h
 | a::l,b::m,hp,h=>by
  simp only [Go.Vw.eqF,Bool.and_eq_true] at h ⊢;exact ⟨hp a (by simp) b h.1,eqF_mono (fun x hx=>hp x (by simp [hx])) h.2⟩
end Ss
namespace Go.Vw
open Go.Proofs Go.RowKit
attribute [-simp] List.map_set
def idxG {α ρ:Type} (p:α→ρ→Bool) (nx:α→ρ→α):α→List ρ→Nat→Int × α
 | a,[],_=>(-1,a)
 | a,r::rs,k=>if p a r then ((k:Int),nx a r) else idxG p nx (nx a r) rs (k+1)
def delG {α ρ:Type} (p:α→ρ→Bool) (nx:α→ρ→α):α→List ρ→List ρ × α
 | a,[]=>([],a)
 | a,r::rs=>if p a r then delG p nx (nx a r) rs else (r::(delG p nx (nx a r) rs).1,(delG p nx (nx a r) rs).2)
theorem idxG_del {α ρ:Type} (p:α→ρ→Bool) (nx:α→ρ→α) : ∀ (rs:List ρ) (a:α) (k:Nat),((idxG p nx a rs k).1 = -1∧delG p nx a rs=(rs,(idxG p nx a rs k).2)) ∨ ∃ i:Nat,i<rs.length∧(idxG p nx a rs k).1=(k+i:Nat)∧delG p nx a rs=(rs.take i++(delG p nx (idxG p nx a rs k).2 (rs.drop (i+1))).1,(delG p nx (idxG p nx a rs k).2 (rs.drop (i+1))).2)
 | [],a,k => .inl ⟨rfl,rfl⟩
 | r::rs,a,k=>by
  by_cases h:p a r=true
  ·refine .inr ⟨0,by simp, ?_, ?_⟩
   ·simp [idxG,h]
   ·simp [delG,idxG,h]
  ·have e1:idxG p nx a (r::rs) k=idxG p nx (nx a r) rs (k+1):=by simp [idxG,h]
   have e2:delG p nx a (r::rs)=(r::(delG p nx (nx a r) rs).1,(delG p nx (nx a r) rs).2):=by simp [delG,h]
   rcases idxG_del p nx rs (nx a r) (k+1) with ⟨h1,h2⟩ | ⟨i,hi,h1,h2⟩
   ·exact .inl ⟨by rw [e1,h1],by rw [e2,h2,e1]⟩
   ·refine .inr ⟨i+1,by simp; omega,by rw [e1,h1]; congr 1; omega, ?_⟩;rw [e2,e1,h2];simp
theorem Jb {m:Nat} : ∀ {rows:List (List V)},(∀ r∈rows,r.length=m)→rows.flatten.length=rows.length*m
 | [],_=>by simp
 | r::rs,h=>by rw [List.flatten_cons,List.length_append,h r (by simp),Jb fun x hx=>h x (by simp [hx]),List.length_cons,Nat.succ_mul]; omega
theorem jah {m:Nat} : ∀ {rows:List (List V)} (k:Nat),(∀ r∈rows,r.length=m)→rows.flatten.take (k*m)=(rows.take k).flatten
 | [],k,_=>by simp
 | r::rs,0,h=>by simp
 | r::rs,k+1,h=>by
  have hr:=h r (by simp);rw [List.flatten_cons,List.take_succ_cons,List.flatten_cons, ←jah k fun x hx=>h x (by simp [hx]),Nat.succ_mul,List.take_append,hr];rw [show k*m+m-m=k*m by omega,List.take_of_length_le (by rw [hr]; omega)]
theorem flat_drop {m:Nat} {rows:List (List V)} (k:Nat) (h : ∀ r∈rows,r.length=m):rows.flatten.drop (k*m)=(rows.drop k).flatten:=by
 have e:=List.take_append_drop (k*m) rows.flatten;have e2:rows.flatten=(rows.take k).flatten++(rows.drop k).flatten:=by rw [←List.flatten_append,List.take_append_drop]
 rw [jah k h] at e;exact List.append_cancel_left (e.trans e2)
theorem flat_row {m:Nat} {rows:List (List V)} {k:Nat} (h : ∀ r∈rows,r.length=m) (hk:k<rows.length):(rows.flatten.drop (k*m)).take m=rows[k]:=by
 rw [flat_drop k h,List.drop_eq_getElem_cons hk,List.flatten_cons,List.take_append_of_le_length (by rw [h _ (List.getElem_mem hk)]; omega),List.take_of_length_le (by rw [h _ (List.getElem_mem hk)]; omega)]
theorem splice_len (cs:List V) (q:Nat) (xs:List V) (h:q+xs.length≤cs.length):(jT cs q xs).length=cs.length:=by
 simp only [jT,List.length_append,List.length_take,List.length_drop]; omega
theorem splice_take (cs:List V) (q:Nat) (xs:List V) (h:q+xs.length≤cs.length):(jT cs q xs).take (q+xs.length)=cs.take q++xs:=by
 rw [jT,List.take_append_of_le_length (by simp; omega),List.take_of_length_le (by simp; omega)]
theorem splice_take0 (cs:List V) (q:Nat) (xs:List V) (h:q≤cs.length):(jT cs q xs).take q=cs.take q:=by
 rw [jT,List.append_assoc,List.take_append_of_le_length (by simp; omega),List.take_take,Nat.min_self]
theorem splice_drop (cs:List V) (q r:Nat) (xs:List V) (h:q+xs.length≤cs.length) (hr:q+xs.length≤r):(jT cs q xs).drop r=cs.drop r:=by
 have h1:(cs.take q).length=q:=by rw [List.length_take]; omega
 rw [jT,List.drop_append,List.drop_eq_nil_of_le (by simp; omega),List.nil_append,List.drop_drop,List.length_append,h1]
 congr 1; omega
section
variable {α:Type} (I:α→Store→Prop) (p:α→List V→Bool) (nx:α→List V→α) {oc N:Nat} {rows:List (List V)} {fid:FuncId} {caps:List V}
theorem IndexDel_v (hc:jQ Tryz.prog fid=true) (hr4 : ∀ r∈rows,r.length=4) (hlim:rows.length<2^62) (hN:oc<N)
  (hloc : ∀ a S S',(∀ o,o<N→o≠oc→S'.get o=S.get o)→I a S→I a S')
  (hdel : ∀ a S r,r∈rows→I a S→N≤S.nx→VCalls Tryz.prog fid (.agg r::caps) S fun v T=>v = .bool (p a r)∧I (nx a r) T∧S.nx≤T.nx ∧ ∀ o,o<S.nx→(N≤o∨o=oc)→T.get o=S.get o)
  {a:α} {S:Store} (hI:I a S) (hS:N≤S.nx) (hg:S.get oc=some (4,rows.flatten)) :
  VCalls Tryz.prog 69 [.slice oc 0 rows.length, .func fid caps] S fun v T=>v=vint (idxG p nx a rows 0).1∧I (idxG p nx a rows 0).2 T∧N≤T.nx∧T.get oc=some (4,rows.flatten):=by
 have b0:=fun u l => @jm S u l oc (by omega)
 have hfl:=Jb hr4;refine QB (c:=jc Tryz.f69) Tryz.func69 Tryz.ntmps69 fun hwf=>?_
 repeat first|refine QG ?_|refine QY ?_ (r:=by conv=>lhs;simp[QV,b0,hg])
 refine QT ?_;refine jd [0,1,7,8] rfl (fun c σ S' => ∃ (b:α) (k:Nat),I b S'∧N≤S'.nx∧S'.get oc=some (4,rows.flatten)∧k≤rows.length∧c=rows.length-k∧idxG p nx b (rows.drop k) k=idxG p nx a rows 0∧σ=[(0, .slice oc 0 rows.length),(1, .func fid caps),(7,vnat rows.length),(8,vnat k)]) rows.length ?_ ?_
 ·exact ⟨a,0,by rw [qB hwf]; exact hI,by rw [qB hwf]; exact hS,by rw [qB hwf]; exact hg,by omega,rfl,rfl,by simp [Fr.only]⟩
 ·rintro c σ T ⟨b,k,hIb,hT,hgT,hk,rfl,hd,rfl⟩;refine vw_wf fun hwT=>vw_nil hwT ?_
  have bT:=fun u l => @jm T u l oc (by omega)
  by_cases hkt:k<rows.length
  ·have hst:idxG p nx b (rows.drop k) k=if p b rows[k] then ((k:Int),nx b rows[k]) else idxG p nx (nx b rows[k]) (rows.drop (k+1)) (k+1):=by rw [List.drop_eq_getElem_cons hkt,idxG]
   have hw:=jh hkt (by omega);have hrow:=flat_row hr4 hkt;have hle:k*4+4≤rows.length*4:=by omega
   repeat first|refine QG ?_|refine QY ?_ (r:=by conv=>lhs;simp[QV,hkt,bT,hgT])
   refine QT ?_;refine QP ?_ (r:=by conv=>lhs;simp[QV,hkt,bT,hgT,hfl,hle,hrow]);refine zj rfl hc rfl (hdel b _ _ (List.getElem_mem hkt) (by rw [qB hwT]; exact hIb) (by rw [qB hwT]; exact hT)) ?_;rintro X T2 ⟨rfl,hI2,hT2,hg2⟩;rw [qB hwT] at hT2 hg2;have hg3:=(hg2 oc (by omega) (.inr rfl)).trans hgT
   cases hp:p b rows[k] with
   | true =>
    rw [hp] at hst;simp only [if_true] at hst;rw [hst] at hd;refine QW ?_
    repeat first|refine QG ?_|refine QY ?_
    refine zN ⟨?_, ?_,by omega,hg3⟩
    ·rw [←hd]; rfl
    ·rw [←hd]; exact hI2
   | false =>
    rw [hp] at hst;simp only [Bool.false_eq_true,if_false] at hst;refine QW ?_
    repeat first|refine QG ?_|refine QY ?_ (r:=by conv=>lhs;simp[QV,hw])
    show jy _ _ _ _ _ _ _;exact again ⟨Nat.sub_lt_sub_left hkt (Nat.lt_succ_self k),nx b rows[k],k+1,hI2,by omega,hg3,hkt,rfl,by rw [←hd,hst],by simp [Fr.only,Fr.look]⟩
  ·have e:rows.drop k=[]:=by rw [List.drop_eq_nil_iff]; omega
   rw [e] at hd;simp only [idxG] at hd
   repeat first|refine QG ?_|refine QY ?_ (r:=by conv=>lhs;simp[QV,hkt])
   refine zN ⟨?_, ?_,by rw [qB hwT]; exact hT,by rw [qB hwT]; exact hgT⟩
   ·rw [←hd]; rfl
   ·rw [←hd,qB hwT]; exact hIb
theorem Delete_v (hc:jQ Tryz.prog fid=true) (hr4 : ∀ r∈rows,r.length=4) (hlim:rows.length<2^62) (hN:oc<N)
  (hloc : ∀ a S S',(∀ o,o<N→o≠oc→S'.get o=S.get o)→I a S→I a S')
  (hdel : ∀ a S r,r∈rows→I a S→N≤S.nx→VCalls Tryz.prog fid (.agg r::caps) S fun v T=>v = .bool (p a r)∧I (nx a r) T∧S.nx≤T.nx ∧ ∀ o,o<S.nx→(N≤o∨o=oc)→T.get o=S.get o)
  {a:α} {S:Store} (hI:I a S) (hS:N≤S.nx) (hg:S.get oc=some (4,rows.flatten)) :
  VCalls Tryz.prog 21 [.slice oc 0 rows.length, .func fid caps] S fun v T=>v = .slice oc 0 (delG p nx a rows).1.length∧I (delG p nx a rows).2 T∧N≤T.nx∧T.get oc=some (4,(delG p nx a rows).1.flatten):=by
 have ci:=IndexDel_v I p nx hc hr4 hlim hN hloc hdel hI hS hg;have hfl:=Jb hr4;refine QB (c:=jc Tryz.f21) Tryz.func21 Tryz.ntmps21 fun hwf=>?_
 rw [←qB hwf] at ci
 repeat first|refine QG ?_|refine QY ?_
 refine QT ?_;refine QP ?_;refine jO rfl ci ?_;rintro X T ⟨rfl,hI2,hT2,hg2⟩;rcases idxG_del p nx rows a 0 with ⟨h1,h2⟩ | ⟨i,hi,h1,h2⟩
 ·refine QM (by conv=>lhs;simp[QV,h1]) ?_;refine QN ?_
  repeat first|refine QG ?_|refine QY ?_
  refine zN ⟨?_, ?_,hT2, ?_⟩
  ·rw [h2]; rfl
  ·rw [h2]; exact hI2
  ·rw [h2]; exact hg2
 rw [Nat.zero_add] at h1;have hw:=jh hi (by omega);generalize hst:idxG p nx a rows 0=st at *
 obtain ⟨z,b0⟩:=st;simp only at h1 h2 hI2;subst h1;have hi1 : ¬ ((i:Int) = -1):=by omega
 refine QW ?_
 repeat first|refine QG ?_|refine QY ?_ (r:=by conv=>lhs;simp[QV,hi1,hw])
 refine QT ?_;refine jd [0,1,5,6] rfl (fun c σ S' => ∃ (b:α) (K:List (List V)) (j:Nat) (cells:List V),I b S'∧N≤S'.nx∧S'.get oc=some (4,cells)∧cells.length=rows.length*4∧cells.take (K.length*4)=K.flatten∧cells.drop (j*4)=(rows.drop j).flatten∧K.length<j∧j≤rows.length∧c=rows.length-j∧(K++(delG p nx b (rows.drop j)).1,(delG p nx b (rows.drop j)).2)=delG p nx a rows∧σ=[(0, .slice oc 0 rows.length),(1, .func fid caps),(5,vnat K.length),(6,vnat j)]) (rows.length-(i+1)) ?_ ?_
 ·refine ⟨b0,rows.take i,i+1,rows.flatten,hI2,hT2,hg2,hfl, ?_,flat_drop _ hr4,by simp; omega,by omega,rfl,h2.symm, ?_⟩
  ·rw [List.length_take,Nat.min_eq_left (by omega)]; exact jah i hr4
  ·simp [Fr.only,Fr.look,Nat.min_eq_left (Nat.le_of_lt hi)]
 ·rintro c σ T3 ⟨b,K,j,cells,hI3,hT3,hg3,hcl,hck,hcd,hKj,hj,rfl,hd,rfl⟩;refine vw_wf fun hwT=>vw_nil hwT ?_
  have bT:=fun u l => @jm T3 u l oc (by omega)
  by_cases hjt:j<rows.length
  ·have hw2:=jh hjt (by omega);have hKw:=jh (k:=K.length) (n:=rows.length) (by omega) (by omega);have hr:=List.drop_eq_getElem_cons hjt;obtain ⟨x0,x1,x2,x3,hx⟩ : ∃ x0 x1 x2 x3,rows[j]=[x0,x1,x2,x3]:=by
    have:=hr4 _ (List.getElem_mem hjt)
    match rows[j],this with
    | [x0,x1,x2,x3],_=>exact ⟨x0,x1,x2,x3,rfl⟩
   have hrow:(cells.drop (j*4)).take 4=[x0,x1,x2,x3]:=by rw [hcd,hr,List.flatten_cons,hx]; rfl
   have hle:j*4+4≤rows.length*4:=by omega
   repeat first|refine QG ?_|refine QY ?_ (r:=by conv=>lhs;simp[QV,hjt,bT,hg3,hcl,hle,hrow])
   have hI3':I b (St T3 [] [some (4,[x0,x1,x2,x3])]):=hloc b T3 _ (fun o ho _=>by rw [jm (by omega)]; rfl) hI3;have hmem:[x0,x1,x2,x3]∈rows:=hx▸List.getElem_mem hjt;have hst:delG p nx b (rows.drop j)=if p b [x0,x1,x2,x3] then delG p nx (nx b [x0,x1,x2,x3]) (rows.drop (j+1)) else ([x0,x1,x2,x3]::(delG p nx (nx b [x0,x1,x2,x3]) (rows.drop (j+1))).1,(delG p nx (nx b [x0,x1,x2,x3]) (rows.drop (j+1))).2):=by rw [hr,delG,hx]
   have hcd2:cells.drop ((j+1)*4)=(rows.drop (j+1)).flatten:=by
    rw [show (j+1)*4=j*4+4 by omega, ←List.drop_drop,hcd,hr,List.flatten_cons,hx]; rfl
   refine QT ?_;refine QP ?_;refine zj rfl hc rfl (hdel b _ _ hmem hI3' (by rw [jP,lid]; omega)) ?_;rintro X T4 ⟨rfl,hI4,hT4,hg4⟩;rw [jP] at hT4 hg4;have hg5:=(hg4 oc (by simp only [lid]; omega) (.inr rfl)).trans ((bT [] _).trans hg3);have hg6:=(hg4 (lid T3.nx 0) (by simp [lid]) (.inl (by simp only [lid]; omega))).trans (ju);simp only [List.getElem?_cons_zero,Option.join_some] at hg6;have hle4:T3.nx+1≤T4.nx:=by simpa [lid] using hT4
   have b1:=fun u l => @jm T4 u l oc (by omega)
   have b2:=fun u l => @jm T4 u l (lid T3.nx 0) (by simp only [lid]; omega)
   generalize lid T3.nx 0=q4 at *
   cases hp:p b [x0,x1,x2,x3] with
   | true =>
    rw [hp] at hst;simp only [if_true] at hst;refine QW ?_
    repeat first|refine QG ?_|refine QY ?_ (r:=by conv=>lhs;simp[QV,hw2])
    show jy _ _ _ _ _ _ _;exact again ⟨Nat.sub_lt_sub_left hjt (Nat.lt_succ_self j),nx b [x0,x1,x2,x3],K,j+1,cells,hI4,by omega,hg5,hcl,hck,hcd2,by omega,hjt,rfl,by rw [←hd,hst],by simp [Fr.only,Fr.look]⟩
   | false =>
    rw [hp] at hst;simp only [Bool.false_eq_true,if_false] at hst;refine QW ?_;refine vw_wf fun hw4=>vw_nil hw4 ?_
    have hle5:K.length*4+4≤rows.length*4:=by omega
    have hlt5:K.length<rows.length:=by omega
    repeat first|refine QG ?_|refine QY ?_ (r:=by conv=>lhs;simp[QV,b1,b2,hg5,hg6,hcl,hle5,hlt5,hw2,hKw])
    have hsl:K.length*4+[x0,x1,x2,x3].length≤cells.length:=by simp only [List.length_cons,List.length_nil]; omega
    have hne:(St T4 [] []).upd oc (4,List.take (K.length*4) cells++x0::x1::x2::x3::List.drop (K.length*4+4) cells)=T4.upd oc (4,jT cells (K.length*4) [x0,x1,x2,x3]):=by rw [qB hw4]; simp [jT]
    show jy _ _ _ _ _ _ _;refine again ⟨Nat.sub_lt_sub_left hjt (Nat.lt_succ_self j),nx b [x0,x1,x2,x3],K++[[x0,x1,x2,x3]],j+1,jT cells (K.length*4) [x0,x1,x2,x3],hloc _ T4 _ (fun o _ ho => ?_) hI4, ?_, ?_,by rw [splice_len _ _ _ hsl]; exact hcl, ?_, ?_,by simp; omega,hjt,rfl,by rw [←hd,hst]; simp,by simp [Fr.only,Fr.look]⟩
    ·rw [hne,jX ho]
    ·rw [hne]; show N≤T4.nx; omega
    ·rw [hne,zL]
    ·have:=splice_take cells (K.length*4) [x0,x1,x2,x3] hsl;rw [hck] at this;rw [List.length_append,List.length_singleton,Nat.succ_mul,List.flatten_append];simpa using this
    ·rw [splice_drop _ _ _ _ hsl (by simp only [List.length_cons,List.length_nil]; omega)]; exact hcd2
  ·have hje:j=rows.length:=by omega
   subst hje;have e:rows.drop rows.length=[]:=by simp
   rw [e] at hd;simp only [delG,List.append_nil] at hd;have hKl:K.length≤rows.length:=by omega
   have hcl2:K.length*4+(rows.length-K.length)*4≤rows.length*4:=by omega
   have hclr:Kf 4 [V.int .i64 0, .int .u64 0, .nils, .nils] (St T3 [] []) (.slice oc (K.length*4) (rows.length-K.length))=some ((St T3 [] []).upd oc (4,jT cells (K.length*4) (rep0 [V.int .i64 0, .int .u64 0, .nils, .nils] (rows.length-K.length)))):=by
    have hle:K.length*4+(rows.length-K.length)*4≤cells.length:=by rw [hcl]; exact hcl2
    simp only [Kf,bT,uGet,hg3,hle,if_true]
   generalize hcz:jT cells (K.length*4) (rep0 [V.int .i64 0, .int .u64 0, .nils, .nils] (rows.length-K.length))=cz at hclr;have hct:cz.take (K.length*4)=K.flatten:=by rw [←hcz,splice_take0 _ _ _ (by omega),hck]
   repeat first|refine QG ?_|refine QY ?_ (r:=by conv=>lhs;simp[QV,hjt,bT,hg3])
   refine QT ?_;refine QY ?_ (r:=by conv=>lhs;simp[QV,bT,hg3,hKl,hclr]);have hgu:((St T3 [] []).upd oc (4,cz)).get oc=some (4,cz):=zL
   apply jF
   ·exact Reach.trim 0 rfl hgu (K.length*4)
   simp only [hct];have hT5:((St T3 [] []).upd oc (4,cz)).upd oc (4,K.flatten)=T3.upd oc (4,K.flatten):=by
    rw [qB hwT];refine Store.ext' (funext fun o => ?_) rfl;simp only [qg];split<;>rfl
   rw [hT5];refine vw_wf fun hw5=>vw_nil hw5 ?_
   have b5:=fun u l => @jm (T3.upd oc (4,K.flatten)) u l oc (by show oc<T3.nx; omega)
   have hg5:(T3.upd oc (4,K.flatten)).get oc=some (4,K.flatten):=zL
   repeat first|refine QG ?_|refine QY ?_ (r:=by conv=>lhs;simp[QV,b5,hg5,hKl])
   rw [qB hw5];refine zN ⟨?_, ?_,hT3, ?_⟩
   ·rw [←hd]; rfl
   ·rw [←hd]; exact hloc _ T3 _ (fun o _ ho=>jX ho) hI3
   ·rw [←hd]; exact hg5
end
end Go.Vw
