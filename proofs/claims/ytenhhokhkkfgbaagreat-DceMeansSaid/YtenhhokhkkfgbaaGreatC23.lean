import Derived.Test.YtenhhokhkkfgbaaGreatC22
/- Part of the proof. -/
set_option linter.unusedVariables false
set_option linter.unusedSimpArgs false
set_option maxRecDepth 10000
set_option maxHeartbeats 4000000
namespace Ss
open Go.Vw in
/-- Are a function's blocks all reached, and is there no circle without a tick? -/
def shapeOk (f:Fn):Bool :=
 G.right (succs f.blocks)&&decide ((G.ordI (succs f.blocks)).length=f.blocks.length) && !rings f.blocks (G.nats (succs f.blocks))&&decide (typesOf f.types (f.blocks.getD 0 default).params=f.sig.inn) &&
  match (f.blocks.getD 0 default).code with
  | x::_=>decide (x.op=258)
  | []=>false
end Ss
namespace Go.Vw
open Go.Proofs Go.RowKit
attribute [-simp] List.map_set
theorem typesO_v (S:Store) (e:Ss.Env) (f:Ss.Fn) (dv nv:V) (ck:Nat) (l:List Int) (hc:S.get ck=some (11,ckC e f dv nv)) (hl:l.length<=1048576) (hv:Ss.InTs f.types.length l) :
  bU 104 [.ptr ck 0,vl vint l] S (fun r T=>r=vl vint (Ss.typesOf f.types l)/\T=S):=by
 obtain ⟨⟨fi,fo⟩,ts,bs⟩:=f;simp only at hv ⊢;generalize hg:(fun v:Int=>ts.getD v.toNat 0)=g;have hX:Ss.typesOf ts l=l.map g:=by rw [Ss.typesOf,hg]
 rw [hX];refine QB (c:=jc Tryz.f104) Tryz.func104 Tryz.ntmps104 fun hwf=>?_
 have hcn:=jl hwf hc;have oc:=fun u l => @jh S u l ck hcn
 have gp:=fun ks=>qv (n:=S.nx) ks hcn
 have gt:=fun ks=>jZ (n:=S.nx) ks hcn
 refine QY ?_;refine QY ?_;refine zx 5 1 rfl (by conv=>lhs; simp [Fr.set]) ?_
 refine bw ?_
 refine QT ?_;refine jd [0,5,8,9,10] rfl (fun c σ S' => ∃ (k:Nat) (out:List Int),k<=l.length/\c=l.length-k/\out=(l.take k).map g/\out.length=k/\σ=[(0, .ptr ck 0),(5, .slice (lid S.nx 0) 0 k),(8,vl vint l),(9,vnat l.length),(10,vnat k)]/\S'=St S [] [some (1,out.map vint)]) l.length ?_ ?_
 ·exact ⟨0,[],by omega,rfl,by simp,rfl,by simp [Fr.only],by simp⟩
 ·rintro c σ T ⟨k,out,hk,rfl,ho,hlen,rfl,rfl⟩
  by_cases hkt:k<l.length
  ·have hw:=jg hkt (by omega);obtain ⟨h0,h1⟩:=hv _ (ah hkt);obtain ⟨v,hx⟩ : ∃ v,l[k]=v:=⟨_,rfl⟩
   rw [hx] at h0 h1;obtain ⟨n,rfl⟩ : ∃ n:Nat,v=n:=⟨v.toNat,by omega⟩
   have hn:n<ts.length:=by omega
   have hgn:g (n:Int)=ts[n]:=by rw [<-hg]; simp [hn]
   have htk:l.take (k+1)=l.take k++[(n:Int)]:=by rw [List.take_add_one,ac hkt,hx]; rfl
   have hb:(k+1)*8<=140737488355328:=by omega
   have hb':k+1<=140737488355328:=by omega
   repeat first|refine QG ?_|refine QY ?_ (r:=by conv=>lhs;simp[QV,hkt,hx,hn,hlen,hb,hb',oc,hc])
   refine jT [2] (by conv=>lhs; simp [Fr.only]) hwf (by decide) (by simp [gp,gt]) (by conv=>lhs; simp [gp,gt]) (by conv=>lhs; simp [gp,gt]) (by conv=>lhs; simp [gp,gt]) ⟨?_,k+1,out++[ts[n]],hkt,rfl,by rw [htk,List.map_append,ho]; simp [hgn],by simp [hlen],by simp [hw],by simp⟩;omega
  ·have hke:k=l.length:=by omega
   subst hke;rw [List.take_length] at ho
   refine bx hkt ?_
   rw [<-ho];exact jf hwf ((frz1 (by simp) (by rfl) (jq vint (fun _=>rfl) _) (by simpa using hlen)).toB _) rfl
theorem vcall_useZ {P:Program} {Z:Store} {σ:Fr} {S:Store} {K:Fr->Store->Prop} {d:Option Nat} {f:FuncId} {args:List Arg} {xs:List V} {r:List CO} {X:V} (h:Zj P Z f xs X) (ha:args.map (ev σ)=xs) (H:jz P (some (ZZ.plain Z)) r K (σ.put d X) S):jz P (some (ZZ.plain Z)) (⟨d,none, .call f args⟩::r) K σ S:=by
 rw [Wj,ha];have hw : ¬ wrcL (ZZ.plain Z).es d=true:=by cases d<;>simp [wrcL,ZZ.plain]
 show zy P (some (ZZ.plain Z)) d f xs S _;simp only [zy];rw [if_neg hw];refine ⟨X, ?_,H⟩;have e:(ZZ.plain Z).early d=false:=by cases d<;>simp [ZZ.early,ZZ.plain]
 rw [e];exact h
theorem shape_v (S:Store) (e:Ss.Env) (f:Ss.Fn) (ck od:Nat) (hf:f.Fits) (hsm:f.small=true) (hc:S.get ck=some (11,ckC e f (.slice od 0 f.types.length) .nils)) (hod:od<S.nx)
  (hps : ∀ b∈f.blocks,Ss.InTs f.types.length b.params) :
  bU 64 [.ptr ck 0] S (fun r T => ∃ nv:V,nv.closed1=true/\r = .bool (Ss.shapeOk f)/\(Ss.shapeOk f=true->nv=vl vint (G.nearI (Ss.succs f.blocks)))/\T=S.upd ck (11,ckC e f (.slice od 0 f.types.length) nv)):=by
 have csu:=Succ_v f hf;rw [if_pos hsm] at csu;obtain ⟨hst,hsb,hsf,_⟩:=zt hsm;have hcode : ∀ b∈f.blocks,b.code.length<2^63:=fun b hb=>by have:=(hsf b hb).2.2.2; omega
 have hgf:Fits (Ss.succs f.blocks):=by
  refine ⟨by simp [Ss.succs]; omega,fun l hl => ?_⟩;obtain ⟨b,hb,rfl⟩:=bk.1 hl;have:=(hsf b hb).2.1;simp [Ss.rowOf]; omega
 have hgl:(Ss.succs f.blocks).length=f.blocks.length:=by simp [Ss.succs]
 have co:=OrderAll_v _ hgf;have cn:=NearestAll_v _ hgf;have hol:=ordI_len (Ss.succs f.blocks);have cr:G.right (Ss.succs f.blocks)=true->bS 101 [jI f,vl (vl vint) (Ss.succs f.blocks)] (.bool (Ss.rings f.blocks (G.nats (Ss.succs f.blocks)))):=by
  intro hr;have hok:=G.right_ok hr;rw [G.right_enc hr];have hnl:(G.nats (Ss.succs f.blocks)).length=f.blocks.length:=by rw [<-hgl]; simp [G.nats]
  exact rings_v f _ hnl (by have:=hok.max; omega) (fun r hr'=>⟨by have:=hok.row r hr'; omega,fun k hk=>hok.elt r hr' k hk⟩) hcode
 generalize hsu:Ss.succs f.blocks=g at *
 have hX:Ss.shapeOk f=(G.right g&&decide ((G.ordI g).length=f.blocks.length) && !Ss.rings f.blocks (G.nats g)&&decide (Ss.typesOf f.types (f.blocks.getD 0 default).params=f.sig.inn) &&
  match (f.blocks.getD 0 default).code with
  | x::_=>decide (x.op=258)
  | []=>false):=by rw [Ss.shapeOk,hsu]
 generalize Ss.shapeOk f=X at *
 generalize hrg:Ss.rings f.blocks (G.nats g)=rg at *
 have hil:f.sig.inn.length<2^63:=by have:=hf.1.1.1; omega
 obtain ⟨⟨fi,fo⟩,ts,bs⟩:=f;simp only at *
 have csu':bS 99 [.agg [vl vint fi,vl vint fo,vl vint ts,vl je bs]] (vl (vl vint) g):=csu;obtain ⟨sg,im,gl,mu,me⟩:=e;refine QB (c:=jc Tryz.f64) Tryz.func64 Tryz.ntmps64 fun hwf=>?_
 have hcn:=jl hwf hc;have oc:=fun u l => @jh S u l ck hcn
 have hupd:=fun u l c => @jP S u l c ck hcn
 have gp:=fun ks=>qv (n:=S.nx) ks hod
 have gt:=fun ks=>jZ (n:=S.nx) ks hod
 rw [Kb hc];have fin : ∀ (nv:V) (l:List (Option (Nat × List V))) (r:V),nv.closed1=true->r = .bool X->(X=true->nv=vl vint (G.nearI g)) ->
   Ja S.nx (fun r T => ∃ nv:V,nv.closed1=true/\r = .bool X/\(X=true->nv=vl vint (G.nearI g))/\T=S.upd ck (11,ckC ⟨sg,im,gl,mu,me⟩ ⟨⟨fi,fo⟩,ts,bs⟩ (.slice od 0 ts.length) nv)) r (St S [(ck,some (11,ckC ⟨sg,im,gl,mu,me⟩ ⟨⟨fi,fo⟩,ts,bs⟩ (.slice od 0 ts.length) nv))] l):=by
  rintro nv l r k1 rfl k2;have e1 : ∀ p,nv.ids p=true:=fun p=>by cases nv<;>first | rfl | (simp [V.closed1] at k1; done) | (simp [V.ids]; done)
  have e2 : ∀ q,nv.ren q=nv:=fun q=>by cases nv<;>first | rfl | (simp [V.closed1] at k1; done) | (simp [V.ren]; done)
  refine Jp (X := .bool X) (S':=S.upd ck (11,ckC ⟨sg,im,gl,mu,me⟩ ⟨⟨fi,fo⟩,ts,bs⟩ (.slice od 0 ts.length) nv)) hwf rfl rfl (by simp [JX,jaJ,e1,gp]) ?_ ⟨nv,k1,rfl,k2,rfl⟩;simp only [gcU,gcE,bl];rw [KF hwf hcn];simp [e2,gt]
 refine QY ?_;refine bK oc hc ?_;refine QL (csu') ?_;refine QW ?_;refine QP ?_;refine QL (co) ?_
 by_cases hr:G.right g=true
 case neg =>
  have he:G.err g=1:=by simp [G.err,hr]
  have hX0:X=false:=by rw [hX]; simp [hr]
  refine bB he ?_;refine QN ?_
  refine bx he ?_
  exact fin .nils _ _ rfl (by simp [hX0]) (by simp [hX0])
 have he:G.err g=0:=by simp [G.err,hr]
 have cr1:=cr hr;have cr':bS 101 [.agg [vl vint fi,vl vint fo,vl vint ts,vl je bs],vl (vl vint) g] (.bool rg):=cr1
 by_cases hl:(G.ordI g).length=g.length
 case neg =>
  have hl' : ¬ ((G.ordI g).length:Int)=(g.length:Int):=by omega
  have hX0:X=false:=by
   rw [hX,show decide ((G.ordI g).length=bs.length)=false by simp; omega]; simp
  refine bB he ?_;refine QN ?_
  refine bv he hl hl' ?_
  exact fin .nils _ _ rfl (by simp [hX0]) (by simp [hX0])
 have hl':((G.ordI g).length:Int)=(g.length:Int):=by omega
 refine bB he ?_;refine QN ?_
 refine bD he hl hl' oc ?_
 refine QP ?_ (r:=by conv=>lhs;simp[QV,he,hl,hl',oc]);refine QL (cr') ?_
 by_cases hrt:rg=true
 ·have hX0:X=false:=by rw [hX,hrt]; simp
  refine bB hrt ?_;refine bR ?_
  exact fin .nils _ _ rfl (by simp [hX0]) (by simp [hX0])
 have hrt':rg=false:=by simpa using hrt
 rw [hr,hrt',show decide ((G.ordI g).length=bs.length)=true by simp; omega] at hX;simp only [aE,Bool.not_false] at hX;refine bB hrt' ?_;refine bR ?_
 refine QP ?_;refine QL (cn) ?_;refine bF oc hupd ?_;refine QN ?_;have hbp:0<bs.length:=by
  have h1:=(G.right_ok hr).pos;simp only [G.nats_length] at h1;omega
 obtain ⟨⟨ps,code,⟨tk,ta,to,az⟩⟩,hb0⟩ : ∃ b,bs[0]? = some b:=⟨bs[0],ac hbp⟩
 have hbm:=aA hb0;have hbd:bs.getD 0 default=⟨ps,code,⟨tk,ta,to,az⟩⟩:=by rw [ag,hb0]; rfl
 have hpl:=(hsf _ hbm).1;have hpi:=hps _ hbm;rw [hbd] at hX;simp only at hX hpl hpi
 refine bt oc hb0 ?_
 have hcl:=(hsf _ hbm).2.2.2;simp only at hcl;have hZ:(St S [(ck,some (11,ckC ⟨sg,im,gl,mu,me⟩ ⟨⟨fi,fo⟩,ts,bs⟩ (.slice od 0 ts.length) (vl vint (G.nearI g))))] [some (6,[vl vint ps,vl jp code, .int .i64 tk, .int .i64 ta,vl jk to,vl vint az])]).get ck=some (11,ckC ⟨sg,im,gl,mu,me⟩ ⟨⟨fi,fo⟩,ts,bs⟩ (.slice od 0 ts.length) (vl vint (G.nearI g))):=by rw [oc]; simp [uGet]
 have ctz:Zj Tryz.prog (St S [(ck,some (11,ckC ⟨sg,im,gl,mu,me⟩ ⟨⟨fi,fo⟩,ts,bs⟩ (.slice od 0 ts.length) (vl vint (G.nearI g))))] [some (6,[vl vint ps,vl jp code, .int .i64 tk, .int .i64 ta,vl jk to,vl vint az])]) 104 [.ptr ck 0,vl vint ps] (vl vint (Ss.typesOf ts ps)):=fun T hT=>typesO_v T ⟨sg,im,gl,mu,me⟩ ⟨⟨fi,fo⟩,ts,bs⟩ _ _ ck ps (hT _ _ hZ) (by omega) hpi
 have ceq:=Equal_v (Ss.typesOf ts ps) fi (by simp [Ss.typesOf]; omega);refine QT ?_;refine QD (r:=by conv=>lhs;simp[QV,oc]) (k:=?_);refine vcall_useZ ctz (by rfl) ?_;refine bB oc ?_;refine QL (ceq) ?_
 by_cases ht:Ss.typesOf ts ps=fi
 case neg =>
  have hX0:X=false:=by rw [hX]; simp [ht]
  refine bB ht ?_;refine bR ?_
  exact fin _ _ _ rfl (by simp [hX0]) (by simp [hX0])
 rw [decide_eq_true ht,aE] at hX
 cases code with
 | nil =>
  have hX0:X=false:=by rw [hX]
  refine bB ht ?_;refine bR ?_
  exact fin _ _ _ rfl (by simp [hX0]) (by simp [hX0])
 | cons x r =>
  obtain ⟨xo,xn,xa,xu⟩:=x;have hpos:(0:Int)<(r.length:Int)+1:=by omega
  by_cases h8:xo=258
  ·have hX0:X=true:=by rw [hX]; simp [h8]
   refine bG ht hpos h8 ?_;refine bR ?_
   exact fin _ _ _ rfl (by simp [hX0]) (by simp)
  ·have hX0:X=false:=by rw [hX]; simp [h8]
   refine bG ht hpos h8 ?_;refine bR ?_
   exact fin _ _ _ rfl (by simp [hX0]) (by simp [hX0])
end Go.Vw
namespace Ss
def insOut (ts:List Int) (x:Ins):Int:=match x.outs with
 | []=>0
 | v::_=>ts.getD v.toNat 0
def insOk (e:Env) (f:Fn) (ds:List Def) (near:List Int) (block pos:Int) (x:Ins):Bool :=
 (form e x.op x.n (insOut f.types x)).ok&&decide (x.n<=(form e x.op x.n (insOut f.types x)).most)&&decide (typesOf f.types x.outs=(form e x.op x.n (insOut f.types x)).outs)&&asks f.types ds near block pos x.args (form e x.op x.n (insOut f.types x)).inn
def branches (t:Term):Bool:=decide (t.kind=2)||decide (t.kind=3)
def termHead (fo:List Int) (k:Int):Option (Nat × Nat × List Int) :=
 if k=1 then some (1,1,[]) else if k=2 then some (2,2,[]) else if k=3 then some (1,65,[]) else if k=4 then some (0,0,fo) else if k=5 then some (0,0,[]) else none
def edgeOk (f:Fn) (ds:List Def) (near:List Int) (i pos:Int) (x:Edge):Bool :=
 !decide (x.to=0)&&asks f.types ds near i pos x.args (typesOf f.types (f.blocks.getD x.to.toNat default).params)
def termTail (f:Fn) (ds:List Def) (near:List Int) (i pos:Int) (t:Term) (le mo:Nat) (rs:List Int):Bool :=
 (if branches t then asks f.types ds near i pos [t.arg] [127] else decide (t.arg=0))&&decide (le<=t.to.length)&&decide (t.to.length<=mo)&&asks f.types ds near i pos t.args rs&&t.to.all (edgeOk f ds near i pos)
def termOk (f:Fn) (ds:List Def) (near:List Int) (i:Int) (b:Block):Bool:=match termHead f.sig.out b.term.kind with
 | some (le,mo,rs)=>termTail f ds near i b.code.length b.term le mo rs
 | none=>false
end Ss
namespace Go.Vw
open Go.Proofs Go.RowKit
attribute [-simp] List.map_set
theorem ZQ {P:Program} {N b:Nat} {Q Q2:Exit->Fr->Store->Prop} {σ:Fr} {S:Store} {c c2:Code} (Mid:Fr->Store->Prop) (ks:List Nat) (h1:VWp P N b c (Kq (fun σ S=>Mid (σ.only ks) S) Q) σ S) (h2 : ∀ σ S,Mid σ S->VWp P N b c2 Q2 σ S):VWp P N b c (Kq (VWp P N b c2 Q2) Q) σ S :=
 vw_mono h1 fun e σ S q=>by
  cases e with
  | normal=>exact vw_only ks (h2 _ _ q)
  | exit id=>exact q
  | goto l=>exact q
  | ret=>exact q
  | panic ch=>exact q
  | outgrown=>exact q
theorem vw_joinR {P:Program} {N b:Nat} {Q Q2:Exit->Fr->Store->Prop} {σ:Fr} {S:Store} {c c2:Code} (Mid:Fr->Store->Prop) (ks:List Nat) (h1:VWp P N b c (Kq (fun σ S => ∃ σc Sc,Reach N b (σ.only ks) S σc Sc/\Mid σc Sc) Q) σ S) (h2 : ∀ σ S,Mid σ S->VWp P N b c2 Q2 σ S):VWp P N b c (Kq (VWp P N b c2 Q2) Q) σ S :=
 vw_mono h1 fun e σ S q=>by
  cases e with
  | normal=>obtain ⟨σc,Sc,hr,hm⟩:=q; exact vw_only ks (jE hr (h2 _ _ hm))
  | exit id=>exact q
  | goto l=>exact q
  | ret=>exact q
  | panic ch=>exact q
  | outgrown=>exact q
theorem mid_gc {N:Nat} {Mid:Fr->Store->Prop} {σ σ1 σ':Fr} {B:Store} {u u':Upds} {l l':List (Option (Nat × List V))} (ks gs:List Nat) (hσ1:σ.only ks=σ1) (hw:B.Wf) (h1:gs.Nodup)
  (h2:(JX B.nx gs u&&YF B.nx gs l gs&&idsF (gcP B.nx gs) σ1)=true) (hu:gcU B.nx gs u=u') (hl:gcL B.nx gs l gs=l') (hσ:renF (gcTo B.nx gs) σ1=σ') (h:Mid σ' (St B u' l')) :
  ∃ σc Sc,Reach N B.nx (σ.only ks) (St B u l) σc Sc/\Mid σc Sc:=⟨σ',_,by rw [hσ1]; exact Reach.gc gs hw h1 h2 hu hl hσ,h⟩
theorem ins_v (e:Ss.Env) (f:Ss.Fn) (ds:List Ss.Def) (near:List Int) (block pos:Int) (x:Ss.Ins) (hsl:e.sigs.length<=140737488355328) (hgl:e.globals.length<=140737488355328) (hml:e.muts.length=e.globals.length)
  (hds:ds.length=f.types.length) (htl:f.types.length<2^63) (hnl:near.length<2^63) (hx:x.Fits) (hol:x.outs.length<=1048576) (hov:Ss.InTs f.types.length x.outs) :
  bS 65 [ckV e f ds near,vint block,vint pos,jp x] (.bool (Ss.insOk e f ds near block pos x)):=by
 intro S;have cf:=form_v e x.op x.n (Ss.insOut f.types x) hsl hgl hml hx.1 hx.2.1.1;have ct:=types_v e f ds near x.outs hol hov;have hal:=hx.2.2.1.1;have ca : ∀ l:List Int,bS 106 [ckV e f ds near,vint block,vint pos,vl vint x.args,vl vint l] (.bool (Ss.asks f.types ds near block pos x.args l)):=fun l=>asks_v e f ds near block pos x.args l hds htl hnl (by omega)
 unfold Ss.insOk;generalize hr:Ss.form e x.op x.n (Ss.insOut f.types x)=r at *
 have hql:(Ss.typesOf f.types x.outs).length<2^63:=by simp [Ss.typesOf]; omega
 generalize htt:Ss.typesOf f.types x.outs=tt at *
 obtain ⟨ri,ro,rm,rk⟩:=r;have ceq:=Equal_v tt ro hql;obtain ⟨xo,xn,xa,xu⟩:=x;obtain ⟨⟨fi,fo⟩,ts,bs⟩:=f;obtain ⟨sg,im,gl,mu,me⟩:=e;simp only at *
 have ca':=ca ri;generalize Ss.asks ts ds near block pos xa ri=ax at ca';generalize hio:Ss.insOut ts ⟨xo,xn,xa,xu⟩=io at cf;have cf':bS 105 [.agg [vl jm sg, .int .i64 im,vl vint gl,vl V.bool mu, .bool me], .int .i64 xo, .int .u64 xn, .int .i64 io] (.tuple [vl vint ri,vl vint ro, .int .u64 rm, .bool rk]):=cf;refine QB (c:=jc Tryz.f65) Tryz.func65 Tryz.ntmps65 fun hwf=>?_
 refine QY ?_;refine QY ?_;refine JQ rfl ?_;refine ZQ (fun σ S'=>σ=[(0,ckV ⟨sg,im,gl,mu,me⟩ ⟨⟨fi,fo⟩,ts,bs⟩ ds near),(1,vint block),(2,vint pos),(7, .ptr (lid S.nx 0) 0),(8, .bool false),(9,vint io)]/\S'=St S [] [some (4,[vint xo,vu xn,vl vint xa,vl vint xu])]) [0,1,2,7,8,9] ?_ ?_
 ·cases xu with
  | nil =>
   have h0:io=0:=by rw [<-hio]; rfl
   subst h0
   refine bw ?_
   exact ⟨by simp [Fr.only],by simp⟩
  | cons v r =>
   obtain ⟨h0,h1⟩:=hov v (by simp);obtain ⟨n,rfl⟩ : ∃ n:Nat,v=n:=⟨v.toNat,by omega⟩
   have hn:n<ts.length:=by omega
   have h2:io=ts[n]:=by rw [<-hio]; simp [Ss.insOut,hn]
   subst h2;have hpos:(0:Int)<((r.length:Int)+1):=by omega
   refine bt hn hpos ?_
   exact ⟨by simp [Fr.only],by simp⟩
 rintro σ S' ⟨rfl,rfl⟩;refine QT ?_;refine QT ?_;refine QD (r:=by conv=>lhs;simp[QV]) (k:=?_);refine QL (cf') ?_;refine QW ?_
 by_cases h1:rk=true
 case neg =>
  have h1':rk=false:=by simpa using h1
  refine bx h1' ?_
  exact ja hwf (by simp [h1']) rfl
 by_cases h2:xn<=rm
 case neg =>
  refine bt h1 h2 ?_
  exact ja hwf (by simp [h2]) rfl
 refine bt h1 h2 ?_
 refine bK h1 h2 ?_;refine QL (ct) ?_;refine QZ ?_;refine QL (ceq) ?_
 by_cases h3:tt=ro
 case neg =>
  refine bB h3 ?_;refine bR ?_
  exact ja hwf (by simp [h3]) rfl
 refine bB h3 ?_;refine QL (ca') ?_;refine bQ ?_
 exact ja hwf (by simp [h1,h2,h3]) rfl
theorem jbV (t:Ss.Term):bS 71 [encTerm t] (.bool (Ss.branches t)):=by
 intro S;obtain ⟨k,a,to,az⟩:=t;simp only [Ss.branches];refine QB (c:=jc Tryz.f71) Tryz.func71 Tryz.ntmps71 fun hwf=>?_
 by_cases h:k=2
 ·refine bx h ?_
  exact ja hwf (by simp [h]) rfl
 ·refine bx h ?_
  exact ja hwf (by simp [h]) rfl
theorem term_v (e:Ss.Env) (f:Ss.Fn) (ds:List Ss.Def) (near:List Int) (i:Int) (b:Ss.Block) (hds:ds.length=f.types.length) (htl:f.types.length<2^63) (hnl:near.length<2^63) (hbl:f.blocks.length<2^63) (hol:f.sig.out.length<2^63)
  (hb:b.Fits) (hto : ∀ x∈b.term.to,0<=x.to/\x.to<f.blocks.length) (hps : ∀ b∈f.blocks,b.params.length<=1048576/\Ss.InTs f.types.length b.params) :
  bS 66 [ckV e f ds near,vint i,je b] (.bool (Ss.termOk f ds near i b)):=by
 intro S;obtain ⟨_,⟨hcl,_⟩,_,_,⟨htol,htf⟩,⟨haz,_⟩⟩:=hb;have ca : ∀ l m:List Int,l.length<2^63->bS 106 [ckV e f ds near,vint i,vnat b.code.length,vl vint l,vl vint m] (.bool (Ss.asks f.types ds near i b.code.length l m)):=fun l m hl=>asks_v e f ds near i b.code.length l m hds htl hnl hl
 have ct : ∀ b∈f.blocks,bS 104 [ckV e f ds near,vl vint b.params] (vl vint (Ss.typesOf f.types b.params)):=fun b hb=>types_v e f ds near b.params (hps b hb).1 (hps b hb).2
 have cb:=jbV b.term;obtain ⟨ps,code,⟨tk,ta,to,az⟩⟩:=b;simp only at hcl htol htf haz hto ca;have hTT : ∀ le mo rs,Ss.termTail f ds near i code.length ⟨tk,ta,to,az⟩ le mo rs=((if Ss.branches ⟨tk,ta,to,az⟩ then Ss.asks f.types ds near i code.length [ta] [127] else decide (ta=0))&&decide (le<=to.length)&&decide (to.length<=mo)&&Ss.asks f.types ds near i code.length az rs&&to.all (Ss.edgeOk f ds near i code.length)):=fun _ _ _=>rfl
 have hX:Ss.termOk f ds near i ⟨ps,code,⟨tk,ta,to,az⟩⟩=match Ss.termHead f.sig.out tk with
  | some (le,mo,rs)=>Ss.termTail f ds near i code.length ⟨tk,ta,to,az⟩ le mo rs
  | none=>false:=rfl
 rw [hX];generalize hbr:Ss.branches ⟨tk,ta,to,az⟩=br at *
 have cb':bS 71 [.agg [.int .i64 tk, .int .i64 ta,vl jk to,vl vint az]] (.bool br):=cb;obtain ⟨⟨fi,fo⟩,ts,bs⟩:=f;simp only at *
 refine QB (c:=jc Tryz.f66) Tryz.func66 Tryz.ntmps66 fun hwf=>?_
 refine QY ?_;refine QT ?_;refine QJ (St S [] [some (6,[vl vint ps,vl jp code, .int .i64 tk, .int .i64 ta,vl jk to,vl vint az])]) (St S [] [some (6,[vl vint ps,vl jp code, .int .i64 tk, .int .i64 ta,vl jk to,vl vint az])]) [] ?_ (r:=by conv=>lhs; simp [QV]);refine QI ?_;refine QZ ?_;refine QI ?_;refine QW ?_;refine QY ?_;refine QY ?_;refine jt 11 rfl ((Ghost.nils_list _)) (by conv=>lhs; simp [Fr.set]) ?_;refine JQ rfl ?_;refine ZQ (fun σ S' => ∃ (le mo:Nat) (rs:List Int),Ss.termHead fo tk=some (le,mo,rs)/\le<=1000/\mo<=1000/\σ=[(0,ckV e ⟨⟨fi,fo⟩,ts,bs⟩ ds near),(1,vint i),(5, .ptr (lid S.nx 0) 0),(7, .ptr (lid S.nx 1) 0),(8,vnat code.length),(9,vnat le),(10,vnat mo),(11, .list (rs.map vint))]/\S'=St S [] [some (6,[vl vint ps,vl jp code, .int .i64 tk, .int .i64 ta,vl jk to,vl vint az]),some (4,[.int .i64 tk, .int .i64 ta,vl jk to,vl vint az])]) [0,1,5,7,8,9,10,11] ?_ ?_
 ·by_cases k1:tk=1
  ·subst k1
   refine bw ?_
   exact ⟨1,1,[],rfl,by omega,by omega,by simp [Fr.only],rfl⟩
  by_cases k2:tk=2
  ·subst k2
   refine bw ?_
   exact ⟨2,2,[],rfl,by omega,by omega,by simp [Fr.only],rfl⟩
  by_cases k3:tk=3
  ·subst k3
   refine bw ?_
   exact ⟨1,65,[],rfl,by omega,by omega,by simp [Fr.only],rfl⟩
  by_cases k4:tk=4
  ·subst k4
   refine bw ?_
   exact ⟨0,0,fo,rfl,by omega,by omega,by simp [Fr.only,vl],rfl⟩
  by_cases k5:tk=5
  ·subst k5
   refine bw ?_
   exact ⟨0,0,[],rfl,by omega,by omega,by simp [Fr.only],rfl⟩
  have hn:Ss.termHead fo tk=none:=by simp [Ss.termHead,k1,k2,k3,k4,k5]
  rw [hn]
  refine bJ k1 k2 k3 k4 k5 ?_
  exact bN
 rintro σ S' ⟨le,mo,rs,hh,hle,hmo,rfl,rfl⟩;rw [hh];simp only;rw [hTT];generalize hA:(if br then Ss.asks ts ds near i code.length [ta] [127] else decide (ta=0))=A;refine JQ rfl ?_;refine vw_joinR (fun σ S'=>A=true/\σ=[(0,ckV e ⟨⟨fi,fo⟩,ts,bs⟩ ds near),(1,vint i),(7, .ptr (lid S.nx 1) 0),(8,vnat code.length),(9,vnat le),(10,vnat mo),(11, .list (rs.map vint))]/\S'=St S [] [some (6,[vl vint ps,vl jp code, .int .i64 tk, .int .i64 ta,vl jk to,vl vint az]),some (4,[.int .i64 tk, .int .i64 ta,vl jk to,vl vint az])]) [0,1,7,8,9,10,11] ?_ ?_
 ·refine QP ?_;refine QL (cb') ?_
  by_cases h1:br=true
  ·have hA':A=Ss.asks ts ds near i code.length [ta] [127]:=by rw [<-hA,if_pos h1]
   have c1:=ca [ta] [127] (by simp);rw [<-hA'] at c1;refine bB h1 ?_;refine bR ?_
   refine QP ?_;refine qU (xs':=[ckV e ⟨⟨fi,fo⟩,ts,bs⟩ ds near,vint i,vnat code.length,vl vint [ta],vl vint [127]]) rfl (GhostArgs.trans (GhostArgs.one [_,_,_] [_] (frz1 (k:=2) (len:=1) (by simp) (by rfl) (by rfl) (by rfl))) (GhostArgs.one [_,_,_,_] [] (frz1 (k:=3) (len:=1) (by simp) (by rfl) (by rfl) (by rfl)))) c1 ?_;simp only [aq,au]
   by_cases h2:A=true
   ·refine bB h2 ?_;refine bR ?_
    refine mid_gc [0,1,7,8,9,10,11] [0,1] (by conv=>lhs; simp [Fr.only]) hwf (by decide) (by simp) (by conv=>lhs; simp) (by conv=>lhs; simp) (by conv=>lhs; simp) (⟨h2,by simp,rfl⟩)
   ·have h2':A=false:=by simpa using h2
    refine bB h2' ?_;refine bR ?_
    exact ja hwf (by simp [h2']) rfl
  ·have h1':br=false:=by simpa using h1
   by_cases h2:ta=0
   ·have h2':A=true:=by rw [<-hA,if_neg h1]; simp [h2]
    refine bB h1' ?_;refine QN ?_
    refine bx h2 ?_
    refine mid_gc [0,1,7,8,9,10,11] [0,1] (by conv=>lhs; simp [Fr.only]) hwf (by decide) (by simp) (by conv=>lhs; simp) (by conv=>lhs; simp) (by conv=>lhs; simp) (⟨h2',by simp,by simp [h2]⟩)
   ·have h2':A=false:=by rw [<-hA,if_neg h1]; simp [h2]
    refine bB h1' ?_;refine QN ?_
    refine bx h2 ?_
    exact ja hwf (by simp [h2']) rfl
 rintro σ S' ⟨hAt,rfl,rfl⟩;rw [hAt,aE];have c2:=ca az rs (by omega);generalize Ss.asks ts ds near i code.length az rs=B at *
 by_cases h1:(to.length:Int)<(le:Int)
 ·refine bx h1 ?_
  exact ja hwf (by simp; omega) rfl
 by_cases h2:(mo:Int)<(to.length:Int)
 ·refine bt h1 h2 ?_
  exact ja hwf (by simp; omega) rfl
 have hlm:(decide (le<=to.length)&&decide (to.length<=mo))=true:=by simp; omega
 rw [hlm,aE]
 refine bt h1 h2 ?_
 refine bK h1 h2 ?_;refine QL (c2) ?_
 by_cases h3:B=true
 case neg =>
  have h3':B=false:=by simpa using h3
  refine bB h3' ?_;refine bR ?_
  exact ja hwf (by simp [h3']) rfl
 rw [h3,aE];refine bB h3 ?_;refine bR ?_
 refine QT ?_;refine jd [0,1,8,74,75,76] rfl (fun c σ S' => ∃ (k:Nat),k<=to.length/\c=to.length-k/\(to.drop k).all (Ss.edgeOk ⟨⟨fi,fo⟩,ts,bs⟩ ds near i code.length)=to.all (Ss.edgeOk ⟨⟨fi,fo⟩,ts,bs⟩ ds near i code.length)/\σ=[(0,ckV e ⟨⟨fi,fo⟩,ts,bs⟩ ds near),(1,vint i),(8,vnat code.length),(74,vl jk to),(75,vnat to.length),(76,vnat k)]/\S'=St S [] [some (6,[vl vint ps,vl jp code, .int .i64 tk, .int .i64 ta,vl jk to,vl vint az]),some (4,[.int .i64 tk, .int .i64 ta,vl jk to,vl vint az])]) to.length ?_ ?_
 ·exact ⟨0,by omega,rfl,rfl,by simp [Fr.only],rfl⟩
 ·rintro c σ T ⟨k,hk,rfl,hd,rfl,rfl⟩
  by_cases hkt:k<to.length
  ·have hw:=jg hkt (by omega);have hst:=Ss.drop_all (Ss.edgeOk ⟨⟨fi,fo⟩,ts,bs⟩ ds near i code.length) hkt;obtain ⟨t0,t1⟩:=hto _ (ah hkt);have htk:=htf _ (ah hkt);obtain ⟨⟨xt,xa⟩,hx⟩ : ∃ x,to[k]=x:=⟨_,rfl⟩
   rw [hx] at hst t0 t1 htk;simp only at t0 t1;obtain ⟨_,⟨hxl,_⟩⟩:=htk;simp only at hxl
   by_cases h0:xt=0
   ·have he:Ss.edgeOk ⟨⟨fi,fo⟩,ts,bs⟩ ds near i code.length ⟨xt,xa⟩=false:=by simp [Ss.edgeOk,h0]
    rw [he] at hst
    refine bv hkt hx h0 ?_
    exact ja hwf (by rw [<-hd,hst]; rfl) rfl
   obtain ⟨n,rfl⟩ : ∃ n:Nat,xt=n:=⟨xt.toNat,by omega⟩
   have hn:n<bs.length:=by omega
   have ctn:=ct _ (ah hn);obtain ⟨⟨qs,qc,⟨q1,q2,q3,q4⟩⟩,hq⟩ : ∃ b,bs[n]=b:=⟨_,rfl⟩
   rw [hq] at ctn;have ce:=ca xa (Ss.typesOf ts qs) (by omega);have he:Ss.edgeOk ⟨⟨fi,fo⟩,ts,bs⟩ ds near i code.length ⟨n,xa⟩=Ss.asks ts ds near i code.length xa (Ss.typesOf ts qs):=by
    simp only [Ss.edgeOk,h0,decide_false,Bool.not_false,aE];simp [hn,hq]
   rw [he] at hst;simp only at ctn;generalize Ss.asks ts ds near i code.length xa (Ss.typesOf ts qs)=C at *
   generalize Ss.typesOf ts qs=tq at *
   have h0' : ¬ n=0:=by omega
   refine bz hkt hx h0 h0' hn hq ?_
   refine QT ?_;refine QD (r:=by conv=>lhs;simp[QV,hkt,hx,h0,h0',hn,hq]) (k:=?_);refine QL (ctn) ?_;refine QM (by conv=>lhs;simp[QV,hkt,hx,h0,h0',hn,hq]) ?_;refine QL (ce) ?_
   by_cases h9:C=true
   ·refine bB h9 ?_;refine bR ?_
    refine QA [0,1] (h:=⟨?_,k+1,hkt,rfl,by rw [<-hd,hst,h9,aE],by simp [hw],rfl⟩);omega
   ·have h9':C=false:=by simpa using h9
    refine bB h9' ?_;refine bR ?_
    exact ja hwf (by rw [<-hd,hst,h9']; rfl) rfl
  ·rw [Ss.drop_all_end _ hkt] at hd;rw [<-hd]
   refine bx hkt ?_
   exact bN
end Go.Vw
namespace Ss
def checkCode (e:Env) (f:Fn) (ds:List Def) (near:List Int) (i:Int):Nat->List Ins->Bool
 | _,[]=>true
 | k,x::r=>insOk e f ds near i k x&&checkCode e f ds near i (k+1) r
def checkBlocks (e:Env) (f:Fn) (ds:List Def) (near:List Int):Nat->List Block->Bool
 | _,[]=>true
 | i,b::bs=>checkCode e f ds near i 0 b.code&&termOk f ds near i b&&checkBlocks e f ds near (i+1) bs
def checkHead (e:Env) (f:Fn):Bool:=e.right&&f.small&&decide (f.blocks.length<=256)&&kinds 2048 f.types&&f.sig.right&&f.blocks.all fun b=>decide (b.params.length<=256)
def check (e:Env) (f:Fn):Bool:=checkHead e f&&match defsOf f with
 | none=>false
 | some ds=>shapeOk f&&checkBlocks e f ds (Go.Vw.G.nearI (succs f.blocks)) 0 f.blocks
theorem put_in {block pos:Int} : ∀ {l:List Int} {ds d:List Def},put block pos ds l=some d->InTs ds.length l
 | [],ds,d,h=>by intro v hv; cases hv
 | v::l,ds,d,h=>by
  simp only [put] at h;split at h
  ·cases h
  ·rename_i hn;have h1:=put_in h;intro x hx;rcases aL.1 hx with rfl | hx
   ·have k1 : ¬ x<0:=fun h=>hn (.inl h)
    have k2 : ¬ (ds.length:Int)<=x:=fun h=>hn (.inr (.inl h))
    exact ⟨by omega,by omega⟩
   ·have:=h1 x hx;simpa using this
theorem Yt {i:Int} : ∀ {l:List Ins} {k:Nat} {ds d:List Def},putCode i k ds l=some d->d.length=ds.length /\ ∀ x∈l,InTs ds.length x.outs
 | [],k,ds,d,h=>by simp only [putCode,ay] at h; subst h; exact ⟨rfl,by simp⟩
 | x::l,k,ds,d,h=>by
  simp only [putCode] at h;obtain ⟨d1,h1,h2⟩:=aN.1 h;obtain ⟨k1,k2⟩:=Yt h2;have e1:=Ys h1;refine ⟨k1.trans e1,fun y hy => ?_⟩;rcases aL.1 hy with rfl | hy
  ·exact put_in h1
  ·rw [<-e1]; exact k2 y hy
theorem YZ : ∀ {l:List Block} {i:Nat} {ds d:List Def},putBlocks i ds l=some d->d.length=ds.length /\ ∀ b∈l,InTs ds.length b.params /\ ∀ x∈b.code,InTs ds.length x.outs
 | [],i,ds,d,h=>by simp only [putBlocks,ay] at h; subst h; exact ⟨rfl,by simp⟩
 | b::l,i,ds,d,h=>by
  simp only [putBlocks] at h;obtain ⟨d2,h1,h2⟩:=aN.1 h;obtain ⟨d1,h3,h4⟩:=aN.1 h1;have e1:=Ys h3;obtain ⟨e2,k2⟩:=Yt h4;obtain ⟨e3,k3⟩:=YZ h2;refine ⟨by omega,fun y hy => ?_⟩;rcases aL.1 hy with rfl | hy
  ·exact ⟨put_in h3,fun x hx=>by rw [<-e1]; exact k2 x hx⟩
  ·have:=k3 y hy;rw [show ds.length=d2.length by omega]; exact this
theorem defs_in {f:Fn} {ds:List Def} (h:defsOf f=some ds):ds.length=f.types.length /\ ∀ b∈f.blocks,InTs f.types.length b.params /\ ∀ x∈b.code,InTs f.types.length x.outs:=by
 have:=YZ h;simpa using this
theorem right_to {f:Fn} (h:Go.Vw.G.right (succs f.blocks)=true) : ∀ b∈f.blocks, ∀ x∈b.term.to,0<=x.to/\x.to<f.blocks.length:=by
 intro b hb x hx;simp only [Go.Vw.G.right,af,aD] at h;have h1:=h.2 (rowOf b) (bk.2 ⟨b,hb,rfl⟩);have h2:=(Go.Vw.G.rowOk_iff.1 h1).2 x.to (bk.2 ⟨x,hx,rfl⟩);simpa [succs] using h2
end Ss
namespace Go.Vw
open Go.Proofs Go.RowKit
theorem lid_lid (b j k:Nat):lid (lid b j) k=lid b (j+k):=by simp [lid]; omega
theorem St_St {B:Store} {u:Upds} {l:List (Option (Nat × List V))} {o:Nat} {c d:Nat × List V} (ho:o<(St B u l).nx):St (St B u l) [(o,some c)] [some d]=((St B u l).upd o c).add d:=by
 refine Store.ext' (funext fun o' => ?_) rfl;rw [qI,Yc,qo]
 by_cases h:o'<(St B u l).nx
 ·rw [if_pos h];have hn : ¬ o'=((St B u l).upd o c).nx:=by show ¬ o'=(St B u l).nx; omega
  rw [if_neg hn];simp only [uGet]
 ·rw [if_neg h]
  by_cases e:o'=(St B u l).nx
  ·subst e;have:(St B u l).nx=((St B u l).upd o c).nx:=rfl;rw [if_pos this]; simp
  ·have hn : ¬ o'=((St B u l).upd o c).nx:=e;rw [if_neg hn,if_neg (by omega),qI];have hnx:(St B u l).nx=B.nx+l.length:=by rw [jL]; rfl
   rw [if_neg (by omega),aJ (l:=l) (by omega),aJ (by rw [List.length_singleton]; omega)]
theorem Reach.frzCellS {α:Type} {enc:α->V} {s:Nat} (hs : ∀ a,(enc a).cells.length=s) (hcl : ∀ a,(enc a).closed=true) {N b0:Nat} {σ:Fr} {B:Store} {u:Upds} {l:List (Option (Nat × List V))} {k j i s':Nat} {cs:List V} (ls:List α) (hkj:k≠j) (hk:k<l.length) (hj:j<l.length) (hck:(l[k]?).join=some (s',cs)) (hi:cs[i]? = some (.slice (lid B.nx j) 0 ls.length))
  (hcj:(l[j]?).join=some (s,ju enc ls)):Reach N b0 σ (St B u l) σ (St B u ((l.set j none).set k (some (s',cs.set i (vl enc ls))))):=by
 have hg:Ghost (.slice (lid B.nx j) 0 ls.length) (St B u l) (vl enc ls) (St B u (l.set j none)):=frzSt hs hcl ls hj hcj;have:=Reach.cell (N:=N) (b0:=b0) (σ:=σ) (o:=lid B.nx k) (i:=i) (s:=s') (cs:=cs) hg (by simp [V.one]) (by rw [jv]; exact hck) hi (by rw [jv,aR (Ne.symm hkj)]; exact hck);rw [JO (by simpa using hk)] at this;exact this
theorem jcX {e:Ss.Env} {f:Ss.Fn} {ds:List Ss.Def} {near:List Int} {i:Int} {k:Nat} {l:List Ss.Ins} (h:k<l.length):Ss.checkCode e f ds near i k (l.drop k)=(Ss.insOk e f ds near i k l[k]&&Ss.checkCode e f ds near i (k+1) (l.drop (k+1))):=by
 rw [am h,Ss.checkCode]
theorem jaV {e:Ss.Env} {f:Ss.Fn} {ds:List Ss.Def} {near:List Int} {i:Nat} {l:List Ss.Block} (h:i<l.length):Ss.checkBlocks e f ds near i (l.drop i)=(Ss.checkCode e f ds near i 0 l[i].code&&Ss.termOk f ds near i l[i]&&Ss.checkBlocks e f ds near (i+1) (l.drop (i+1))):=by
 rw [am h,Ss.checkBlocks]
end Go.Vw
