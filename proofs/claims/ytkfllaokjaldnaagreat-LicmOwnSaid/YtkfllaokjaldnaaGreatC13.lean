import Derived.Test.YtkfllaokjaldnaaGreatC12
import Derived.Test.YtkfllaokjaldnaaGreatC8
import Derived.Test.YtkfllaokjaldnaaGreatC10
import Derived.Test.YtkfllaokjaldnaaGreatC7
import Derived.Test.YtkfllaokjaldnaaGreatC9
/- Part of the proof. -/
set_option linter.unusedVariables false
set_option linter.unusedSimpArgs false
set_option maxRecDepth 10000
set_option maxHeartbeats 4000000
namespace Go.Vw
open Go.Proofs Go.RowKit
attribute [-simp] List.map_set
theorem WE (f:Nat→Nat) (n:Nat) (k:IntKind) (x:Int):V.renL f (List.replicate n (V.int k x))=List.replicate n (V.int k x):=by
 rw [qH]; simp [V.ren]
theorem WP (p:Nat→Bool) (n:Nat) (k:IntKind) (x:Int):V.idsL p (List.replicate n (V.int k x))=true:=by
 rw [qS]; simp [V.ids]
theorem rings_v (f:Ss.Fn) (g:List (List Nat)) (hgl:g.length=f.blocks.length) (hgb:g.length≤4096) (hrow : ∀ r∈g,r.length<2^62 ∧ ∀ k∈r,k<g.length) (hcode : ∀ b∈f.blocks,b.code.length<2^63) :
  VPure Tryz.prog 105 [ql f,vl (vl vnat) g] (.bool (Ss.rings f.blocks g)):=by
 intro S;have hg0 : ∀ n, ∀ k∈g.getD n [],k<g.length:=by
  intro n k hk
  by_cases h:n<g.length
  ·rw [List.getD_eq_getElem?_getD,List.getElem?_eq_getElem h] at hk;exact (hrow _ (List.getElem_mem h)).2 k hk
  ·rw [List.getD_eq_getElem?_getD,List.getElem?_eq_none (by omega)] at hk;simp at hk
 obtain ⟨q,hq⟩:=Ss.ringM_ends (tick:=f.blocks.map Ss.tickB) (fuel:=g.length+1) hg0 (by omega) (List.range g.length) (List.replicate g.length 0) (by simp) (by simp);have hX:Ss.rings f.blocks g=q:=by simp [Ss.rings,hq]
 rw [hX];have cw:=rings1_v f g hgl (by omega) hrow hcode;obtain ⟨⟨fi,fo⟩,ts,bs⟩:=f;simp only at hq cw;have hb8:g.length*8≤140737488355328:=by omega
 have hb0:g.length≤140737488355328:=by omega
 refine QB (c:=jd Tryz.f105) Tryz.func105 Tryz.ntmps105 fun hwf=>?_
 refine QT ?_;refine QY ?_;refine QH 2 0 ?_;refine jx 3 rfl ((boxSt (k:=1) (by simp) (by rfl) (by rfl))) (by conv=>lhs; simp [Fr.set]) ?_;simp only [List.set_cons_succ,List.set_cons_zero]
 repeat first|refine QG ?_|refine QY ?_ (r:=by conv=>lhs;simp[QV,hb8,hb0])
 refine QO [5,6,13,14] ?_;refine Wx [2,3,4] hwf (by decide) (by simp [WP,WE]) (by conv=>lhs; simp [WP,WE]) (by conv=>lhs; simp [WP,WE]) (by conv=>lhs; simp [WP,WE]) ?_;refine QT ?_;refine jc [5,6,13,14] rfl (fun c σ S' => ∃ (k:Nat) (st:List Nat),k≤g.length∧c=g.length-k∧st.length=g.length∧Ss.ringM (bs.map Ss.tickB) g (g.length+1) ((List.range g.length).drop k) st=some q∧σ=[(5, .ptr (lid S.nx 1) 0),(6, .ptr (lid S.nx 2) 0),(13,vnat g.length),(14,vnat k)]∧S'=St S [] [some (1,st.map vnat),some (1,[.slice (lid S.nx 0) 0 g.length]),some (1,[.func 130 [.ref (.agg [vl vint fi,vl vint fo,vl vint ts,vl jb bs]), .ptr (lid S.nx 1) 0, .ref (vl (vl vnat) g), .ptr (lid S.nx 2) 0]])]) g.length ?_ ?_
 ·exact ⟨0,List.replicate g.length 0,by omega,rfl,by simp,hq,by simp [Fr.only],by simp [vnat]⟩
 ·rintro c σ T ⟨k,st,hk,rfl,hsl,hm,rfl,rfl⟩
  by_cases hkt:k<g.length
  ·have hw:=ji hkt (by omega);rw [List.drop_eq_getElem_cons (by simpa using hkt),List.getElem_range,Ss.ringM] at hm;have hks:k<st.length:=by omega
   obtain ⟨x,hx⟩ : ∃ x,st[k]=x:=⟨_,rfl⟩
   have hgd:st.getD k 0=x:=by simp [hks,hx]
   rw [hgd] at hm
   by_cases x0:x=0
   ·rw [if_pos x0] at hm;have x0':(x:Int)=0:=by omega
    obtain ⟨⟨b,s⟩,hwk⟩ : ∃ p,Ss.ringW (bs.map Ss.tickB) g (g.length+1) k st=some p:=by
     cases hz:Ss.ringW (bs.map Ss.tickB) g (g.length+1) k st with
     | none=>rw [hz] at hm; cases hm
     | some p=>exact ⟨p,rfl⟩
    rw [hwk] at hm;have hs2:=Ss.ringW_len _ _ _ _ _ hwk
    repeat first|refine QG ?_|refine QY ?_ (r:=by conv=>lhs;simp[QV,hkt,hks,hx,x0,x0'])
    refine QT ?_;refine QP ?_ (r:=by conv=>lhs;simp[QV,hkt,hks,hx,x0,x0']);refine zQ rfl rfl rfl (cw (g.length+1) k st b s _ (lid S.nx 1) (lid S.nx 0) (lid S.nx 2) hkt hsl (by simp) (by simp) (by simp) (by simp [lid]) (by simp [lid]) hwk) ?_;rintro X S2 ⟨rfl,rfl⟩;rw [JP (by simp)];simp only [List.set_cons_succ,List.set_cons_zero]
    by_cases hb:b=true
    ·rw [hb] at hm;simp only [Option.some.injEq] at hm;refine QM (by conv=>lhs;simp[QV,hb]) ?_;refine QN ?_
     repeat first|refine QG ?_|refine QY ?_
     exact ja hwf (by simp [←hm]) rfl
    ·have hb':b=false:=by simpa using hb
     rw [hb'] at hm;simp only at hm;refine QM (by conv=>lhs;simp[QV,hb']) ?_;refine QN ?_
     repeat first|refine QG ?_|refine QY ?_
     show jp _ _ _ _ _ _ _;exact again ⟨Nat.sub_lt_sub_left hkt (Nat.lt_succ_self k),k+1,s,hkt,rfl,by omega,hm,by simp [Fr.only,hw],rfl⟩
   ·rw [if_neg x0] at hm;have x0' : ¬ (x:Int)=0:=by omega
    repeat first|refine QG ?_|refine QY ?_ (r:=by conv=>lhs;simp[QV,hkt,hks,hx,x0,x0'])
    show jp _ _ _ _ _ _ _;exact again ⟨Nat.sub_lt_sub_left hkt (Nat.lt_succ_self k),k+1,st,hkt,rfl,hsl,hm,by simp [Fr.only,hw],rfl⟩
  ·have e1:(List.range g.length).drop k=[]:=by rw [List.drop_eq_nil_iff]; simp; omega
   rw [e1,Ss.ringM] at hm
   cases hm
   repeat first|refine QG ?_|refine QY ?_ (r:=by conv=>lhs;simp[QV,hkt])
   exact ja hwf rfl rfl
end Go.Vw
namespace Ss
open Go.Vw in
/-- Are a function's blocks all reached, and is there no circle without a tick? -/
def shapeOk (f:Fn):Bool :=
 G.right (succs f.blocks)&&decide ((G.ordI (succs f.blocks)).length=f.blocks.length) && !rings f.blocks (G.nats (succs f.blocks))&&decide (typesOf f.types (f.blocks.getD 0 default).params=f.sig.inn) &&
  match (f.blocks.getD 0 default).code with
  | x::_=>decide (x.op=258)
  | []=>false
end Ss
namespace Go.Vw
open Go.Proofs Go.RowKit
attribute [-simp] List.map_set
theorem typesO_v (S:Store) (e:Ss.Env) (f:Ss.Fn) (dv nv:V) (ck:Nat) (l:List Int) (hc:S.get ck=some (11,ckC e f dv nv)) (hl:l.length≤1048576) (hv:Ss.InTs f.types.length l) :
  VCalls Tryz.prog 107 [.ptr ck 0,vl vint l] S (fun r T=>r=vl vint (Ss.typesOf f.types l)∧T=S):=by
 obtain ⟨⟨fi,fo⟩,ts,bs⟩:=f;simp only at hv ⊢;generalize hg:(fun v:Int=>ts.getD v.toNat 0)=g;have hX:Ss.typesOf ts l=l.map g:=by rw [Ss.typesOf,hg]
 rw [hX];refine QB (c:=jd Tryz.f107) Tryz.func107 Tryz.ntmps107 fun hwf=>?_
 have hcn:=jy hwf hc;have oc:=fun u l => @jk S u l ck hcn
 have gp:=fun ks=>zz (n:=S.nx) ks hcn
 have gt:=fun ks=>qX (n:=S.nx) ks hcn
 refine QT ?_;refine QY ?_;refine QT ?_;refine QY ?_;refine qW 5 1 rfl (by conv=>lhs; simp [Fr.set]) ?_
 repeat first|refine QG ?_|refine QY ?_
 refine QT ?_;refine jc [0,5,8,9,10] rfl (fun c σ S' => ∃ (k:Nat) (out:List Int),k≤l.length∧c=l.length-k∧out=(l.take k).map g∧out.length=k∧σ=[(0, .ptr ck 0),(5, .slice (lid S.nx 0) 0 k),(8,vl vint l),(9,vnat l.length),(10,vnat k)]∧S'=St S [] [some (1,out.map vint)]) l.length ?_ ?_
 ·exact ⟨0,[],by omega,rfl,by simp,rfl,by simp [Fr.only],by simp⟩
 ·rintro c σ T ⟨k,out,hk,rfl,ho,hlen,rfl,rfl⟩
  by_cases hkt:k<l.length
  ·have hw:=ji hkt (by omega);obtain ⟨h0,h1⟩:=hv _ (List.getElem_mem hkt);obtain ⟨v,hx⟩ : ∃ v,l[k]=v:=⟨_,rfl⟩
   rw [hx] at h0 h1;obtain ⟨n,rfl⟩ : ∃ n:Nat,v=n:=⟨v.toNat,by omega⟩
   have hn:n<ts.length:=by omega
   have hgn:g (n:Int)=ts[n]:=by rw [←hg]; simp [hn]
   have htk:l.take (k+1)=l.take k++[(n:Int)]:=by rw [List.take_add_one,List.getElem?_eq_getElem hkt,hx]; rfl
   have hb:(k+1)*8≤140737488355328:=by omega
   have hb':k+1≤140737488355328:=by omega
   repeat first|refine QG ?_|refine QY ?_ (r:=by conv=>lhs;simp[QV,hkt,hx,hn,hlen,hb,hb',oc,hc])
   refine qR [2] (by conv=>lhs; simp [Fr.only]) hwf (by decide) (by simp [gp,gt]) (by conv=>lhs; simp [gp,gt]) (by conv=>lhs; simp [gp,gt]) (by conv=>lhs; simp [gp,gt]) ⟨?_,k+1,out++[ts[n]],hkt,rfl,by rw [htk,List.map_append,ho]; simp [hgn],by simp [hlen],by simp [hw],by simp⟩;omega
  ·have hke:k=l.length:=by omega
   subst hke;rw [List.take_length] at ho
   repeat first|refine QG ?_|refine QY ?_ (r:=by conv=>lhs;simp[QV,hkt])
   rw [←ho];exact jh hwf ((frz1 (by simp) (by rfl) (jF vint (fun _=>rfl) _) (by simpa using hlen)).toB _) rfl
theorem vcall_useZ {P:Program} {Z:Store} {σ:Fr} {S:Store} {K:Fr→Store→Prop} {d:Option Nat} {f:FuncId} {args:List Arg} {xs:List V} {r:List CO} {X:V} (h:jbO P Z f xs X) (ha:args.map (ev σ)=xs) (H:jP P (some (ZZ.plain Z)) r K (σ.put d X) S):jP P (some (ZZ.plain Z)) (⟨d,none, .call f args⟩::r) K σ S:=by
 rw [Yk,ha];have hw : ¬ wrcL (ZZ.plain Z).es d=true:=by cases d<;>simp [wrcL,ZZ.plain]
 show Js P (some (ZZ.plain Z)) d f xs S _;simp only [Js];rw [if_neg hw];refine ⟨X, ?_,H⟩;have e:(ZZ.plain Z).early d=false:=by cases d<;>simp [ZZ.early,ZZ.plain]
 rw [e];exact h
theorem shape_v (S:Store) (e:Ss.Env) (f:Ss.Fn) (ck od:Nat) (hf:f.Fits) (hsm:f.small=true) (hc:S.get ck=some (11,ckC e f (.slice od 0 f.types.length) .nils)) (hod:od<S.nx)
  (hps : ∀ b∈f.blocks,Ss.InTs f.types.length b.params) :
  VCalls Tryz.prog 70 [.ptr ck 0] S (fun r T => ∃ nv:V,nv.closed1=true∧r = .bool (Ss.shapeOk f)∧(Ss.shapeOk f=true→nv=vl vint (G.nearI (Ss.succs f.blocks)))∧T=S.upd ck (11,ckC e f (.slice od 0 f.types.length) nv)):=by
 have csu:=Succ_v f hf;rw [if_pos hsm] at csu;obtain ⟨hst,hsb,hsf,_⟩:=jX hsm;have hcode : ∀ b∈f.blocks,b.code.length<2^63:=fun b hb=>by have:=(hsf b hb).2.2.2; omega
 have hgf:Fits (Ss.succs f.blocks):=by
  refine ⟨by simp [Ss.succs]; omega,fun l hl => ?_⟩;obtain ⟨b,hb,rfl⟩:=List.mem_map.1 hl;have:=(hsf b hb).2.1;simp [Ss.rowOf]; omega
 have hgl:(Ss.succs f.blocks).length=f.blocks.length:=by simp [Ss.succs]
 have co:=OrderAll_v _ hgf;have cn:=KH _ hgf;have hol:=ordI_len (Ss.succs f.blocks);have cr:G.right (Ss.succs f.blocks)=true→VPure Tryz.prog 105 [ql f,vl (vl vint) (Ss.succs f.blocks)] (.bool (Ss.rings f.blocks (G.nats (Ss.succs f.blocks)))):=by
  intro hr;have hok:=G.right_ok hr;rw [G.right_enc hr];have hnl:(G.nats (Ss.succs f.blocks)).length=f.blocks.length:=by rw [←hgl]; simp [G.nats]
  exact rings_v f _ hnl (by have:=hok.max; omega) (fun r hr'=>⟨by have:=hok.row r hr'; omega,fun k hk=>hok.elt r hr' k hk⟩) hcode
 generalize hsu:Ss.succs f.blocks=g at *
 have hX:Ss.shapeOk f=(G.right g&&decide ((G.ordI g).length=f.blocks.length) && !Ss.rings f.blocks (G.nats g)&&decide (Ss.typesOf f.types (f.blocks.getD 0 default).params=f.sig.inn) &&
  match (f.blocks.getD 0 default).code with
  | x::_=>decide (x.op=258)
  | []=>false):=by rw [Ss.shapeOk,hsu]
 generalize Ss.shapeOk f=X at *
 generalize hrg:Ss.rings f.blocks (G.nats g)=rg at *
 have hil:f.sig.inn.length<2^63:=by have:=hf.1.1.1; omega
 obtain ⟨⟨fi,fo⟩,ts,bs⟩:=f;simp only at *
 have csu':VPure Tryz.prog 26 [.agg [vl vint fi,vl vint fo,vl vint ts,vl jb bs]] (vl (vl vint) g):=csu;obtain ⟨sg,im,gl,mu,me⟩:=e;refine QB (c:=jd Tryz.f70) Tryz.func70 Tryz.ntmps70 fun hwf=>?_
 have hcn:=jy hwf hc;have oc:=fun u l => @jk S u l ck hcn
 have hupd:=fun u l c => @zp S u l c ck hcn
 have gp:=fun ks=>zz (n:=S.nx) ks hod
 have gt:=fun ks=>qX (n:=S.nx) ks hod
 rw [Ye hc];have fin : ∀ (nv:V) (l:List (Option (Nat × List V))) (r:V),nv.closed1=true→r = .bool X→(X=true→nv=vl vint (G.nearI g)) →
   Yg S.nx (fun r T => ∃ nv:V,nv.closed1=true∧r = .bool X∧(X=true→nv=vl vint (G.nearI g))∧T=S.upd ck (11,ckC ⟨sg,im,gl,mu,me⟩ ⟨⟨fi,fo⟩,ts,bs⟩ (.slice od 0 ts.length) nv)) r (St S [(ck,some (11,ckC ⟨sg,im,gl,mu,me⟩ ⟨⟨fi,fo⟩,ts,bs⟩ (.slice od 0 ts.length) nv))] l):=by
  rintro nv l r k1 rfl k2;have e1 : ∀ p,nv.ids p=true:=fun p=>by cases nv<;>first | rfl | (simp [V.closed1] at k1; done) | (simp [V.ids]; done)
  have e2 : ∀ q,nv.ren q=nv:=fun q=>by cases nv<;>first | rfl | (simp [V.closed1] at k1; done) | (simp [V.ren]; done)
  refine Kb (X := .bool X) (S':=S.upd ck (11,ckC ⟨sg,im,gl,mu,me⟩ ⟨⟨fi,fo⟩,ts,bs⟩ (.slice od 0 ts.length) nv)) hwf rfl rfl (by simp [Kn,jbc,e1,gp]) ?_ ⟨nv,k1,rfl,k2,rfl⟩;simp only [gcU,gcE,Option.map_some];rw [YO hwf hcn];simp [e2,gt]
 refine QT ?_;refine QY ?_;refine QT ?_;refine QP ?_ (r:=by conv=>lhs;simp[QV,oc,hc]);refine QL (csu') ?_;refine QW ?_;refine QT ?_;refine QP ?_;refine QL (co) ?_
 by_cases hr:G.right g=true
 case neg =>
  have he:G.err g=1:=by simp [G.err,hr]
  have hX0:X=false:=by rw [hX]; simp [hr]
  refine QM (by conv=>lhs;simp[QV,he]) ?_;refine QN ?_
  repeat first|refine QG ?_|refine QY ?_ (r:=by conv=>lhs;simp[QV,he])
  exact fin .nils _ _ rfl (by simp [hX0]) (by simp [hX0])
 have he:G.err g=0:=by simp [G.err,hr]
 have cr1:=cr hr;have cr':VPure Tryz.prog 105 [.agg [vl vint fi,vl vint fo,vl vint ts,vl jb bs],vl (vl vint) g] (.bool rg):=cr1
 by_cases hl:(G.ordI g).length=g.length
 case neg =>
  have hl' : ¬ ((G.ordI g).length:Int)=(g.length:Int):=by omega
  have hX0:X=false:=by
   rw [hX,show decide ((G.ordI g).length=bs.length)=false by simp; omega]; simp
  refine QM (by conv=>lhs;simp[QV,he]) ?_;refine QN ?_
  repeat first|refine QG ?_|refine QY ?_ (r:=by conv=>lhs;simp[QV,he,hl,hl'])
  exact fin .nils _ _ rfl (by simp [hX0]) (by simp [hX0])
 have hl':((G.ordI g).length:Int)=(g.length:Int):=by omega
 refine QM (by conv=>lhs;simp[QV,he]) ?_;refine QN ?_
 repeat first|refine QG ?_|refine QY ?_ (r:=by conv=>lhs;simp[QV,he,hl,hl',oc])
 refine QT ?_;refine QP ?_ (r:=by conv=>lhs;simp[QV,he,hl,hl',oc]);refine QL (cr') ?_
 by_cases hrt:rg=true
 ·have hX0:X=false:=by rw [hX,hrt]; simp
  refine QM (by conv=>lhs;simp[QV,hrt]) ?_;refine QN ?_
  repeat first|refine QG ?_|refine QY ?_
  exact fin .nils _ _ rfl (by simp [hX0]) (by simp [hX0])
 have hrt':rg=false:=by simpa using hrt
 rw [hr,hrt',show decide ((G.ordI g).length=bs.length)=true by simp; omega] at hX;simp only [Bool.true_and,Bool.not_false] at hX;refine QM (by conv=>lhs;simp[QV,hrt']) ?_;refine QN ?_
 repeat first|refine QG ?_|refine QY ?_
 refine QT ?_;refine QP ?_;refine QL (cn) ?_;refine QM (by conv=>lhs;simp[QV,oc,hupd]) ?_;refine QN ?_;have hbp:0<bs.length:=by
  have h1:=(G.right_ok hr).pos;simp only [G.nats_length] at h1;omega
 obtain ⟨⟨ps,code,⟨tk,ta,to,az⟩⟩,hb0⟩ : ∃ b,bs[0]? = some b:=⟨bs[0],List.getElem?_eq_getElem hbp⟩
 have hbm:=List.mem_of_getElem? hb0;have hbd:bs.getD 0 default=⟨ps,code,⟨tk,ta,to,az⟩⟩:=by rw [List.getD_eq_getElem?_getD,hb0]; rfl
 have hpl:=(hsf _ hbm).1;have hpi:=hps _ hbm;rw [hbd] at hX;simp only at hX hpl hpi
 repeat first|refine QG ?_|refine QY ?_ (r:=by conv=>lhs;simp[QV,oc,hb0])
 have hcl:=(hsf _ hbm).2.2.2;simp only at hcl;have hZ:(St S [(ck,some (11,ckC ⟨sg,im,gl,mu,me⟩ ⟨⟨fi,fo⟩,ts,bs⟩ (.slice od 0 ts.length) (vl vint (G.nearI g))))] [some (6,[vl vint ps,vl jg code, .int .i64 tk, .int .i64 ta,vl jf to,vl vint az])]).get ck=some (11,ckC ⟨sg,im,gl,mu,me⟩ ⟨⟨fi,fo⟩,ts,bs⟩ (.slice od 0 ts.length) (vl vint (G.nearI g))):=by rw [oc]; simp [uGet]
 have ctz:jbO Tryz.prog (St S [(ck,some (11,ckC ⟨sg,im,gl,mu,me⟩ ⟨⟨fi,fo⟩,ts,bs⟩ (.slice od 0 ts.length) (vl vint (G.nearI g))))] [some (6,[vl vint ps,vl jg code, .int .i64 tk, .int .i64 ta,vl jf to,vl vint az])]) 107 [.ptr ck 0,vl vint ps] (vl vint (Ss.typesOf ts ps)):=fun T hT=>typesO_v T ⟨sg,im,gl,mu,me⟩ ⟨⟨fi,fo⟩,ts,bs⟩ _ _ ck ps (hT _ _ hZ) (by omega) hpi
 have ceq:=Equal_v (Ss.typesOf ts ps) fi (by simp [Ss.typesOf]; omega);refine QT ?_;refine QD (r:=by conv=>lhs;simp[QV,oc]) (k:=?_);refine vcall_useZ ctz (by rfl) ?_;refine QM (by conv=>lhs;simp[QV,oc]) ?_;refine QL (ceq) ?_
 by_cases ht:Ss.typesOf ts ps=fi
 case neg =>
  have hX0:X=false:=by rw [hX]; simp [ht]
  refine QM (by conv=>lhs;simp[QV,ht]) ?_;refine QN ?_
  repeat first|refine QG ?_|refine QY ?_
  exact fin _ _ _ rfl (by simp [hX0]) (by simp [hX0])
 rw [decide_eq_true ht,Bool.true_and] at hX
 cases code with
 | nil =>
  have hX0:X=false:=by rw [hX]
  refine QM (by conv=>lhs;simp[QV,ht]) ?_;refine QN ?_
  repeat first|refine QG ?_|refine QY ?_
  exact fin _ _ _ rfl (by simp [hX0]) (by simp [hX0])
 | cons x r =>
  obtain ⟨xo,xn,xa,xu⟩:=x;have hpos:(0:Int)<(r.length:Int)+1:=by omega
  by_cases h8:xo=258
  ·have hX0:X=true:=by rw [hX]; simp [h8]
   refine QM (by conv=>lhs;simp[QV,ht,hpos,h8]) ?_;refine QN ?_
   repeat first|refine QG ?_|refine QY ?_
   exact fin _ _ _ rfl (by simp [hX0]) (by simp)
  ·have hX0:X=false:=by rw [hX]; simp [h8]
   refine QM (by conv=>lhs;simp[QV,ht,hpos,h8]) ?_;refine QN ?_
   repeat first|refine QG ?_|refine QY ?_
   exact fin _ _ _ rfl (by simp [hX0]) (by simp [hX0])
theorem jbL (t:Ss.Term):VPure Tryz.prog 76 [jcv t] (.bool (Ss.branches t)):=by
 intro S;obtain ⟨k,a,to,az⟩:=t;simp only [Ss.branches];refine QB (c:=jd Tryz.f76) Tryz.func76 Tryz.ntmps76 fun hwf=>?_
 by_cases h:k=2
 ·repeat first|refine QG ?_|refine QY ?_ (r:=by conv=>lhs;simp[QV,h])
  exact ja hwf (by simp [h]) rfl
 ·repeat first|refine QG ?_|refine QY ?_ (r:=by conv=>lhs;simp[QV,h])
  exact ja hwf (by simp [h]) rfl
theorem term_v (e:Ss.Env) (f:Ss.Fn) (ds:List Ss.Def) (near:List Int) (i:Int) (b:Ss.Block) (hds:ds.length=f.types.length) (htl:f.types.length<2^63) (hnl:near.length<2^63) (hbl:f.blocks.length<2^63) (hol:f.sig.out.length<2^63)
  (hb:b.Fits) (hto : ∀ x∈b.term.to,0≤x.to∧x.to<f.blocks.length) (hps : ∀ b∈f.blocks,b.params.length≤1048576∧Ss.InTs f.types.length b.params) :
  VPure Tryz.prog 72 [ckV e f ds near,vint i,jb b] (.bool (Ss.termOk f ds near i b)):=by
 intro S;obtain ⟨_,⟨hcl,_⟩,_,_,⟨htol,htf⟩,⟨haz,_⟩⟩:=hb;have ca : ∀ l m:List Int,l.length<2^63→VPure Tryz.prog 109 [ckV e f ds near,vint i,vnat b.code.length,vl vint l,vl vint m] (.bool (Ss.asks f.types ds near i b.code.length l m)):=fun l m hl=>asks_v e f ds near i b.code.length l m hds htl hnl hl
 have ct : ∀ b∈f.blocks,VPure Tryz.prog 107 [ckV e f ds near,vl vint b.params] (vl vint (Ss.typesOf f.types b.params)):=fun b hb=>types_v e f ds near b.params (hps b hb).1 (hps b hb).2
 have cb:=jbL b.term;obtain ⟨ps,code,⟨tk,ta,to,az⟩⟩:=b;simp only at hcl htol htf haz hto ca;have hTT : ∀ le mo rs,Ss.termTail f ds near i code.length ⟨tk,ta,to,az⟩ le mo rs=((if Ss.branches ⟨tk,ta,to,az⟩ then Ss.asks f.types ds near i code.length [ta] [127] else decide (ta=0))&&decide (le≤to.length)&&decide (to.length≤mo)&&Ss.asks f.types ds near i code.length az rs&&to.all (Ss.edgeOk f ds near i code.length)):=fun _ _ _=>rfl
 have hX:Ss.termOk f ds near i ⟨ps,code,⟨tk,ta,to,az⟩⟩=match Ss.termHead f.sig.out tk with
  | some (le,mo,rs)=>Ss.termTail f ds near i code.length ⟨tk,ta,to,az⟩ le mo rs
  | none=>false:=rfl
 rw [hX];generalize hbr:Ss.branches ⟨tk,ta,to,az⟩=br at *
 have cb':VPure Tryz.prog 76 [.agg [.int .i64 tk, .int .i64 ta,vl jf to,vl vint az]] (.bool br):=cb;obtain ⟨⟨fi,fo⟩,ts,bs⟩:=f;simp only at *
 refine QB (c:=jd Tryz.f72) Tryz.func72 Tryz.ntmps72 fun hwf=>?_
 refine QT ?_;refine QY ?_;refine QT ?_;refine QJ (St S [] [some (6,[vl vint ps,vl jg code, .int .i64 tk, .int .i64 ta,vl jf to,vl vint az])]) (St S [] [some (6,[vl vint ps,vl jg code, .int .i64 tk, .int .i64 ta,vl jf to,vl vint az])]) [] ?_ (r:=by conv=>lhs; simp [QV]);refine QI ?_;refine QZ ?_;refine QI ?_;refine QW ?_;refine QT ?_;refine QY ?_;refine QT ?_;refine QY ?_;refine jx 11 rfl ((Ghost.nils_list _)) (by conv=>lhs; simp [Fr.set]) ?_;refine Jg rfl ?_;refine Wc (fun σ S' => ∃ (le mo:Nat) (rs:List Int),Ss.termHead fo tk=some (le,mo,rs)∧le≤1000∧mo≤1000∧σ=[(0,ckV e ⟨⟨fi,fo⟩,ts,bs⟩ ds near),(1,vint i),(5, .ptr (lid S.nx 0) 0),(7, .ptr (lid S.nx 1) 0),(8,vnat code.length),(9,vnat le),(10,vnat mo),(11, .list (rs.map vint))]∧S'=St S [] [some (6,[vl vint ps,vl jg code, .int .i64 tk, .int .i64 ta,vl jf to,vl vint az]),some (4,[.int .i64 tk, .int .i64 ta,vl jf to,vl vint az])]) [0,1,5,7,8,9,10,11] ?_ ?_
 ·by_cases k1:tk=1
  ·subst k1
   repeat first|refine QG ?_|refine QY ?_
   exact ⟨1,1,[],rfl,by omega,by omega,by simp [Fr.only],rfl⟩
  by_cases k2:tk=2
  ·subst k2
   repeat first|refine QG ?_|refine QY ?_
   exact ⟨2,2,[],rfl,by omega,by omega,by simp [Fr.only],rfl⟩
  by_cases k3:tk=3
  ·subst k3
   repeat first|refine QG ?_|refine QY ?_
   exact ⟨1,65,[],rfl,by omega,by omega,by simp [Fr.only],rfl⟩
  by_cases k4:tk=4
  ·subst k4
   repeat first|refine QG ?_|refine QY ?_
   exact ⟨0,0,fo,rfl,by omega,by omega,by simp [Fr.only,vl],rfl⟩
  by_cases k5:tk=5
  ·subst k5
   repeat first|refine QG ?_|refine QY ?_
   exact ⟨0,0,[],rfl,by omega,by omega,by simp [Fr.only],rfl⟩
  have hn:Ss.termHead fo tk=none:=by simp [Ss.termHead,k1,k2,k3,k4,k5]
  rw [hn]
  repeat first|refine QG ?_|refine QY ?_ (r:=by conv=>lhs;simp[QV,k1,k2,k3,k4,k5])
  exact ja hwf rfl rfl
 rintro σ S' ⟨le,mo,rs,hh,hle,hmo,rfl,rfl⟩;rw [hh];simp only;rw [hTT];generalize hA:(if br then Ss.asks ts ds near i code.length [ta] [127] else decide (ta=0))=A;refine Jg rfl ?_;refine vw_joinR (fun σ S'=>A=true∧σ=[(0,ckV e ⟨⟨fi,fo⟩,ts,bs⟩ ds near),(1,vint i),(7, .ptr (lid S.nx 1) 0),(8,vnat code.length),(9,vnat le),(10,vnat mo),(11, .list (rs.map vint))]∧S'=St S [] [some (6,[vl vint ps,vl jg code, .int .i64 tk, .int .i64 ta,vl jf to,vl vint az]),some (4,[.int .i64 tk, .int .i64 ta,vl jf to,vl vint az])]) [0,1,7,8,9,10,11] ?_ ?_
 ·refine QT ?_;refine QP ?_;refine QL (cb') ?_
  by_cases h1:br=true
  ·have hA':A=Ss.asks ts ds near i code.length [ta] [127]:=by rw [←hA,if_pos h1]
   have c1:=ca [ta] [127] (by simp);rw [←hA'] at c1;refine QM (by conv=>lhs;simp[QV,h1]) ?_;refine QN ?_
   repeat first|refine QG ?_|refine QY ?_
   refine QT ?_;refine QP ?_;refine zr (xs':=[ckV e ⟨⟨fi,fo⟩,ts,bs⟩ ds near,vint i,vnat code.length,vl vint [ta],vl vint [127]]) rfl (GhostArgs.trans (GhostArgs.one [_,_,_] [_] (frz1 (k:=2) (len:=1) (by simp) (by rfl) (by rfl) (by rfl))) (GhostArgs.one [_,_,_,_] [] (frz1 (k:=3) (len:=1) (by simp) (by rfl) (by rfl) (by rfl)))) c1 ?_;simp only [List.set_cons_succ,List.set_cons_zero]
   by_cases h2:A=true
   ·refine QM (by conv=>lhs;simp[QV,h2]) ?_;refine QN ?_
    repeat first|refine QG ?_|refine QY ?_
    refine mid_gc [0,1,7,8,9,10,11] [0,1] (by conv=>lhs; simp [Fr.only]) hwf (by decide) (by simp) (by conv=>lhs; simp) (by conv=>lhs; simp) (by conv=>lhs; simp) (⟨h2,by simp,rfl⟩)
   ·have h2':A=false:=by simpa using h2
    refine QM (by conv=>lhs;simp[QV,h2']) ?_;refine QN ?_
    repeat first|refine QG ?_|refine QY ?_
    exact ja hwf (by simp [h2']) rfl
  ·have h1':br=false:=by simpa using h1
   by_cases h2:ta=0
   ·have h2':A=true:=by rw [←hA,if_neg h1]; simp [h2]
    refine QM (by conv=>lhs;simp[QV,h1']) ?_;refine QN ?_
    repeat first|refine QG ?_|refine QY ?_ (r:=by conv=>lhs;simp[QV,h2])
    refine mid_gc [0,1,7,8,9,10,11] [0,1] (by conv=>lhs; simp [Fr.only]) hwf (by decide) (by simp) (by conv=>lhs; simp) (by conv=>lhs; simp) (by conv=>lhs; simp) (⟨h2',by simp,by simp [h2]⟩)
   ·have h2':A=false:=by rw [←hA,if_neg h1]; simp [h2]
    refine QM (by conv=>lhs;simp[QV,h1']) ?_;refine QN ?_
    repeat first|refine QG ?_|refine QY ?_ (r:=by conv=>lhs;simp[QV,h2])
    exact ja hwf (by simp [h2']) rfl
 rintro σ S' ⟨hAt,rfl,rfl⟩;rw [hAt,Bool.true_and];have c2:=ca az rs (by omega);generalize Ss.asks ts ds near i code.length az rs=B at *
 by_cases h1:(to.length:Int)<(le:Int)
 ·repeat first|refine QG ?_|refine QY ?_ (r:=by conv=>lhs;simp[QV,h1])
  exact ja hwf (by simp; omega) rfl
 by_cases h2:(mo:Int)<(to.length:Int)
 ·repeat first|refine QG ?_|refine QY ?_ (r:=by conv=>lhs;simp[QV,h1,h2])
  exact ja hwf (by simp; omega) rfl
 have hlm:(decide (le≤to.length)&&decide (to.length≤mo))=true:=by simp; omega
 rw [hlm,Bool.true_and]
 repeat first|refine QG ?_|refine QY ?_ (r:=by conv=>lhs;simp[QV,h1,h2])
 refine QT ?_;refine QP ?_ (r:=by conv=>lhs;simp[QV,h1,h2]);refine QL (c2) ?_
 by_cases h3:B=true
 case neg =>
  have h3':B=false:=by simpa using h3
  refine QM (by conv=>lhs;simp[QV,h3']) ?_;refine QN ?_
  repeat first|refine QG ?_|refine QY ?_
  exact ja hwf (by simp [h3']) rfl
 rw [h3,Bool.true_and];refine QM (by conv=>lhs;simp[QV,h3]) ?_;refine QN ?_
 repeat first|refine QG ?_|refine QY ?_
 refine QT ?_;refine jc [0,1,8,74,75,76] rfl (fun c σ S' => ∃ (k:Nat),k≤to.length∧c=to.length-k∧(to.drop k).all (Ss.edgeOk ⟨⟨fi,fo⟩,ts,bs⟩ ds near i code.length)=to.all (Ss.edgeOk ⟨⟨fi,fo⟩,ts,bs⟩ ds near i code.length)∧σ=[(0,ckV e ⟨⟨fi,fo⟩,ts,bs⟩ ds near),(1,vint i),(8,vnat code.length),(74,vl jf to),(75,vnat to.length),(76,vnat k)]∧S'=St S [] [some (6,[vl vint ps,vl jg code, .int .i64 tk, .int .i64 ta,vl jf to,vl vint az]),some (4,[.int .i64 tk, .int .i64 ta,vl jf to,vl vint az])]) to.length ?_ ?_
 ·exact ⟨0,by omega,rfl,rfl,by simp [Fr.only],rfl⟩
 ·rintro c σ T ⟨k,hk,rfl,hd,rfl,rfl⟩
  by_cases hkt:k<to.length
  ·have hw:=ji hkt (by omega);have hst:=Ss.drop_all (Ss.edgeOk ⟨⟨fi,fo⟩,ts,bs⟩ ds near i code.length) hkt;obtain ⟨t0,t1⟩:=hto _ (List.getElem_mem hkt);have htk:=htf _ (List.getElem_mem hkt);obtain ⟨⟨xt,xa⟩,hx⟩ : ∃ x,to[k]=x:=⟨_,rfl⟩
   rw [hx] at hst t0 t1 htk;simp only at t0 t1;obtain ⟨_,⟨hxl,_⟩⟩:=htk;simp only at hxl
   by_cases h0:xt=0
   ·have he:Ss.edgeOk ⟨⟨fi,fo⟩,ts,bs⟩ ds near i code.length ⟨xt,xa⟩=false:=by simp [Ss.edgeOk,h0]
    rw [he] at hst
    repeat first|refine QG ?_|refine QY ?_ (r:=by conv=>lhs;simp[QV,hkt,hx,h0])
    exact ja hwf (by rw [←hd,hst]; rfl) rfl
   obtain ⟨n,rfl⟩ : ∃ n:Nat,xt=n:=⟨xt.toNat,by omega⟩
   have hn:n<bs.length:=by omega
   have ctn:=ct _ (List.getElem_mem hn);obtain ⟨⟨qs,qc,⟨q1,q2,q3,q4⟩⟩,hq⟩ : ∃ b,bs[n]=b:=⟨_,rfl⟩
   rw [hq] at ctn;have ce:=ca xa (Ss.typesOf ts qs) (by omega);have he:Ss.edgeOk ⟨⟨fi,fo⟩,ts,bs⟩ ds near i code.length ⟨n,xa⟩=Ss.asks ts ds near i code.length xa (Ss.typesOf ts qs):=by
    simp only [Ss.edgeOk,h0,decide_false,Bool.not_false,Bool.true_and];simp [hn,hq]
   rw [he] at hst;simp only at ctn;generalize Ss.asks ts ds near i code.length xa (Ss.typesOf ts qs)=C at *
   generalize Ss.typesOf ts qs=tq at *
   have h0' : ¬ n=0:=by omega
   repeat first|refine QG ?_|refine QY ?_ (r:=by conv=>lhs;simp[QV,hkt,hx,h0,h0',hn,hq])
   refine QT ?_;refine QD (r:=by conv=>lhs;simp[QV,hkt,hx,h0,h0',hn,hq]) (k:=?_);refine QL (ctn) ?_;refine QM (by conv=>lhs;simp[QV,hkt,hx,h0,h0',hn,hq]) ?_;refine QL (ce) ?_
   by_cases h9:C=true
   ·refine QM (by conv=>lhs;simp[QV,h9]) ?_;refine QN ?_
    repeat first|refine QG ?_|refine QY ?_
    refine QA [0,1] (h:=⟨?_,k+1,hkt,rfl,by rw [←hd,hst,h9,Bool.true_and],by simp [hw],rfl⟩);omega
   ·have h9':C=false:=by simpa using h9
    refine QM (by conv=>lhs;simp[QV,h9']) ?_;refine QN ?_
    repeat first|refine QG ?_|refine QY ?_
    exact ja hwf (by rw [←hd,hst,h9']; rfl) rfl
  ·rw [Ss.drop_all_end _ hkt] at hd;rw [←hd]
   repeat first|refine QG ?_|refine QY ?_ (r:=by conv=>lhs;simp[QV,hkt])
   exact ja hwf rfl rfl
end Go.Vw
namespace Ss
def checkCode (e:Env) (f:Fn) (ds:List Def) (near:List Int) (i:Int):Nat→List Ins→Bool
 | _,[]=>true
 | k,x::r=>insOk e f ds near i k x&&checkCode e f ds near i (k+1) r
def checkBlocks (e:Env) (f:Fn) (ds:List Def) (near:List Int):Nat→List Block→Bool
 | _,[]=>true
 | i,b::bs=>checkCode e f ds near i 0 b.code&&termOk f ds near i b&&checkBlocks e f ds near (i+1) bs
def checkHead (e:Env) (f:Fn):Bool:=e.right&&f.small&&decide (f.blocks.length≤256)&&kinds 2048 f.types&&f.sig.right&&f.blocks.all fun b=>decide (b.params.length≤256)
def check (e:Env) (f:Fn):Bool:=checkHead e f&&match defsOf f with
 | none=>false
 | some ds=>shapeOk f&&checkBlocks e f ds (Go.Vw.G.nearI (succs f.blocks)) 0 f.blocks
theorem put_in {block pos:Int} : ∀ {l:List Int} {ds d:List Def},put block pos ds l=some d→InTs ds.length l
 | [],ds,d,h=>by intro v hv; cases hv
 | v::l,ds,d,h=>by
  simp only [put] at h;split at h
  ·cases h
  ·rename_i hn;have h1:=put_in h;intro x hx;rcases List.mem_cons.1 hx with rfl | hx
   ·have k1 : ¬ x<0:=fun h=>hn (.inl h)
    have k2 : ¬ (ds.length:Int)≤x:=fun h=>hn (.inr (.inl h))
    exact ⟨by omega,by omega⟩
   ·have:=h1 x hx;simpa using this
theorem Yt {i:Int} : ∀ {l:List Ins} {k:Nat} {ds d:List Def},putCode i k ds l=some d→d.length=ds.length ∧ ∀ x∈l,InTs ds.length x.outs
 | [],k,ds,d,h=>by simp only [putCode,Option.some.injEq] at h; subst h; exact ⟨rfl,by simp⟩
 | x::l,k,ds,d,h=>by
  simp only [putCode] at h;obtain ⟨d1,h1,h2⟩:=Option.bind_eq_some_iff.1 h;obtain ⟨k1,k2⟩:=Yt h2;have e1:=Ys h1;refine ⟨k1.trans e1,fun y hy => ?_⟩;rcases List.mem_cons.1 hy with rfl | hy
  ·exact put_in h1
  ·rw [←e1]; exact k2 y hy
theorem YZ : ∀ {l:List Block} {i:Nat} {ds d:List Def},putBlocks i ds l=some d→d.length=ds.length ∧ ∀ b∈l,InTs ds.length b.params ∧ ∀ x∈b.code,InTs ds.length x.outs
 | [],i,ds,d,h=>by simp only [putBlocks,Option.some.injEq] at h; subst h; exact ⟨rfl,by simp⟩
 | b::l,i,ds,d,h=>by
  simp only [putBlocks] at h;obtain ⟨d2,h1,h2⟩:=Option.bind_eq_some_iff.1 h;obtain ⟨d1,h3,h4⟩:=Option.bind_eq_some_iff.1 h1;have e1:=Ys h3;obtain ⟨e2,k2⟩:=Yt h4;obtain ⟨e3,k3⟩:=YZ h2;refine ⟨by omega,fun y hy => ?_⟩;rcases List.mem_cons.1 hy with rfl | hy
  ·exact ⟨put_in h3,fun x hx=>by rw [←e1]; exact k2 x hx⟩
  ·have:=k3 y hy;rw [show ds.length=d2.length by omega]; exact this
theorem defs_in {f:Fn} {ds:List Def} (h:defsOf f=some ds):ds.length=f.types.length ∧ ∀ b∈f.blocks,InTs f.types.length b.params ∧ ∀ x∈b.code,InTs f.types.length x.outs:=by
 have:=YZ h;simpa using this
theorem right_to {f:Fn} (h:Go.Vw.G.right (succs f.blocks)=true) : ∀ b∈f.blocks, ∀ x∈b.term.to,0≤x.to∧x.to<f.blocks.length:=by
 intro b hb x hx;simp only [Go.Vw.G.right,Bool.and_eq_true,List.all_eq_true] at h;have h1:=h.2 (rowOf b) (List.mem_map.2 ⟨b,hb,rfl⟩);have h2:=(Go.Vw.G.rowOk_iff.1 h1).2 x.to (List.mem_map.2 ⟨x,hx,rfl⟩);simpa [succs] using h2
end Ss
namespace Go.Vw
open Go.Proofs Go.RowKit
theorem lid_lid (b j k:Nat):lid (lid b j) k=lid b (j+k):=by simp [lid]; omega
theorem St_St {B:Store} {u:Upds} {l:List (Option (Nat × List V))} {o:Nat} {c d:Nat × List V} (ho:o<(St B u l).nx):St (St B u l) [(o,some c)] [some d]=((St B u l).upd o c).add d:=by
 refine Store.ext' (funext fun o' => ?_) rfl;rw [zV,Kk,qn]
 by_cases h:o'<(St B u l).nx
 ·rw [if_pos h];have hn : ¬ o'=((St B u l).upd o c).nx:=by show ¬ o'=(St B u l).nx; omega
  rw [if_neg hn];simp only [uGet]
 ·rw [if_neg h]
  by_cases e:o'=(St B u l).nx
  ·subst e;have:(St B u l).nx=((St B u l).upd o c).nx:=rfl;rw [if_pos this]; simp
  ·have hn : ¬ o'=((St B u l).upd o c).nx:=e;rw [if_neg hn,if_neg (by omega),zV];have hnx:(St B u l).nx=B.nx+l.length:=by rw [jE]; rfl
   rw [if_neg (by omega),List.getElem?_eq_none (l:=l) (by omega),List.getElem?_eq_none (by rw [List.length_singleton]; omega)]
theorem Reach.frzCellS {α:Type} {enc:α→V} {s:Nat} (hs : ∀ a,(enc a).cells.length=s) (hcl : ∀ a,(enc a).closed=true) {N b0:Nat} {σ:Fr} {B:Store} {u:Upds} {l:List (Option (Nat × List V))} {k j i s':Nat} {cs:List V} (ls:List α) (hkj:k≠j) (hk:k<l.length) (hj:j<l.length) (hck:(l[k]?).join=some (s',cs)) (hi:cs[i]? = some (.slice (lid B.nx j) 0 ls.length))
  (hcj:(l[j]?).join=some (s,je enc ls)):Reach N b0 σ (St B u l) σ (St B u ((l.set j none).set k (some (s',cs.set i (vl enc ls))))):=by
 have hg:Ghost (.slice (lid B.nx j) 0 ls.length) (St B u l) (vl enc ls) (St B u (l.set j none)):=frzSt hs hcl ls hj hcj;have:=Reach.cell (N:=N) (b0:=b0) (σ:=σ) (o:=lid B.nx k) (i:=i) (s:=s') (cs:=cs) hg (by simp [V.one]) (by rw [jv]; exact hck) hi (by rw [jv,List.getElem?_set_ne (Ne.symm hkj)]; exact hck);rw [JP (by simpa using hk)] at this;exact this
theorem jcA {e:Ss.Env} {f:Ss.Fn} {ds:List Ss.Def} {near:List Int} {i:Int} {k:Nat} {l:List Ss.Ins} (h:k<l.length):Ss.checkCode e f ds near i k (l.drop k)=(Ss.insOk e f ds near i k l[k]&&Ss.checkCode e f ds near i (k+1) (l.drop (k+1))):=by
 rw [List.drop_eq_getElem_cons h,Ss.checkCode]
theorem jaO {e:Ss.Env} {f:Ss.Fn} {ds:List Ss.Def} {near:List Int} {i:Nat} {l:List Ss.Block} (h:i<l.length):Ss.checkBlocks e f ds near i (l.drop i)=(Ss.checkCode e f ds near i 0 l[i].code&&Ss.termOk f ds near i l[i]&&Ss.checkBlocks e f ds near (i+1) (l.drop (i+1))):=by
 rw [List.drop_eq_getElem_cons h,Ss.checkBlocks]
end Go.Vw
namespace Ss
def putv (to:List Int) (v:Int):Int:=if 0≤v∧v<to.length then to.getD v.toNat 0 else v
def repIns (to:List Int) (x:Ins):Ins:=⟨x.op,x.n,x.args.map (putv to),x.outs⟩
def repEdge (to:List Int) (x:Edge):Edge:=⟨x.to,x.args.map (putv to)⟩
def repTerm (to:List Int) (t:Term):Term:=⟨t.kind,if t.kind=2∨t.kind=3 then putv to t.arg else t.arg,t.to.map (repEdge to),t.args.map (putv to)⟩
def repBlock (to:List Int) (b:Block):Block:=⟨b.params,b.code.map (repIns to),repTerm to b.term⟩
def replace (f:Fn) (to:List Int):Fn:=⟨f.sig,f.types,f.blocks.map (repBlock to)⟩
theorem putv_nil:putv []=fun v=>v:=by funext v; simp [putv]; omega
theorem repIns_nil (x:Ins):repIns [] x=x:=by simp [repIns,putv_nil]
theorem repEdge_nil (x:Edge):repEdge [] x=x:=by simp [repEdge,putv_nil]
theorem repTerm_nil (t:Term):repTerm [] t=t:=by
 have:repEdge []=id:=by funext x; exact repEdge_nil x
 simp [repTerm,putv_nil,this]
theorem repBlock_nil (b:Block):repBlock [] b=b:=by
 have:repIns []=id:=by funext x; exact repIns_nil x
 simp [repBlock,repTerm_nil,this]
theorem replace_nil (f:Fn):replace f []=f:=by
 have:repBlock []=id:=by funext x; exact repBlock_nil x
 simp [replace,this]
end Ss
namespace Go.Vw
open Go.Proofs Go.RowKit
attribute [-simp] List.map_set
theorem put_v (v:Int) (to:List Int) (ht:to.length<2^63):VPure Tryz.prog 95 [vint v,vl vint to] (vint (Ss.putv to v)):=by
 intro S;refine QB (c:=jd Tryz.f95) Tryz.func95 Tryz.ntmps95 fun hwf=>?_
 by_cases h1:0≤v
 ·obtain ⟨n,rfl⟩ : ∃ n:Nat,v=n:=⟨v.toNat,by omega⟩
  by_cases h2:n<to.length
  ·repeat first|refine QG ?_|refine QY ?_ (r:=by conv=>lhs;simp[QV,h2])
   exact ja hwf (by simp [Ss.putv,h2]) rfl
  ·repeat first|refine QG ?_|refine QY ?_ (r:=by conv=>lhs;simp[QV,h2])
   exact ja hwf (by simp [Ss.putv,h2]) rfl
 ·repeat first|refine QG ?_|refine QY ?_ (r:=by conv=>lhs;simp[QV,h1])
  exact ja hwf (by simp [Ss.putv,h1]) rfl
theorem swapO_v (S:Store) (l to:List Int) (hl:l.length≤1048576) (ht:to.length<2^63):VCalls Tryz.prog 94 [vl vint l,vl vint to] S (fun r T=>r = .slice (lid S.nx 0) 0 l.length∧T=St S [] [some (1,(l.map (Ss.putv to)).map vint)]):=by
 have cp:=fun v=>put_v v to ht
 generalize Ss.putv to=g at *
 refine QB (c:=jd Tryz.f94) Tryz.func94 Tryz.ntmps94 fun hwf=>?_
 repeat first|refine QG ?_|refine QY ?_
 refine qW 5 1 rfl (by conv=>lhs; simp [Fr.set]) ?_;refine QT ?_;refine jc [0,1,5,6] rfl (fun c σ S' => ∃ (k:Nat) (out:List Int),k≤l.length∧c=l.length-k∧out=(l.take k).map g∧out.length=k∧σ=[(0,vl vint l),(1,vl vint to),(5, .slice (lid S.nx 0) 0 k),(6,vnat k)]∧S'=St S [] [some (1,out.map vint)]) l.length ?_ ?_
 ·exact ⟨0,[],by omega,rfl,by simp,rfl,by simp [Fr.only],by simp⟩
 ·rintro c σ T ⟨k,out,hk,rfl,ho,hlen,rfl,rfl⟩
  by_cases hkt:k<l.length
  ·have hw:=ji hkt (by omega);have cpk:=cp l[k];have htk:(l.take (k+1)).map g=(l.take k).map g++[g l[k]]:=by rw [List.take_add_one,List.getElem?_eq_getElem hkt,List.map_append]; rfl
   generalize g l[k]=gv at *
   have hb:(k+1)*8≤140737488355328:=by omega
   have hb':k+1≤140737488355328:=by omega
   repeat first|refine QG ?_|refine QY ?_ (r:=by conv=>lhs;simp[QV,hkt])
   refine QT ?_;refine QP ?_ (r:=by conv=>lhs;simp[QV,hkt]);refine QL (cpk) ?_;refine QM (by conv=>lhs;simp[QV,hb,hb',hlen]) ?_;refine QN ?_
   repeat first|refine QG ?_|refine QY ?_ (r:=by conv=>lhs;simp[QV,hb,hb',hlen])
   refine QA [2] (h:=⟨?_,k+1,out++[gv],hkt,rfl,by rw [htk,ho],by simp [hlen],by simp [hw],by simp⟩);omega
  ·have hke:k=l.length:=by omega
   subst hke;rw [List.take_length] at ho
   repeat first|refine QG ?_|refine QY ?_ (r:=by conv=>lhs;simp[QV,hkt])
   rw [←ho];exact qZ ⟨by simp,rfl⟩
theorem swap_v (l to:List Int) (hl:l.length≤1048576) (ht:to.length<2^63):VPure Tryz.prog 94 [vl vint l,vl vint to] (vl vint (l.map (Ss.putv to))):=by
 intro S;refine zG fun hwf=>qT ((swapO_v S l to hl ht).mono ?_)
 rintro r T ⟨rfl,rfl⟩;exact jh hwf ((frz1 (k:=0) (by simp) (by rfl) (jF vint (fun _=>rfl) _) (by simp)).toB _) rfl
theorem swapNO_v (S:Store) (l:List Int) (hl:l.length≤1048576):VCalls Tryz.prog 94 [vl vint l, .nils] S (fun r T=>r = .slice (lid S.nx 0) 0 l.length∧T=St S [] [some (1,l.map vint)]):=by
 have h:=swapO_v S l [] hl (by simp);rw [Ss.putv_nil,List.map_id'] at h;exact qI (GhostArgs.one [vl vint l] [] (Ghost.nils_list S)) h
theorem Ku (l:List Int) (hl:l.length≤1048576):VPure Tryz.prog 94 [vl vint l, .nils] (vl vint l):=by
 intro S;have h:=swap_v l [] hl (by simp) S;rw [Ss.putv_nil,List.map_id'] at h;exact qI (GhostArgs.one [vl vint l] [] (Ghost.nils_list S)) h
abbrev blkT:List Ty:=[.c, .s (List.replicate 4 .c), .c, .c, .c, .c]
abbrev fnT:List Ty:=[.c, .c, .c, .s blkT]
def jcG (S:Store) (g:Ss.Fn) (r:V) (T:Store):Prop:=Agree S T∧T.Wf ∧ ∃ (ot ob:Nat) (cells:List V) (ids:List Nat),r = .agg [vl vint g.sig.inn,vl vint g.sig.out, .slice ot 0 g.types.length, .slice ob 0 g.blocks.length]∧T.get ot=some (1,g.types.map vint)∧T.get ob=some (6,cells)∧OwL T (reps g.blocks.length blkT) cells (je jb g.blocks) ids∧(ot::ob::ids).Nodup ∧ ∀ o∈ot::ob::ids,S.nx≤o∧o<T.nx
def Copied (S:Store) (g:Ss.Fn) (r:V) (T:Store):Prop:=Agree S T∧T.Wf ∧ ∃ (ob:Nat) (cells:List V) (ids:List Nat),r = .agg [vl vint g.sig.inn,vl vint g.sig.out,vl vint g.types, .slice ob 0 g.blocks.length]∧T.get ob=some (6,cells)∧OwL T (reps g.blocks.length blkT) cells (je jb g.blocks) ids∧(ob::ids).Nodup ∧ ∀ o∈ob::ids,S.nx≤o∧o<T.nx
theorem js (f:Nat→Nat) (l:List Ss.Ins):V.renL f (je jg l)=je jg l:=JM qo f l
theorem jq (p:Nat→Bool) (l:List Ss.Ins):V.idsL p (je jg l)=true:=JN qo p l
theorem qJ (f:Nat→Nat) (l:List Ss.Edge):V.renL f (je jf l)=je jf l:=JM qp f l
theorem qC (p:Nat→Bool) (l:List Ss.Edge):V.idsL p (je jf l)=true:=JN qp p l
theorem Agree.St {S B:Store} {l:List (Option (Nat × List V))} (h:Agree S B):Agree S (St B [] l):=by
 refine ⟨by rw [jE,lid]; have:=h.1; omega,fun o ho => ?_⟩;rw [jk (Nat.lt_of_lt_of_le ho h.1)];exact h.2 o ho
theorem RReplace_v (S:Store) (f:Ss.Fn) (to:List Int) (hf:f.Fits) (hs:f.small=true) (hto:to.length<2^63):VCalls Tryz.prog 57 [ql f,vl vint to] S (jcG S (Ss.replace f to)):=by
 have csm:=Ke f hf;rw [hs] at csm;obtain ⟨hh,hbk,hcnt⟩:=(Ss.small_iff f).1 hs;simp only [Ss.Fn.heads,Bool.and_eq_true,decide_eq_true_eq] at hh;obtain ⟨sm,hsm⟩ : ∃ sm,sm=true:=⟨_,rfl⟩
 rw [←hsm] at csm;have cfi:=Ku f.sig.inn (by omega);have cfo:=Ku f.sig.out (by omega);have cft:=fun S=>swapNO_v S f.types (by omega)
 have csw:=fun l hl=>swap_v l to hl hto
 have cpu:=fun v=>put_v v to hto
 have hX:Ss.replace f to=⟨f.sig,f.types,f.blocks.map (Ss.repBlock to)⟩:=rfl;rw [hX];clear hX;have hbF:=hf.2.2.2;obtain ⟨⟨fi,fo⟩,ts,bs⟩:=f;simp only at hh hbk hbF hcnt cfi cfo cft ⊢;have csm':VPure Tryz.prog 35 [.agg [vl vint fi,vl vint fo,vl vint ts,vl jb bs]] (.bool sm):=csm;refine qd (c:=jd Tryz.f57) Tryz.func57 rfl (by conv=>lhs; reduce) (by simp [Tryz.ntmps57]) ?_;rw [Tryz.ntmps57];intro hwf
 repeat first|refine QG ?_|refine QY ?_
 refine QH 2 0 ?_;refine QT ?_;refine QP ?_;refine QL (csm') ?_;refine QM (by conv=>lhs;simp[QV,hsm]) ?_;refine QN ?_
 repeat first|refine QG ?_|refine QY ?_ (r:=by conv=>lhs;simp[QV,hsm])
 refine QO [1,2,4] ?_;refine QK [1] ?_;have cft':=cft (St S [] [some (4,[.nils, .nils, .nils, .nils])]);have cft2:=cft (St S [] [some (4,[.nils, .nils, .nils, .nils]),some (4,[.nils, .nils, .nils, .nils])]);rw [jE,jZ, ←Jf] at cft' cft2;simp only [List.cons_append,List.nil_append,List.length_cons,List.length_nil,Nat.zero_add,Nat.add_zero] at cft' cft2;refine QT ?_;refine Jh (St S [] []) (St S [] []) [10028] 11 11 13 [11,12,13,14] [13,11,12,14] rfl (by kernel_rfl) (by conv=>lhs; reduce) (by kernel_rfl) (by decide) (by kernel_rfl) (by kernel_rfl) (by kernel_rfl) (by kernel_rfl) (by kernel_rfl) (by kernel_rfl) (by kernel_rfl) rfl rfl (by kernel_rfl) (JG (by simp [subU,shpU,subL,shpL])) (by conv=>lhs; reduce) (by conv=>lhs; reduce) (by conv=>lhs; reduce) ?_;refine QZ ?_;refine QL (cfi) ?_;refine QZ ?_;refine QL (cfo) ?_;refine QW ?_;refine ⟨?sm, ?Sm, ?H3, ?H1, ?H2⟩
 case H1 =>
  refine JR rfl (cft') (by rfl) (Kf (zt _ _ (by simp [subU])) (by simp [subL])) (JG (by simp [subU,shpU,subL,shpL])) ?_;refine QZ ?_;refine QI ?_;refine QZ ?_;refine QI ?_;refine QW ?_;refine zu [1,2,4,5] (Eq.trans (b := ?_) ?_ rfl)
  rotate_left
  conv=>lhs; simp [Fr.only,Fr.look]
 case H2 =>
  refine QI ?_;refine QZ ?_;refine JR rfl (cft2) (by rfl) (Kf (zt _ _ (by simp [subU])) (by simp [subL])) (JG (by simp [subU,shpU,subL,shpL])) ?_;refine QZ ?_;refine QI ?_;refine QW ?_;exact zD [1,2,4,5] [0,2,1] (by conv=>lhs; simp [Fr.only,Fr.look]) hwf (by decide) (by simp) (by conv=>lhs; simp) (by conv=>lhs; simp) (by conv=>lhs; simp)
 repeat first|refine QG ?_|refine QY ?_
 apply jo
 ·exact Reach.voidCell 6 (k:=2) (i:=3) (by simp) (by rfl) (by rfl)
 simp only [List.cons_append,List.nil_append,List.length_cons,List.length_nil,List.set_cons_succ,List.set_cons_zero];refine QO [1,2,4,5,6] ?_;refine QK [1,0,2,3] ?_;obtain ⟨ot,hot⟩ : ∃ ot,ot=lid S.nx 0:=⟨_,rfl⟩
 rw [←hot];refine QT ?_;refine jc [1,2,4,5,6] rfl (fun c σ S' => ∃ (B:Store) (k:Nat) (out:List Ss.Block) (cells:List V) (ids:List Nat),Agree S B∧B.Wf∧(B.get ot=some (1,ts.map vint)∧S.nx≤ot∧ot<B.nx∧ot∉ids)∧k≤bs.length∧c=bs.length-k∧out=(bs.take k).map (Ss.repBlock to)∧out.length=k∧OwL B (reps k blkT) cells (je jb out) ids∧ids.Nodup∧(∀ o∈ids,S.nx≤o∧o<B.nx)∧σ=[(1,vl vint to),(2, .ref (.agg [vl vint fi,vl vint fo,vl vint ts,vl jb bs])),(4, .ptr (lid B.nx 0) 0),(5, .ptr (lid B.nx 1) 0),(6,vnat k)]∧S'=St B [] [some (4,[.nils, .nils, .nils, .nils]),some (4,[vl vint fi,vl vint fo, .slice ot 0 ts.length, .slice (lid B.nx 2) 0 k]),some (6,cells)]) bs.length ?_ ?_
 ·have hotg:(St S [] [some (1,ts.map vint)]).get ot=some (1,ts.map vint):=by rw [hot,jv]; rfl
  refine ⟨St S [] [some (1,ts.map vint)],0,[],[],[],Jn,jaU hwf (by simp),⟨hotg,by rw [hot,lid]; omega,by rw [hot,jE]; simp [lid],by simp⟩,by omega,rfl,by simp,rfl, .nil,by simp,by simp,by simp [Fr.only,jE,jZ], ?_⟩;refine (ZE).trans ?_;simp [jE,jZ]
 ·rintro c σ T ⟨B,k,out,cells,ids,hag,hwfB,⟨hotg,hots,hotB,hotn⟩,hk,rfl,ho,hol,how,hnd,hids,rfl,rfl⟩;have hwfS:=hwf;clear hwf;have hwf:=hwfB;refine zy hag.1 ?_;have hci:=fun ks=>(how.old (fun o ho=>(hids o ho).2) ks).1
  have gtP:=fun ks=>zz (n:=B.nx) ks hotB
  have gtT:=fun ks=>qX (n:=B.nx) ks hotB
  have hcr:=fun ks=>(how.old (fun o ho=>(hids o ho).2) ks).2
  by_cases hkt:k<bs.length
  case neg =>
   have hke:k=bs.length:=by omega
   subst hke;rw [List.take_length] at ho
   repeat first|refine QG ?_|refine QY ?_ (r:=by conv=>lhs;simp[QV,hkt])
   refine Zp (xs:=[.agg [vl vint fi,vl vint fo, .slice ot 0 ts.length, .slice (lid B.nx 2) 0 bs.length]]) (by simp) ?_;rw [jbl];have hlb:(bs.map (Ss.repBlock to)).length=bs.length:=List.length_map _;have hcw:V.idsL (fun o=>decide (o<lid B.nx 3)) cells=true:=how.ids_lt fun o ho=>decide_eq_true (Nat.lt_of_lt_of_le (hids o ho).2 (by rw [lid]; omega))
   have hotw:ot<lid B.nx 3:=Nat.lt_of_lt_of_le hotB (by rw [lid]; omega);refine qZ ⟨hag.St,jaU hwf (by simp [hcw,lid_lt,hotw]),ot,lid B.nx 2,cells,ids,by rw [hlb],by rw [jk hotB]; exact hotg,by rw [jv]; rfl, ?_, ?_, ?_⟩
   ·rw [hlb, ←ho];exact how.mono fun o ho=>by rw [jk (hids o ho).2]; rfl
   ·refine List.nodup_cons.2 ⟨fun hm => ?_,List.nodup_cons.2 ⟨fun hm => ?_,hnd⟩⟩
    ·rcases List.mem_cons.1 hm with e | hm
     ·rw [e,lid] at hotB; omega
     ·exact hotn hm
    ·have:=(hids _ hm).2;simp only [lid] at this; omega
   ·intro o ho;have hle:=hag.1;rw [jE];rcases List.mem_cons.1 ho with rfl | ho
    ·simp only [lid,List.length_cons,List.length_nil]; omega
    rcases List.mem_cons.1 ho with rfl | ho
    ·simp only [lid,List.length_cons,List.length_nil]; omega
    ·have:=hids o ho;simp only [lid,List.length_cons,List.length_nil]; omega
  have hw:=ji hkt (by omega);have hbF':=hbF _ (List.getElem_mem hkt);have hbk':=hbk _ (List.getElem_mem hkt);have htk:(bs.take (k+1)).map (Ss.repBlock to)=(bs.take k).map (Ss.repBlock to)++[Ss.repBlock to bs[k]]:=by rw [List.take_add_one,List.getElem?_eq_getElem hkt,List.map_append]; rfl
  obtain ⟨⟨ps,code,⟨tk,ta,tt,az⟩⟩,hx⟩ : ∃ b,bs[k]=b:=⟨_,rfl⟩
  rw [hx] at hbF' hbk' htk;simp only [Ss.Block.small,Bool.and_eq_true,List.all_eq_true,Ss.Ins.small,Ss.Edge.small,decide_eq_true_eq] at hbk';obtain ⟨⟨⟨⟨hps,htt⟩,haz⟩,hcode⟩,hto2⟩:=hbk';have hcl:=hcnt;have hcb:code.length≤4096:=by
   have:=count_mem (List.getElem_mem hkt);rw [hx] at this;simp only at this;omega
  have cps:=Ku ps (by omega)
  repeat first|refine QG ?_|refine QY ?_ (r:=by conv=>lhs;simp[QV,hkt,hx])
  refine QH 7 3 ?_;refine QT ?_;refine QP ?_;refine QL (cps) ?_;refine QW ?_
  repeat first|refine QG ?_|refine QY ?_
  apply jo
  ·exact Reach.voidCell 4 (k:=4) (i:=1) (by simp) (by rfl) (by rfl)
  simp only [List.cons_append,List.nil_append,List.length_cons,List.length_nil,List.set_cons_succ,List.set_cons_zero];refine QO [1,2,4,5,6,7,8,9] ?_;refine Wx [0,1,2,4,5] hwf (by decide) (by simp [gtP,gtT,hci,hcr]) (by conv=>lhs; simp [gtP,gtT,hci,hcr]) (by conv=>lhs; simp [gtP,gtT,hci,hcr]) (by conv=>lhs; simp [gtP,gtT,hci,hcr]) ?_;refine QT ?_;refine jc [1,2,4,5,6,7,8,9] rfl (fun c σ S' => ∃ (j:Nat) (co:List Ss.Ins),j≤code.length∧c=code.length-j∧co=(code.take j).map (Ss.repIns to)∧co.length=j∧σ=[(1,vl vint to),(2, .ref (.agg [vl vint fi,vl vint fo,vl vint ts,vl jb bs])),(4, .ptr (lid B.nx 0) 0),(5, .ptr (lid B.nx 1) 0),(6,vnat k),(7, .ref (.agg [vl vint ps,vl jg code, .int .i64 tk, .int .i64 ta,vl jf tt,vl vint az])),(8, .ptr (lid B.nx 3) 0),(9,vnat j)]∧S'=St B [] [some (4,[.nils, .nils, .nils, .nils]),some (4,[vl vint fi,vl vint fo, .slice ot 0 ts.length, .slice (lid B.nx 2) 0 k]),some (6,cells),some (6,[vl vint ps, .slice (lid B.nx 4) 0 j, .int .i64 0, .int .i64 0, .nils, .nils]),some (4,je jg co)]) code.length ?_ ?_
  ·exact ⟨0,[],by omega,rfl,by simp,rfl,by simp [Fr.only],by simp [je]⟩
  ·rintro c σ T ⟨j,co,hj,rfl,hco,hcol,rfl,rfl⟩
   by_cases hjt:j<code.length
   case neg =>
    have hje:j=code.length:=by omega
    subst hje;rw [List.take_length] at hco;have cza:=csw az (by omega);have cta:=cpu ta;generalize hgz:az.map (Ss.putv to)=gz at *
    generalize hgt:Ss.putv to ta=gt at *
    repeat first|refine QG ?_|refine QY ?_ (r:=by conv=>lhs;simp[QV,hjt])
    refine QH 11 5 ?_;refine QT ?_;refine QJ (St B [] []) (St B [] [none,none,none,some (6,[])]) [] ?_ (r:=by conv=>lhs; simp [QV]);refine QL (cza) ?_;refine QZ ?_;refine QI ?_;refine QW ?_;refine QO [1,2,4,5,6,8,11] ?_;refine Wx [0,1,2,3,4] hwf (by decide) (by simp [gtP,gtT,hci,hcr,js,jq]) (by conv=>lhs; simp [gtP,gtT,hci,hcr,js,jq]) (by conv=>lhs; simp [gtP,gtT,hci,hcr,js,jq]) (by conv=>lhs; simp [gtP,gtT,hci,hcr,js,jq]) ?_;refine Jg rfl ?_;refine Wc (fun σ S'=>σ=[(1,vl vint to),(2, .ref (.agg [vl vint fi,vl vint fo,vl vint ts,vl jb bs])),(4, .ptr (lid B.nx 0) 0),(5, .ptr (lid B.nx 1) 0),(6,vnat k),(8, .ptr (lid B.nx 3) 0),(11, .ref (.agg [.int .i64 tk, .int .i64 ta,vl jf tt,vl vint az]))]∧S'=St B [] [some (4,[.nils, .nils, .nils, .nils]),some (4,[vl vint fi,vl vint fo, .slice ot 0 ts.length, .slice (lid B.nx 2) 0 k]),some (6,cells),some (6,[vl vint ps, .slice (lid B.nx 4) 0 code.length, .int .i64 tk, .int .i64 (if tk=2∨tk=3 then gt else ta), .nils,vl vint gz]),some (4,je jg co)]) [1,2,4,5,6,8,11] ?_ ?_
    ·by_cases h2:tk=2
     ·repeat first|refine QG ?_|refine QY ?_ (r:=by conv=>lhs;simp[QV,h2])
      refine QT ?_;refine QP ?_;refine QL (cta) ?_;refine QW ?_
      repeat first|refine QG ?_|refine QY ?_
      exact ⟨by simp [Fr.only,h2],by simp [h2]⟩
     by_cases h3:tk=3
     ·repeat first|refine QG ?_|refine QY ?_ (r:=by conv=>lhs;simp[QV,h2,h3])
      refine QT ?_;refine QP ?_;refine QL (cta) ?_;refine QW ?_
      repeat first|refine QG ?_|refine QY ?_
      exact ⟨by simp [Fr.only,h3],by simp [h3]⟩
     ·repeat first|refine QG ?_|refine QY ?_ (r:=by conv=>lhs;simp[QV,h2,h3])
      exact ⟨by simp [Fr.only],by simp [h2,h3]⟩
    rintro σ S' ⟨rfl,rfl⟩;generalize hgg:(if tk=2∨tk=3 then gt else ta)=gg
    repeat first|refine QG ?_|refine QY ?_
    apply jo
    ·exact Reach.voidCell 2 (k:=3) (i:=4) (by simp) (by rfl) (by rfl)
    simp only [List.cons_append,List.nil_append,List.length_cons,List.length_nil,List.set_cons_succ,List.set_cons_zero];refine QT ?_;refine jc [1,2,4,5,6,8,11,12] rfl (fun c σ S' => ∃ (j:Nat) (eo:List Ss.Edge),j≤tt.length∧c=tt.length-j∧eo=(tt.take j).map (Ss.repEdge to)∧eo.length=j∧σ=[(1,vl vint to),(2, .ref (.agg [vl vint fi,vl vint fo,vl vint ts,vl jb bs])),(4, .ptr (lid B.nx 0) 0),(5, .ptr (lid B.nx 1) 0),(6,vnat k),(8, .ptr (lid B.nx 3) 0),(11, .ref (.agg [.int .i64 tk, .int .i64 ta,vl jf tt,vl vint az])),(12,vnat j)]∧S'=St B [] [some (4,[.nils, .nils, .nils, .nils]),some (4,[vl vint fi,vl vint fo, .slice ot 0 ts.length, .slice (lid B.nx 2) 0 k]),some (6,cells),some (6,[vl vint ps, .slice (lid B.nx 4) 0 code.length, .int .i64 tk, .int .i64 gg, .slice (lid B.nx 5) 0 j,vl vint gz]),some (4,je jg co),some (2,je jf eo)]) tt.length ?_ ?_
    ·exact ⟨0,[],by omega,rfl,by simp,rfl,by simp [Fr.only],by simp [je]⟩
    ·rintro c σ T ⟨j,eo,hj,rfl,heo,heol,rfl,rfl⟩
     by_cases hjt:j<tt.length
     case neg =>
      have hje:j=tt.length:=by omega
      subst hje;rw [List.take_length] at heo
      repeat first|refine QG ?_|refine QY ?_ (r:=by conv=>lhs;simp[QV,hjt])
      apply jo
      ·exact Reach.frzCellS (enc:=jf) (s:=2) (fun _=>by rw [qq]; rfl) qp (k:=3) (j:=5) (i:=4) eo (by decide) (by simp) (by simp) (by rfl) (by rw [heol]; rfl) (by rfl)
      simp only [List.set_cons_succ,List.set_cons_zero];have hcel:cells.length=k*6:=by rw [how.len.1,qL]; rfl
      have hb:(k+1)*112≤140737488355328:=by omega
      have hb':k+1≤140737488355328:=by omega
      repeat first|refine QG ?_|refine QY ?_ (r:=by conv=>lhs;simp[QV,hb,hb',hcel,rep0,hw])
      show jp _ _ _ _ _ _ _;refine JO hag.1 ?_;have hblk:Ss.repBlock to ⟨ps,code,⟨tk,ta,tt,az⟩⟩=⟨ps,co,⟨tk,gg,eo,gz⟩⟩:=by
       simp only [Ss.repBlock,Ss.repTerm,hgt,hgz,hgg,hco,heo]
      have hB' : ∀ o,o<B.nx→(St B [] [some (4,je jg co)]).get o=B.get o:=fun o ho=>by rw [jk ho]; rfl
      have hnew:OwL (St B [] [some (4,je jg co)]) blkT [vl vint ps, .slice (lid B.nx 0) 0 code.length, .int .i64 tk, .int .i64 gg,vl jf eo,vl vint gz] (jb ⟨ps,co,⟨tk,gg,eo,gz⟩⟩).cells [lid B.nx 0]:=by
       rw [jz, ←hcol];exact .c rfl (OwL.slice (fun _=>by rw [jJ]; rfl) qo co (by rw [jv]; rfl) (.c rfl (.c rfl (.c rfl (.c rfl .nil)))))
      have hown:OwL (St B [] [some (4,je jg co)]) (reps (k+1) blkT) (cells++[vl vint ps, .slice (lid B.nx 0) 0 code.length, .int .i64 tk, .int .i64 gg,vl jf eo,vl vint gz]) (je jb (out++[⟨ps,co,⟨tk,gg,eo,gz⟩⟩])) (ids++[lid B.nx 0]):=by
       rw [Kx,qK];exact (how.mono fun o ho=>hB' o (hids o ho).2).append hnew
      have hotN:(St B [] [some (4,je jg co)]).get ot=some (1,ts.map vint)∧S.nx≤ot∧ot<(St B [] [some (4,je jg co)]).nx∧ot∉ids++[lid B.nx 0]:=by
       refine ⟨by rw [hB' ot hotB]; exact hotg,hots,by rw [jE]; simp only [lid,List.length_cons,List.length_nil]; omega,fun hm => ?_⟩;rcases List.mem_append.1 hm with hm | hm
       ·exact hotn hm
       ·simp only [List.mem_singleton] at hm; rw [hm,lid] at hotB; omega
      refine qR [4,0,1,7] (by conv=>lhs; simp [Fr.only]) hwf (by decide) (by simp [gtP,gtT,hci,hcr,js,jq]) (by conv=>lhs; simp [gtP,gtT,hci,hcr,js,jq]) (by conv=>lhs; simp [gtP,gtT,hci,hcr,js,jq]) (by conv=>lhs; simp [gtP,gtT,hci,hcr,js,jq]) ⟨?_,St B [] [some (4,je jg co)],k+1,out++[⟨ps,co,⟨tk,gg,eo,gz⟩⟩],cells++[vl vint ps, .slice (lid B.nx 0) 0 code.length, .int .i64 tk, .int .i64 gg,vl jf eo,vl vint gz],ids++[lid B.nx 0],hag.St,jaU hwf (by simp [jq]),hotN,hkt,rfl,by rw [htk,hblk,ho],by simp [hol],hown, ?_, ?_,by simp [jE,jZ],(by refine (ZE).trans ?_; simp [jE,jZ])⟩
      ·omega
      ·refine List.nodup_append.2 ⟨hnd,by simp,fun a ha b hb e => ?_⟩;have:=(hids a ha).2;simp only [List.mem_singleton] at hb;rw [hb,lid] at e;omega
      ·intro o ho;have hle:=hag.1;rw [jE];rcases List.mem_append.1 ho with ho | ho
       ·have:=hids o ho;simp only [lid,List.length_cons,List.length_nil]; omega
       ·simp only [List.mem_singleton] at ho;rw [ho];simp only [lid,List.length_cons,List.length_nil]; omega
     have hwj:=ji hjt (by omega);have hej:=hto2 _ (List.getElem_mem hjt);have hcj:(tt.take (j+1)).map (Ss.repEdge to)=(tt.take j).map (Ss.repEdge to)++[Ss.repEdge to tt[j]]:=by rw [List.take_add_one,List.getElem?_eq_getElem hjt,List.map_append]; rfl
     obtain ⟨⟨xt,xa⟩,hx2⟩ : ∃ x,tt[j]=x:=⟨_,rfl⟩
     rw [hx2] at hcj hej;simp only at hej;have cxa:=csw xa (by omega);have hfl:(je jf eo).length=j*2:=by rw [zm (s:=2) (fun _=>by rw [qq]; rfl),heol]
     have hb:(j+1)*32≤140737488355328:=by omega
     have hb':j+1≤140737488355328:=by omega
     generalize hga:xa.map (Ss.putv to)=ga at *
     repeat first|refine QG ?_|refine QY ?_ (r:=by conv=>lhs;simp[QV,hjt])
     refine QT ?_;refine QJ (St B [] []) (St B [] [none,none,none,some (6,[])]) [110] ?_ (r:=by conv=>lhs; simp [QV,hjt,hx2]);refine QL (cxa) ?_;refine QZ ?_;refine QI ?_ (r:=by conv=>lhs;simp[QV,rep0]);refine QZ ?_;refine QI ?_ (r:=by conv=>lhs;simp[QV,hb,hb',hfl]);refine QZ ?_;refine QI ?_;refine QW ?_
     repeat first|refine QG ?_|refine QY ?_ (r:=by conv=>lhs;simp[QV,hwj])
     refine qR [0,1,2,3,4,7] (by conv=>lhs; simp [Fr.only]) hwf (by decide) (by simp [gtP,gtT,hci,hcr,js,jq,qJ,qC]) (by conv=>lhs; simp [gtP,gtT,hci,hcr,js,jq,qJ,qC]) (by conv=>lhs; simp [gtP,gtT,hci,hcr,js,jq,qJ,qC]) (by conv=>lhs; simp [gtP,gtT,hci,hcr,js,jq,qJ,qC]) ⟨?_,j+1,eo++[Ss.repEdge to ⟨xt,xa⟩],hjt,rfl,by rw [hcj,heo],by simp [heol],by simp [hwj],by simp [qK,Ss.repEdge,hga]⟩;omega
   have hwj:=ji hjt (by omega);have hcj:(code.take (j+1)).map (Ss.repIns to)=(code.take j).map (Ss.repIns to)++[Ss.repIns to code[j]]:=by rw [List.take_add_one,List.getElem?_eq_getElem hjt,List.map_append]; rfl
   have hsj:=hcode _ (List.getElem_mem hjt);obtain ⟨⟨xo,xn,xa,xu⟩,hx2⟩ : ∃ x,code[j]=x:=⟨_,rfl⟩
   rw [hx2] at hcj hsj;simp only at hsj;have cxa:=csw xa (by omega);have cxu:=Ku xu (by omega);have hfl:(je jg co).length=j*4:=by rw [zm (s:=4) (fun _=>by rw [jJ]; rfl),hcol]
   have hb:(j+1)*64≤140737488355328:=by omega
   have hb':j+1≤140737488355328:=by omega
   generalize hga:xa.map (Ss.putv to)=ga at *
   repeat first|refine QG ?_|refine QY ?_ (r:=by conv=>lhs;simp[QV,hjt,hx2])
   refine QH 10 5 ?_;refine QT ?_;refine QJ (St B [] []) (St B [] [none,none,none,some (6,[])]) [59] ?_ (r:=by conv=>lhs; simp [QV]);refine QL (cxa) ?_;refine QZ ?_;refine QL (cxu) ?_;refine QZ ?_;refine QI ?_ (r:=by conv=>lhs;simp[QV,rep0]);refine QZ ?_;refine QI ?_ (r:=by conv=>lhs;simp[QV,hb,hb',hfl]);refine QZ ?_;refine QI ?_;refine QW ?_
   repeat first|refine QG ?_|refine QY ?_ (r:=by conv=>lhs;simp[QV,hwj])
   refine qR [0,1,2,3,7] (by conv=>lhs; simp [Fr.only]) hwf (by decide) (by simp [gtP,gtT,hci,hcr,js,jq]) (by conv=>lhs; simp [gtP,gtT,hci,hcr,js,jq]) (by conv=>lhs; simp [gtP,gtT,hci,hcr,js,jq]) (by conv=>lhs; simp [gtP,gtT,hci,hcr,js,jq]) ⟨?_,j+1,co++[Ss.repIns to ⟨xo,xn,xa,xu⟩],hjt,rfl,by rw [hcj,hco],by simp [hcol],by simp [hwj],by simp [qK,Ss.repIns,hga]⟩;omega
theorem Copied.mono {S S':Store} {g:Ss.Fn} {r:V} {T:Store} (h:Copied S' g r T) (hag:Agree S S'):Copied S g r T:=by
 obtain ⟨h1,h2,ob,cells,ids,h3,h4,h5,h6,h7⟩:=h;have hle:=hag.1;exact ⟨⟨Nat.le_trans hle h1.1,fun o ho=>(h1.2 o (Nat.lt_of_lt_of_le ho hle)).trans (hag.2 o ho)⟩,h2,ob,cells,ids,h3,h4,h5,h6,fun o ho=>⟨Nat.le_trans hle (h7 o ho).1,(h7 o ho).2⟩⟩
theorem RCopyT_v (S:Store) (f:Ss.Fn) (hf:f.Fits) (hs:f.small=true):VCalls Tryz.prog 18 [ql f] S (jcG S f):=by
 have cr : ∀ S,VCalls Tryz.prog 57 [ql f, .nils] S (jcG S f):=fun S=>by
  have h:=RReplace_v S f [] hf hs (by simp);rw [Ss.replace_nil] at h;exact qI (GhostArgs.one [ql f] [] (Ghost.nils_list S)) h
 obtain ⟨⟨fi,fo⟩,ts,bs⟩:=f;have cr' : ∀ S,VCalls Tryz.prog 57 [.agg [vl vint fi,vl vint fo,vl vint ts,vl jb bs], .nils] S (jcG S ⟨⟨fi,fo⟩,ts,bs⟩):=cr
 refine qd (c:=jd Tryz.f18) Tryz.func18 rfl (by conv=>lhs; reduce) (by simp [Tryz.ntmps18]) ?_;rw [Tryz.ntmps18];intro hwf
 repeat first|refine QG ?_|refine QY ?_
 refine QH 1 0 ?_;refine QT ?_;refine QP ?_;refine jT rfl (cr' _) ?_;rintro X T ⟨hag,hwT,ot,ob,cells,ids,rfl,hot,hob,how,hnd,hids⟩;have hc:T.get (lid S.nx 1)=some (4,[.nils, .nils, .nils, .nils]):=by
  rw [hag.2 _ (by rw [jE]; simp [lid]),jv]; rfl
 have hcn:=jy hwT hc;have oc:=fun u l => @jk T u l _ hcn
 have uo:=fun u l c => @zp T u l c _ hcn
 refine Wy hwT ?_;refine QM (by conv=>lhs;simp[QV,hc,oc,uo]) ?_;refine QN ?_
 repeat first|refine QG ?_|refine QY ?_
 refine Zp (xs:=[.agg [vl vint fi,vl vint fo, .slice ot 0 ts.length, .slice ob 0 bs.length]]) (by simp [oc]) ?_;rw [jbl,YO hwT hcn];have hne : ∀ o∈ot::ob::ids,o≠lid S.nx 1:=fun o ho e=>by
  have:=(hids o ho).1;rw [e,jE] at this;simp [lid] at this
 have hag0:Agree S T:=⟨Nat.le_trans (by rw [jE,lid]; omega) hag.1,fun o ho=>(hag.2 o (by rw [jE,lid]; omega)).trans (by rw [jk ho]; rfl)⟩
 refine qZ ⟨⟨hag0.1,fun o ho => ?_⟩,jbk hwT hcn (by simp [(hids ob (by simp)).2,(hids ot (by simp)).2]),ot,ob,cells,ids,rfl, ?_, ?_, ?_,hnd,fun o ho=>⟨?_,(hids o ho).2⟩⟩
 ·rw [ju (by rw [lid]; omega)]; exact hag0.2 o ho
 ·rw [ju (hne ot (by simp))]; exact hot
 ·rw [ju (hne ob (by simp))]; exact hob
 ·exact how.mono fun o ho=>ju (hne o (by simp [ho]))
 ·have:=(hids o ho).1;rw [jE,lid] at this;omega
end Go.Vw
