import Derived.Test.YtkfllaokjaldnaaGreatC22
import Derived.Test.YtkfllaokjaldnaaGreatC20
import Derived.Test.YtkfllaokjaldnaaGreatC19
import Derived.Test.YtkfllaokjaldnaaGreatC13
import Derived.Test.YtkfllaokjaldnaaGreatC12
import Derived.Test.YtkfllaokjaldnaaGreatC21
/-
  Part of the proof (texts STerm, SChk, SCopy, SCut, SUsed, SRUsed, SChk2, SBlk, SSame2, SAlive, SAlive2, SLLess).
-/
set_option linter.unusedVariables false
set_option linter.unusedSimpArgs false
namespace Go.Vw
open Go.Proofs Go.RowKit
set_option maxRecDepth 10000
set_option maxHeartbeats 4000000
theorem jaY (t:Ss.Term):VPure Tryz.prog 76 [jbL t] (.bool (Ss.branches t)):=by
 intro S
 obtain ⟨k,a,to,az⟩:=t
 simp only [Ss.branches]
 refine jb (c:=jf Tryz.f76) Tryz.func76 rfl rfl (by simp [Tryz.ntmps76]) ?_
 rw [Tryz.ntmps76]
 intro hwf
 by_cases h:k=2
 ·repeat (first|refine QG ?_|refine QY ?_ (r:=by conv=>lhs;simp[-List.map_set,QV,h]))
  exact ja hwf (by simp [h]) rfl
 ·repeat (first|refine QG ?_|refine QY ?_ (r:=by conv=>lhs;simp[-List.map_set,QV,h]))
  exact ja hwf (by simp [h]) rfl
theorem term_v (e:Ss.Env) (f:Ss.Fn) (ds:List Ss.Def) (near:List Int) (i:Int) (b:Ss.Block) (hds:ds.length=f.types.length) (htl:f.types.length<2^63) (hnl:near.length<2^63) (hbl:f.blocks.length<2^63) (hol:f.sig.out.length<2^63)
  (hb:b.Fits) (hto : ∀ x∈b.term.to,0≤x.to∧x.to<f.blocks.length) (hps : ∀ b∈f.blocks,b.params.length≤1048576∧Ss.InTs f.types.length b.params) :
  VPure Tryz.prog 72 [ckV e f ds near,vint i,jd b] (.bool (Ss.termOk f ds near i b)):=by
 intro S
 obtain ⟨_,⟨hcl,_⟩,_,_,⟨htol,htf⟩,⟨haz,_⟩⟩:=hb
 have ca : ∀ l m:List Int,l.length<2^63→VPure Tryz.prog 109 [ckV e f ds near,vint i,vnat b.code.length,vl vint l,vl vint m] (.bool (Ss.asks f.types ds near i b.code.length l m)):=fun l m hl=>asks_v e f ds near i b.code.length l m hds htl hnl hl
 have ct : ∀ b∈f.blocks,VPure Tryz.prog 107 [ckV e f ds near,vl vint b.params] (vl vint (Ss.typesOf f.types b.params)):=fun b hb=>types_v e f ds near b.params (hps b hb).1 (hps b hb).2
 have cb:=jaY b.term
 obtain ⟨ps,code,⟨tk,ta,to,az⟩⟩:=b
 simp only at hcl htol htf haz hto ca
 have hTT : ∀ le mo rs,Ss.termTail f ds near i code.length ⟨tk,ta,to,az⟩ le mo rs=((if Ss.branches ⟨tk,ta,to,az⟩ then Ss.asks f.types ds near i code.length [ta] [127] else decide (ta=0))&&decide (le≤to.length)&&decide (to.length≤mo)&&Ss.asks f.types ds near i code.length az rs&&to.all (Ss.edgeOk f ds near i code.length)):=fun _ _ _=>rfl
 have hX:Ss.termOk f ds near i ⟨ps,code,⟨tk,ta,to,az⟩⟩=match Ss.termHead f.sig.out tk with
  | some (le,mo,rs)=>Ss.termTail f ds near i code.length ⟨tk,ta,to,az⟩ le mo rs
  | none=>false:=rfl
 rw [hX]
 generalize hbr:Ss.branches ⟨tk,ta,to,az⟩=br at *
 have cb':VPure Tryz.prog 76 [.agg [.int .i64 tk, .int .i64 ta,vl ji to,vl vint az]] (.bool br):=cb
 obtain ⟨⟨fi,fo⟩,ts,bs⟩:=f
 simp only at *
 refine jb (c:=jf Tryz.f72) Tryz.func72 rfl rfl (by simp [Tryz.ntmps72]) ?_
 rw [Tryz.ntmps72]
 intro hwf
 repeat refine QS ?_
 refine QP ?_
 refine QN ?_
 repeat refine QS ?_
 refine jQ (St S [] [some (6,[vl vint ps,vl jp code, .int .i64 tk, .int .i64 ta,vl ji to,vl vint az])]) (St S [] [some (6,[vl vint ps,vl jp code, .int .i64 tk, .int .i64 ta,vl ji to,vl vint az])]) [] rfl (by kernel_rfl) (by conv=>lhs; reduce) (by conv=>lhs; reduce) (by kernel_rfl) (by kernel_rfl) (jv (by simp [subU,shpU,subL,shpL])) (by conv=>lhs; simp [-List.map_set,QV]) ?_
 refine jg rfl (by conv=>lhs;simp[-List.map_set,QV]) (jv (by simp [subU,shpU,subL,shpL])) ?_
 refine QM (by conv=>lhs;simp[-List.map_set,QV]) ?_
 refine jg rfl (by conv=>lhs;simp[-List.map_set,QV]) (jv (by simp [subU,shpU,subL,shpL])) ?_
 refine QM (by conv=>lhs;simp[-List.map_set,QV]) ?_
 refine QN ?_
 repeat refine QS ?_
 refine QP ?_
 refine QN ?_
 repeat refine QS ?_
 refine QP ?_
 refine QN ?_
 refine jk 11 rfl ((Ghost.nils_list _)) (by conv=>lhs; simp [Fr.set]) ?_
 refine Ks rfl ?_
 refine Zd (fun σ S' => ∃ (le mo:Nat) (rs:List Int),Ss.termHead fo tk=some (le,mo,rs)∧le≤1000∧mo≤1000∧σ=[(0,ckV e ⟨⟨fi,fo⟩,ts,bs⟩ ds near),(1,vint i),(5, .ptr (lid S.nx 0) 0),(7, .ptr (lid S.nx 1) 0),(8,vnat code.length),(9,vnat le),(10,vnat mo),(11, .list (rs.map vint))]∧S'=St S [] [some (6,[vl vint ps,vl jp code, .int .i64 tk, .int .i64 ta,vl ji to,vl vint az]),some (4,[.int .i64 tk, .int .i64 ta,vl ji to,vl vint az])]) [0,1,5,7,8,9,10,11] ?_ ?_
 ·by_cases k1:tk=1
  ·subst k1
   repeat (first|refine QG ?_|refine QY ?_)
   exact ⟨1,1,[],rfl,by omega,by omega,by simp [Fr.only],rfl⟩
  by_cases k2:tk=2
  ·subst k2
   repeat (first|refine QG ?_|refine QY ?_)
   exact ⟨2,2,[],rfl,by omega,by omega,by simp [Fr.only],rfl⟩
  by_cases k3:tk=3
  ·subst k3
   repeat (first|refine QG ?_|refine QY ?_)
   exact ⟨1,65,[],rfl,by omega,by omega,by simp [Fr.only],rfl⟩
  by_cases k4:tk=4
  ·subst k4
   repeat (first|refine QG ?_|refine QY ?_)
   exact ⟨0,0,fo,rfl,by omega,by omega,by simp [Fr.only,vl],rfl⟩
  by_cases k5:tk=5
  ·subst k5
   repeat (first|refine QG ?_|refine QY ?_)
   exact ⟨0,0,[],rfl,by omega,by omega,by simp [Fr.only],rfl⟩
  have hn:Ss.termHead fo tk=none:=by simp [Ss.termHead,k1,k2,k3,k4,k5]
  rw [hn]
  repeat (first|refine QG ?_|refine QY ?_ (r:=by conv=>lhs;simp[-List.map_set,QV,k1,k2,k3,k4,k5]))
  exact ja hwf rfl rfl
 rintro σ S' ⟨le,mo,rs,hh,hle,hmo,rfl,rfl⟩
 rw [hh]
 simp only
 rw [hTT]
 generalize hA:(if br then Ss.asks ts ds near i code.length [ta] [127] else decide (ta=0))=A
 refine Ks rfl ?_
 refine vw_joinR (fun σ S'=>A=true∧σ=[(0,ckV e ⟨⟨fi,fo⟩,ts,bs⟩ ds near),(1,vint i),(7, .ptr (lid S.nx 1) 0),(8,vnat code.length),(9,vnat le),(10,vnat mo),(11, .list (rs.map vint))]∧S'=St S [] [some (6,[vl vint ps,vl jp code, .int .i64 tk, .int .i64 ta,vl ji to,vl vint az]),some (4,[.int .i64 tk, .int .i64 ta,vl ji to,vl vint az])]) [0,1,7,8,9,10,11] ?_ ?_
 ·repeat refine QS ?_
  refine QP ?_
  refine jc (cb') (by rfl) ?_
  by_cases h1:br=true
  ·have hA':A=Ss.asks ts ds near i code.length [ta] [127]:=by rw [←hA,if_pos h1]
   have c1:=ca [ta] [127] (by simp)
   rw [←hA'] at c1
   refine QM (by conv=>lhs;simp[-List.map_set,QV,h1]) ?_
   refine QN ?_
   repeat (first|refine QG ?_|refine QY ?_)
   repeat refine QS ?_
   refine QP ?_
   refine qW (xs':=[ckV e ⟨⟨fi,fo⟩,ts,bs⟩ ds near,vint i,vnat code.length,vl vint [ta],vl vint [127]]) rfl (GhostArgs.trans (GhostArgs.one [_,_,_] [_] (frz1 (k:=2) (len:=1) (by simp) (by rfl) (by rfl) (by rfl))) (GhostArgs.one [_,_,_,_] [] (frz1 (k:=3) (len:=1) (by simp) (by rfl) (by rfl) (by rfl)))) c1 ?_
   simp only [List.set_cons_succ,List.set_cons_zero]
   by_cases h2:A=true
   ·refine QM (by conv=>lhs;simp[-List.map_set,QV,h2]) ?_
    refine QN ?_
    repeat (first|refine QG ?_|refine QY ?_)
    refine mid_gc [0,1,7,8,9,10,11] [0,1] (by conv=>lhs; simp [Fr.only]) hwf (by decide) (by simp [-List.map_set]) (by conv=>lhs; simp [-List.map_set]) (by conv=>lhs; simp [-List.map_set]) (by conv=>lhs; simp [-List.map_set]) (⟨h2,by simp,rfl⟩)
   ·have h2':A=false:=by simpa using h2
    refine QM (by conv=>lhs;simp[-List.map_set,QV,h2']) ?_
    refine QN ?_
    repeat (first|refine QG ?_|refine QY ?_)
    exact ja hwf (by simp [h2']) rfl
  ·have h1':br=false:=by simpa using h1
   by_cases h2:ta=0
   ·have h2':A=true:=by rw [←hA,if_neg h1]; simp [h2]
    refine QM (by conv=>lhs;simp[-List.map_set,QV,h1']) ?_
    refine QN ?_
    repeat (first|refine QG ?_|refine QY ?_ (r:=by conv=>lhs;simp[-List.map_set,QV,h2]))
    refine mid_gc [0,1,7,8,9,10,11] [0,1] (by conv=>lhs; simp [Fr.only]) hwf (by decide) (by simp [-List.map_set]) (by conv=>lhs; simp [-List.map_set]) (by conv=>lhs; simp [-List.map_set]) (by conv=>lhs; simp [-List.map_set]) (⟨h2',by simp,by simp [h2]⟩)
   ·have h2':A=false:=by rw [←hA,if_neg h1]; simp [h2]
    refine QM (by conv=>lhs;simp[-List.map_set,QV,h1']) ?_
    refine QN ?_
    repeat (first|refine QG ?_|refine QY ?_ (r:=by conv=>lhs;simp[-List.map_set,QV,h2]))
    exact ja hwf (by simp [h2']) rfl
 rintro σ S' ⟨hAt,rfl,rfl⟩
 rw [hAt,Bool.true_and]
 have c2:=ca az rs (by omega)
 generalize Ss.asks ts ds near i code.length az rs=B at *
 by_cases h1:(to.length:Int)<(le:Int)
 ·repeat (first|refine QG ?_|refine QY ?_ (r:=by conv=>lhs;simp[-List.map_set,QV,h1]))
  exact ja hwf (by simp; omega) rfl
 by_cases h2:(mo:Int)<(to.length:Int)
 ·repeat (first|refine QG ?_|refine QY ?_ (r:=by conv=>lhs;simp[-List.map_set,QV,h1,h2]))
  exact ja hwf (by simp; omega) rfl
 have hlm:(decide (le≤to.length)&&decide (to.length≤mo))=true:=by simp; omega
 rw [hlm,Bool.true_and]
 repeat (first|refine QG ?_|refine QY ?_ (r:=by conv=>lhs;simp[-List.map_set,QV,h1,h2]))
 repeat refine QS ?_
 refine QP ?_ (r:=by conv=>lhs;simp[-List.map_set,QV,h1,h2])
 refine jc (c2) (by rfl) ?_
 by_cases h3:B=true
 case neg =>
  have h3':B=false:=by simpa using h3
  refine QM (by conv=>lhs;simp[-List.map_set,QV,h3']) ?_
  refine QN ?_
  repeat (first|refine QG ?_|refine QY ?_)
  exact ja hwf (by simp [h3']) rfl
 rw [h3,Bool.true_and]
 refine QM (by conv=>lhs;simp[-List.map_set,QV,h3]) ?_
 refine QN ?_
 repeat (first|refine QG ?_|refine QY ?_)
 repeat refine QS ?_
 refine je [0,1,8,74,75,76] rfl (fun c σ S' => ∃ (k:Nat),k≤to.length∧c=to.length-k∧(to.drop k).all (Ss.edgeOk ⟨⟨fi,fo⟩,ts,bs⟩ ds near i code.length)=to.all (Ss.edgeOk ⟨⟨fi,fo⟩,ts,bs⟩ ds near i code.length)∧σ=[(0,ckV e ⟨⟨fi,fo⟩,ts,bs⟩ ds near),(1,vint i),(8,vnat code.length),(74,vl ji to),(75,vnat to.length),(76,vnat k)]∧S'=St S [] [some (6,[vl vint ps,vl jp code, .int .i64 tk, .int .i64 ta,vl ji to,vl vint az]),some (4,[.int .i64 tk, .int .i64 ta,vl ji to,vl vint az])]) to.length ?_ ?_
 ·exact ⟨0,by omega,rfl,rfl,by simp [Fr.only],rfl⟩
 ·rintro c σ T ⟨k,hk,rfl,hd,rfl,rfl⟩
  by_cases hkt:k<to.length
  ·have hw:=jo hkt (by omega)
   have hst:=Ss.drop_all (Ss.edgeOk ⟨⟨fi,fo⟩,ts,bs⟩ ds near i code.length) hkt
   obtain ⟨t0,t1⟩:=hto _ (List.getElem_mem hkt)
   have htk:=htf _ (List.getElem_mem hkt)
   obtain ⟨⟨xt,xa⟩,hx⟩ : ∃ x,to[k]=x:=⟨_,rfl⟩
   rw [hx] at hst t0 t1 htk
   simp only at t0 t1
   obtain ⟨_,⟨hxl,_⟩⟩:=htk
   simp only at hxl
   by_cases h0:xt=0
   ·have he:Ss.edgeOk ⟨⟨fi,fo⟩,ts,bs⟩ ds near i code.length ⟨xt,xa⟩=false:=by simp [Ss.edgeOk,h0]
    rw [he] at hst
    repeat (first|refine QG ?_|refine QY ?_ (r:=by conv=>lhs;simp[-List.map_set,QV,hkt,hx,h0]))
    exact ja hwf (by rw [←hd,hst]; rfl) rfl
   obtain ⟨n,rfl⟩ : ∃ n:Nat,xt=n:=⟨xt.toNat,by omega⟩
   have hn:n<bs.length:=by omega
   have ctn:=ct _ (List.getElem_mem hn)
   obtain ⟨⟨qs,qc,⟨q1,q2,q3,q4⟩⟩,hq⟩ : ∃ b,bs[n]=b:=⟨_,rfl⟩
   rw [hq] at ctn
   have ce:=ca xa (Ss.typesOf ts qs) (by omega)
   have he:Ss.edgeOk ⟨⟨fi,fo⟩,ts,bs⟩ ds near i code.length ⟨n,xa⟩=Ss.asks ts ds near i code.length xa (Ss.typesOf ts qs):=by
    simp only [Ss.edgeOk,h0,decide_false,Bool.not_false,Bool.true_and]
    simp [hn,hq]
   rw [he] at hst
   simp only at ctn
   generalize Ss.asks ts ds near i code.length xa (Ss.typesOf ts qs)=C at *
   generalize Ss.typesOf ts qs=tq at *
   have h0' : ¬ n=0:=by omega
   repeat (first|refine QG ?_|refine QY ?_ (r:=by conv=>lhs;simp[-List.map_set,QV,hkt,hx,h0,h0',hn,hq]))
   repeat refine QS ?_
   refine QD (r:=by conv=>lhs;simp[-List.map_set,QV,hkt,hx,h0,h0',hn,hq]) (k:=?_)
   refine jc (ctn) (by rfl) ?_
   refine QM (by conv=>lhs;simp[-List.map_set,QV,hkt,hx,h0,h0',hn,hq]) ?_
   refine jc (ce) (by rfl) ?_
   by_cases h9:C=true
   ·refine QM (by conv=>lhs;simp[-List.map_set,QV,h9]) ?_
    refine QN ?_
    repeat (first|refine QG ?_|refine QY ?_)
    refine QA [0,1] (h:=⟨?_,k+1,hkt,rfl,by rw [←hd,hst,h9,Bool.true_and],by simp [hw],rfl⟩)
    omega
   ·have h9':C=false:=by simpa using h9
    refine QM (by conv=>lhs;simp[-List.map_set,QV,h9']) ?_
    refine QN ?_
    repeat (first|refine QG ?_|refine QY ?_)
    exact ja hwf (by rw [←hd,hst,h9']; rfl) rfl
  ·rw [Ss.drop_all_end _ hkt] at hd
   rw [←hd]
   repeat (first|refine QG ?_|refine QY ?_ (r:=by conv=>lhs;simp[-List.map_set,QV,hkt]))
   exact ja hwf rfl rfl
end Go.Vw

namespace Ss
def checkCode (e:Env) (f:Fn) (ds:List Def) (near:List Int) (i:Int):Nat→List Ins→Bool
 | _,[]=>true
 | k,x::r=>insOk e f ds near i k x&&checkCode e f ds near i (k+1) r
def checkBlocks (e:Env) (f:Fn) (ds:List Def) (near:List Int):Nat→List Block→Bool
 | _,[]=>true
 | i,b::bs=>checkCode e f ds near i 0 b.code&&termOk f ds near i b&&checkBlocks e f ds near (i+1) bs
def checkHead (e:Env) (f:Fn):Bool:=e.right&&f.small&&decide (f.blocks.length≤256)&&kinds 2048 f.types&&f.sig.right&&f.blocks.all fun b=>decide (b.params.length≤256)
def check (e:Env) (f:Fn):Bool:=checkHead e f&&match defsOf f with
 | none=>false
 | some ds=>shapeOk f&&checkBlocks e f ds (Go.Vw.G.nearI (succs f.blocks)) 0 f.blocks
theorem put_in {block pos:Int} : ∀ {l:List Int} {ds d:List Def},put block pos ds l=some d→InTs ds.length l
 | [],ds,d,h=>by intro v hv; cases hv
 | v::l,ds,d,h=>by
  simp only [put] at h
  split at h
  ·cases h
  ·rename_i hn
   have h1:=put_in h
   intro x hx
   rcases List.mem_cons.1 hx with rfl | hx
   ·have k1 : ¬ x<0:=fun h=>hn (.inl h)
    have k2 : ¬ (ds.length:Int)≤x:=fun h=>hn (.inr (.inl h))
    exact ⟨by omega,by omega⟩
   ·have:=h1 x hx
    simpa using this
theorem WR {i:Int} : ∀ {l:List Ins} {k:Nat} {ds d:List Def},putCode i k ds l=some d→d.length=ds.length ∧ ∀ x∈l,InTs ds.length x.outs
 | [],k,ds,d,h=>by simp only [putCode,Option.some.injEq] at h; subst h; exact ⟨rfl,by simp⟩
 | x::l,k,ds,d,h=>by
  simp only [putCode] at h
  obtain ⟨d1,h1,h2⟩:=Option.bind_eq_some_iff.1 h
  obtain ⟨k1,k2⟩:=WR h2
  have e1:=WQ h1
  refine ⟨k1.trans e1,fun y hy => ?_⟩
  rcases List.mem_cons.1 hy with rfl | hy
  ·exact put_in h1
  ·rw [←e1]; exact k2 y hy
theorem Yt : ∀ {l:List Block} {i:Nat} {ds d:List Def},putBlocks i ds l=some d→d.length=ds.length ∧ ∀ b∈l,InTs ds.length b.params ∧ ∀ x∈b.code,InTs ds.length x.outs
 | [],i,ds,d,h=>by simp only [putBlocks,Option.some.injEq] at h; subst h; exact ⟨rfl,by simp⟩
 | b::l,i,ds,d,h=>by
  simp only [putBlocks] at h
  obtain ⟨d2,h1,h2⟩:=Option.bind_eq_some_iff.1 h
  obtain ⟨d1,h3,h4⟩:=Option.bind_eq_some_iff.1 h1
  have e1:=WQ h3
  obtain ⟨e2,k2⟩:=WR h4
  obtain ⟨e3,k3⟩:=Yt h2
  refine ⟨by omega,fun y hy => ?_⟩
  rcases List.mem_cons.1 hy with rfl | hy
  ·exact ⟨put_in h3,fun x hx=>by rw [←e1]; exact k2 x hx⟩
  ·have:=k3 y hy
   rw [show ds.length=d2.length by omega]; exact this
theorem defs_in {f:Fn} {ds:List Def} (h:defsOf f=some ds):ds.length=f.types.length ∧ ∀ b∈f.blocks,InTs f.types.length b.params ∧ ∀ x∈b.code,InTs f.types.length x.outs:=by
 have:=Yt h
 simpa using this
theorem right_to {f:Fn} (h:Go.Vw.G.right (succs f.blocks)=true) : ∀ b∈f.blocks, ∀ x∈b.term.to,0≤x.to∧x.to<f.blocks.length:=by
 intro b hb x hx
 simp only [Go.Vw.G.right,Bool.and_eq_true,List.all_eq_true] at h
 have h1:=h.2 (rowOf b) (List.mem_map.2 ⟨b,hb,rfl⟩)
 have h2:=(Go.Vw.G.rowOk_iff.1 h1).2 x.to (List.mem_map.2 ⟨x,hx,rfl⟩)
 simpa [succs] using h2
end Ss
namespace Go.Vw
open Go.Proofs Go.RowKit
set_option maxRecDepth 10000
set_option maxHeartbeats 4000000
theorem lid_lid (b j k:Nat):lid (lid b j) k=lid b (j+k):=by simp [lid]; omega
theorem St_St {B:Store} {u:Upds} {l:List (Option (Nat × List V))} {o:Nat} {c d:Nat × List V} (ho:o<(St B u l).nx):St (St B u l) [(o,some c)] [some d]=((St B u l).upd o c).add d:=by
 refine Store.ext' (funext fun o' => ?_) rfl
 rw [zP,Kq,qf]
 by_cases h:o'<(St B u l).nx
 ·rw [if_pos h]
  have hn : ¬ o'=((St B u l).upd o c).nx:=by show ¬ o'=(St B u l).nx; omega
  rw [if_neg hn]
  simp only [uGet]
 ·rw [if_neg h]
  by_cases e:o'=(St B u l).nx
  ·subst e
   have:(St B u l).nx=((St B u l).upd o c).nx:=rfl
   rw [if_pos this]; simp
  ·have hn : ¬ o'=((St B u l).upd o c).nx:=e
   rw [if_neg hn,if_neg (by omega),zP]
   have hnx:(St B u l).nx=B.nx+l.length:=by rw [qn]; rfl
   rw [if_neg (by omega),List.getElem?_eq_none (l:=l) (by omega),List.getElem?_eq_none (by rw [List.length_singleton]; omega)]
theorem Reach.frzCellS {α:Type} {enc:α→V} {s:Nat} (hs : ∀ a,(enc a).cells.length=s) (hcl : ∀ a,(enc a).closed=true) {N b0:Nat} {σ:Fr} {B:Store} {u:Upds} {l:List (Option (Nat × List V))} {k j i s':Nat} {cs:List V} (ls:List α) (hkj:k≠j) (hk:k<l.length) (hj:j<l.length) (hck:(l[k]?).join=some (s',cs)) (hi:cs[i]? = some (.slice (lid B.nx j) 0 ls.length))
  (hcj:(l[j]?).join=some (s,jq enc ls)):Reach N b0 σ (St B u l) σ (St B u ((l.set j none).set k (some (s',cs.set i (vl enc ls))))):=by
 have hg:Ghost (.slice (lid B.nx j) 0 ls.length) (St B u l) (vl enc ls) (St B u (l.set j none)):=frzSt hs hcl ls hj hcj
 have:=Reach.cell (N:=N) (b0:=b0) (σ:=σ) (o:=lid B.nx k) (i:=i) (s:=s') (cs:=cs) hg (by simp [V.one]) (by rw [jL]; exact hck) hi (by rw [jL,List.getElem?_set_ne (Ne.symm hkj)]; exact hck)
 rw [JC (by simpa using hk)] at this
 exact this
theorem jbR {e:Ss.Env} {f:Ss.Fn} {ds:List Ss.Def} {near:List Int} {i:Int} {k:Nat} {l:List Ss.Ins} (h:k<l.length):Ss.checkCode e f ds near i k (l.drop k)=(Ss.insOk e f ds near i k l[k]&&Ss.checkCode e f ds near i (k+1) (l.drop (k+1))):=by
 rw [List.drop_eq_getElem_cons h,Ss.checkCode]
theorem jac {e:Ss.Env} {f:Ss.Fn} {ds:List Ss.Def} {near:List Int} {i:Nat} {l:List Ss.Block} (h:i<l.length):Ss.checkBlocks e f ds near i (l.drop i)=(Ss.checkCode e f ds near i 0 l[i].code&&Ss.termOk f ds near i l[i]&&Ss.checkBlocks e f ds near (i+1) (l.drop (i+1))):=by
 rw [List.drop_eq_getElem_cons h,Ss.checkBlocks]
end Go.Vw

namespace Ss
def putv (to:List Int) (v:Int):Int:=if 0≤v∧v<to.length then to.getD v.toNat 0 else v
def repIns (to:List Int) (x:Ins):Ins:=⟨x.op,x.n,x.args.map (putv to),x.outs⟩
def repEdge (to:List Int) (x:Edge):Edge:=⟨x.to,x.args.map (putv to)⟩
def repTerm (to:List Int) (t:Term):Term:=⟨t.kind,if t.kind=2∨t.kind=3 then putv to t.arg else t.arg,t.to.map (repEdge to),t.args.map (putv to)⟩
def repBlock (to:List Int) (b:Block):Block:=⟨b.params,b.code.map (repIns to),repTerm to b.term⟩
def replace (f:Fn) (to:List Int):Fn:=⟨f.sig,f.types,f.blocks.map (repBlock to)⟩
theorem jbw:putv []=fun v=>v:=by funext v; simp [putv]; omega
theorem repIns_nil (x:Ins):repIns [] x=x:=by simp [repIns,jbw]
theorem repEdge_nil (x:Edge):repEdge [] x=x:=by simp [repEdge,jbw]
theorem repTerm_nil (t:Term):repTerm [] t=t:=by
 have:repEdge []=id:=by funext x; exact repEdge_nil x
 simp [repTerm,jbw,this]
theorem repBlock_nil (b:Block):repBlock [] b=b:=by
 have:repIns []=id:=by funext x; exact repIns_nil x
 simp [repBlock,repTerm_nil,this]
theorem replace_nil (f:Fn):replace f []=f:=by
 have:repBlock []=id:=by funext x; exact repBlock_nil x
 simp [replace,this]
end Ss
namespace Go.Vw
open Go.Proofs Go.RowKit
set_option maxRecDepth 10000
set_option maxHeartbeats 1000000
abbrev blkT:List Ty:=[.c, .s (List.replicate 4 .c), .c, .c, .c, .c]
abbrev fnT:List Ty:=[.c, .c, .c, .s blkT]
def CopiedT (S:Store) (g:Ss.Fn) (r:V) (T:Store):Prop:=Agree S T∧T.Wf ∧ ∃ (ot ob:Nat) (cells:List V) (ids:List Nat),r = .agg [vl vint g.sig.inn,vl vint g.sig.out, .slice ot 0 g.types.length, .slice ob 0 g.blocks.length]∧T.get ot=some (1,g.types.map vint)∧T.get ob=some (6,cells)∧OwL T (reps g.blocks.length blkT) cells (jq jd g.blocks) ids∧(ot::ob::ids).Nodup ∧ ∀ o∈ot::ob::ids,S.nx≤o∧o<T.nx
def Copied (S:Store) (g:Ss.Fn) (r:V) (T:Store):Prop:=Agree S T∧T.Wf ∧ ∃ (ob:Nat) (cells:List V) (ids:List Nat),r = .agg [vl vint g.sig.inn,vl vint g.sig.out,vl vint g.types, .slice ob 0 g.blocks.length]∧T.get ob=some (6,cells)∧OwL T (reps g.blocks.length blkT) cells (jq jd g.blocks) ids∧(ob::ids).Nodup ∧ ∀ o∈ob::ids,S.nx≤o∧o<T.nx
theorem Agree.St {S B:Store} {l:List (Option (Nat × List V))} (h:Agree S B):Agree S (St B [] l):=by
 refine ⟨by rw [qn,lid]; have:=h.1; omega,fun o ho => ?_⟩
 rw [ju (Nat.lt_of_lt_of_le ho h.1)]
 exact h.2 o ho
theorem Copied.mono {S S':Store} {g:Ss.Fn} {r:V} {T:Store} (h:Copied S' g r T) (hag:Agree S S'):Copied S g r T:=by
 obtain ⟨h1,h2,ob,cells,ids,h3,h4,h5,h6,h7⟩:=h
 have hle:=hag.1
 exact ⟨⟨Nat.le_trans hle h1.1,fun o ho=>(h1.2 o (Nat.lt_of_lt_of_le ho hle)).trans (hag.2 o ho)⟩,h2,ob,cells,ids,h3,h4,h5,h6,fun o ho=>⟨Nat.le_trans hle (h7 o ho).1,(h7 o ho).2⟩⟩
end Go.Vw

namespace Ss
def cutB (b:Block) (k:Nat):Block:=⟨b.params,b.code.take k++b.code.drop (k+1),b.term⟩
def cut (f:Fn) (i k:Nat):Fn:=⟨f.sig,f.types,f.blocks.set i (cutB (f.blocks.getD i default) k)⟩
end Ss
namespace Go.Vw
open Go.Proofs Go.RowKit
set_option maxRecDepth 10000
set_option maxHeartbeats 2000000
end Go.Vw

namespace Ss
def mark1 (o:List Bool) (v:Int):List Bool:=if 0≤v∧v<o.length then o.set v.toNat true else o
def mark (o:List Bool) (l:List Int):List Bool:=l.foldl mark1 o
def usedB (o:List Bool) (b:Block):List Bool :=
 b.term.to.foldl (fun o t=>mark o t.args) (if branches b.term then mark (mark (b.code.foldl (fun o x=>mark o x.args) o) b.term.args) [b.term.arg] else mark (b.code.foldl (fun o x=>mark o x.args) o) b.term.args)
def usedOf (f:Fn):List Bool:=f.blocks.foldl usedB (List.replicate f.types.length false)
end Ss
namespace Go.Vw
open Go.Proofs Go.RowKit
set_option maxRecDepth 10000
set_option maxHeartbeats 4000000
end Go.Vw

namespace Ss
def asksT (t:Term):List Int:=(if t.kind=2∨t.kind=3 then [t.arg] else [])++t.to.flatMap (fun x=>x.args)++t.args
def asksB (b:Block):List Int:=asksT b.term++b.code.flatMap (fun x=>x.args)
def rusedOf (f:Fn):List Bool:=f.blocks.foldl (fun o b=>mark o (asksB b)) (List.replicate f.types.length false)
end Ss
namespace Go.Vw
open Go.Proofs Go.RowKit
set_option maxRecDepth 10000
set_option maxHeartbeats 2000000
theorem qy (l:List Int):jq vint l=l.map vint:=by
 induction l with
 | nil=>rfl
 | cons x l ih =>
  simp only [jq,List.flatMap_cons,List.map_cons] at ih ⊢
  rw [ih]; rfl
theorem renL_repb (f:Nat→Nat) (n:Nat) (b:Bool):V.renL f (List.replicate n (V.bool b))=List.replicate n (V.bool b):=by rw [rep_bool,Zu]
theorem idsL_repb (p:Nat→Bool) (n:Nat) (b:Bool):V.idsL p (List.replicate n (V.bool b))=true:=by rw [rep_bool,ZQ]
end Go.Vw

namespace Go.Vw
open Go.Proofs Go.RowKit
set_option maxRecDepth 10000
set_option maxHeartbeats 8000000
theorem Check_v (e:Ss.Env) (f:Ss.Fn) (he:e.Fits) (hf:f.Fits):VPure Tryz.prog 23 [zj e,qT f] (.bool (Ss.check e f)):=by
 intro S
 have cer:=EnvRight_v e he
 have csm:=jbh f hf
 have hsb := @qo f
 have ckt:VPure Tryz.prog 65 [.int .i64 2048,vl vint f.types] (.bool (Ss.kinds 2048 f.types)):=jbE 2048 f.types (by have:=hf.2.1.1; omega)
 have csr:=jaz f.sig hf.1
 have cpa:=AnyB_v f.blocks (fun b=>decide (256<b.params.length)) 68 [] rfl (by have:=hf.2.2.1; omega) (fun b _=>check1_v b)
 have hpa:(f.blocks.all fun b=>decide (b.params.length≤256)) = !(f.blocks.any fun b=>decide (256<b.params.length)):=by
  rw [List.not_any_eq_all_not]; congr 1; funext b; by_cases h:b.params.length≤256<;>simp [h]<;>omega
 have hH:Ss.checkHead e f=(e.right&&f.small&&decide (f.blocks.length≤256)&&Ss.kinds 2048 f.types&&f.sig.right && !(f.blocks.any fun b=>decide (256<b.params.length))):=by rw [←hpa]; rfl
 have hX:Ss.check e f=(Ss.checkHead e f&&match Ss.defsOf f with
  | none=>false
  | some ds=>Ss.shapeOk f&&Ss.checkBlocks e f ds (G.nearI (Ss.succs f.blocks)) 0 f.blocks):=rfl
 have hks:Ss.kinds 2048 f.types=true→f.types.length≤2048:=by
  intro h; simp only [Ss.kinds,Bool.and_eq_true,decide_eq_true_eq] at h; exact h.1
 have her:e.right=true→e.muts.length=e.globals.length:=by
  intro h; simp only [Ss.Env.right,Bool.and_eq_true,decide_eq_true_eq] at h; exact h.1.1.2
 rw [hX,hH]
 generalize (f.blocks.any fun b=>decide (256<b.params.length))=pa at *
 generalize e.right=er at *
 generalize hsm:f.small=sm at *
 generalize Ss.kinds 2048 f.types=kt at *
 generalize f.sig.right=sr at *
 have hsl:=he.1.1
 have hgl:=he.2.2.1.1
 obtain ⟨sg,im,gl,mu,me⟩:=e
 obtain ⟨⟨fi,fo⟩,ts,bs⟩:=f
 simp only at *
 have cer':VPure Tryz.prog 63 [.agg [vl jJ sg, .int .i64 im,vl vint gl,vl V.bool mu, .bool me]] (.bool er):=cer
 have csm':VPure Tryz.prog 64 [.agg [vl vint fi,vl vint fo,vl vint ts,vl jd bs]] (.bool sm):=csm
 have csr':VPure Tryz.prog 66 [.agg [vl vint fi,vl vint fo]] (.bool sr):=csr
 generalize hZ:(match Ss.defsOf ⟨⟨fi,fo⟩,ts,bs⟩ with
  | none=>false
  | some ds=>Ss.shapeOk ⟨⟨fi,fo⟩,ts,bs⟩&&Ss.checkBlocks ⟨sg,im,gl,mu,me⟩ ⟨⟨fi,fo⟩,ts,bs⟩ ds (G.nearI (Ss.succs bs)) 0 bs)=Z
 refine jb (c:=jf Tryz.f23) Tryz.func23 rfl rfl (by simp [Tryz.ntmps23]) ?_
 rw [Tryz.ntmps23]
 intro hwf
 repeat (first|refine QG ?_|refine QY ?_)
 repeat refine QS ?_
 refine QP ?_
 refine jc (cer') (by rfl) ?_
 by_cases h1:er=true
 case neg =>
  have h1':er=false:=by simpa using h1
  refine QM (by conv=>lhs;simp[-List.map_set,QV,h1']) ?_
  refine QN ?_
  repeat (first|refine QG ?_|refine QY ?_)
  exact ja hwf (by simp [h1']) rfl
 refine QM (by conv=>lhs;simp[-List.map_set,QV,h1]) ?_
 refine jc (csm') (by rfl) ?_
 by_cases h2:sm=true
 case neg =>
  have h2':sm=false:=by simpa using h2
  refine QM (by conv=>lhs;simp[-List.map_set,QV,h2']) ?_
  refine QN ?_
  repeat (first|refine QG ?_|refine QY ?_)
  exact ja hwf (by simp [h2']) rfl
 by_cases h3:(256:Int)<(bs.length:Int)
 ·refine QM (by conv=>lhs;simp[-List.map_set,QV,h2,h3]) ?_
  refine QN ?_
  repeat (first|refine QG ?_|refine QY ?_)
  exact ja hwf (by rw [show decide (bs.length≤256)=false by simp; omega]; simp) rfl
 have h3':bs.length≤256:=by omega
 refine QM (by conv=>lhs;simp[-List.map_set,QV,h2,h3]) ?_
 refine jc (ckt) (by rfl) ?_
 by_cases h4:kt=true
 case neg =>
  have h4':kt=false:=by simpa using h4
  refine QM (by conv=>lhs;simp[-List.map_set,QV,h4']) ?_
  refine QN ?_
  repeat (first|refine QG ?_|refine QY ?_)
  exact ja hwf (by simp [h4']) rfl
 refine QM (by conv=>lhs;simp[-List.map_set,QV,h4]) ?_
 refine jc (csr') (by rfl) ?_
 by_cases h5:sr=true
 case neg =>
  have h5':sr=false:=by simpa using h5
  refine QM (by conv=>lhs;simp[-List.map_set,QV,h5']) ?_
  refine QN ?_
  repeat (first|refine QG ?_|refine QY ?_)
  exact ja hwf (by simp [h5']) rfl
 rw [h1,h2,h4,h5,decide_eq_true h3']
 simp only [Bool.true_and]
 have htl:=hks h4
 obtain ⟨_,_,hsf,_⟩:=hsb h2
 refine QM (by conv=>lhs;simp[-List.map_set,QV,h5]) ?_
 refine QN ?_
 repeat (first|refine QG ?_|refine QY ?_)
 repeat refine QS ?_
 refine QP ?_
 refine jc (cpa) (by rfl) ?_
 by_cases h6:pa=true
 ·refine QM (by conv=>lhs;simp[-List.map_set,QV,h6]) ?_
  refine QN ?_
  repeat (first|refine QG ?_|refine QY ?_)
  exact ja hwf (by simp [h6]) rfl
 have h6':pa=false:=by simpa using h6
 rw [h6']
 simp only [Bool.not_false,Bool.true_and]
 refine QM (by conv=>lhs;simp[-List.map_set,QV,h6']) ?_
 refine qd rfl (define_v _ ⟨sg,im,gl,mu,me⟩ ⟨⟨fi,fo⟩,ts,bs⟩ (lid S.nx 2) hf (by simp only; omega) (by simp)) ?_
 rintro X S' ⟨ds,hdl,rfl,hdd,rfl⟩
 rw [St_St (by rw [qn]; simp [lid]),JC (by simp),jai,qn,lid_lid]
 simp only [List.set_cons_succ,List.set_cons_zero,List.cons_append,List.nil_append,List.length_cons,List.length_nil,Nat.zero_add,Nat.add_zero]
 cases hdf:Ss.defsOf ⟨⟨fi,fo⟩,ts,bs⟩ with
 | none =>
  rw [hdf] at hZ
  simp only at hZ
  obtain ⟨z,hz⟩ : ∃ z,(none:Option (List Ss.Def)).isSome=z:=⟨_,rfl⟩
  have hz':z=false:=by rw [←hz]; rfl
  rw [hz]
  refine QM (by conv=>lhs;simp[-List.map_set,QV,hz']) ?_
  refine QN ?_
  repeat (first|refine QG ?_|refine QY ?_)
  exact ja hwf (by simp [←hZ]) rfl
 | some ds2 =>
  obtain rfl:=hdd _ hdf
  rw [hdf] at hZ
  simp only at hZ
  obtain ⟨hdl2,hdin⟩:=Ss.defs_in hdf
  simp only at hdin
  obtain ⟨z,hz⟩ : ∃ z,(some ds:Option (List Ss.Def)).isSome=z:=⟨_,rfl⟩
  have hz':z=true:=by rw [←hz]; rfl
  rw [hz]
  refine QM (by conv=>lhs;simp[-List.map_set,QV,hz']) ?_
  refine qd rfl (shape_v _ ⟨sg,im,gl,mu,me⟩ ⟨⟨fi,fo⟩,ts,bs⟩ (lid S.nx 2) (lid S.nx 3) hf (hsm.trans h2) (by simp [hdl]) (by simp [lid]) (fun b hb=>(hdin b hb).1)) ?_
  rintro X S' ⟨nv,hnv,rfl,hnvv,rfl⟩
  rw [JC (by simp)]
  simp only [List.set_cons_succ,List.set_cons_zero]
  generalize hso:Ss.shapeOk ⟨⟨fi,fo⟩,ts,bs⟩=so at *
  by_cases h7:so=true
  case neg =>
   have h7':so=false:=by simpa using h7
   refine QM (by conv=>lhs;simp[-List.map_set,QV,h7']) ?_
   refine QN ?_
   repeat (first|refine QG ?_|refine QY ?_)
   exact ja hwf (by simp [←hZ,h7']) rfl
  have hnv2:=hnvv h7
  subst hnv2
  rw [h7,Bool.true_and] at hZ
  have hright:G.right (Ss.succs bs)=true:=by
   have:=hso.trans h7
   simp only [Ss.shapeOk,Bool.and_eq_true] at this
   exact this.1.1.1.1
  have hto:=Ss.right_to (f:=⟨⟨fi,fo⟩,ts,bs⟩) hright
  simp only at hto
  have hnl:=G.nearI_len (Ss.succs bs)
  generalize hnr:G.nearI (Ss.succs bs)=near at *
  refine QM (by conv=>lhs;simp[-List.map_set,QV,h7]) ?_
  refine QN ?_
  apply jt
  ·exact Reach.frzCellS (enc:=qI) (s:=3) (fun _=>rfl) zr (k:=2) (j:=3) (i:=9) ds (by decide) (by simp) (by simp) (by rfl) (by rw [hdl]; rfl) (by rfl)
  simp only [List.set_cons_succ,List.set_cons_zero]
  refine jk 5 rfl ((JU (k:=2) (by simp) (by rfl) (by rfl) (by simp))) (by conv=>lhs; simp [Fr.set]) ?_
  simp only [List.set_cons_succ,List.set_cons_zero]
  repeat (first|refine QG ?_|refine QY ?_)
  refine jO [5,54,55,56] (by conv=>lhs; simp [Fr.only,Fr.look]) ?_
  refine zQ [] hwf (by decide) (by simp [-List.map_set]) (by conv=>lhs; simp [-List.map_set]) (by conv=>lhs; simp [-List.map_set]) (by conv=>lhs; simp [-List.map_set]) ?_
  have ci : ∀ (i k:Nat) (b:Ss.Block) (x:Ss.Ins),b∈bs→x∈b.code→VPure Tryz.prog 71 [ckV ⟨sg,im,gl,mu,me⟩ ⟨⟨fi,fo⟩,ts,bs⟩ ds near,vnat i,vnat k,jp x] (.bool (Ss.insOk ⟨sg,im,gl,mu,me⟩ ⟨⟨fi,fo⟩,ts,bs⟩ ds near i k x)):=by
   intro i k b x hb hx
   have hbF:=hf.2.2.2 b hb
   have hxF:=hbF.2.1.2 x hx
   have hsmb:=((Ss.small_iff _).1 (hsm.trans h2)).2.1 b hb
   simp only [Ss.Block.small,Bool.and_eq_true,List.all_eq_true,Ss.Ins.small,decide_eq_true_eq] at hsmb
   have hxl:=(hsmb.1.2 x hx).2
   exact ins_v ⟨sg,im,gl,mu,me⟩ ⟨⟨fi,fo⟩,ts,bs⟩ ds near i k x hsl hgl (her h1) hdl (by simp only; omega) (by omega) hxF (by omega) ((hdin b hb).2 x hx)
  have ctm : ∀ (i:Nat) (b:Ss.Block),b∈bs→VPure Tryz.prog 72 [ckV ⟨sg,im,gl,mu,me⟩ ⟨⟨fi,fo⟩,ts,bs⟩ ds near,vnat i,jd b] (.bool (Ss.termOk ⟨⟨fi,fo⟩,ts,bs⟩ ds near i b)):=fun i b hb =>
   term_v ⟨sg,im,gl,mu,me⟩ ⟨⟨fi,fo⟩,ts,bs⟩ ds near i b hdl (by simp only; omega) (by omega) (by simp only; omega) (by have:=hf.1.2.1; simp only at this ⊢; omega) (hf.2.2.2 b hb) (hto b hb) (fun b hb=>⟨by have:=(hsf b hb).1; omega,(hdin b hb).1⟩)
  repeat refine QS ?_
  refine je [5,54,55,56] rfl (fun c σ S' => ∃ (k:Nat),k≤bs.length∧c=bs.length-k∧Ss.checkBlocks ⟨sg,im,gl,mu,me⟩ ⟨⟨fi,fo⟩,ts,bs⟩ ds near k (bs.drop k)=Z∧σ=[(5,ckV ⟨sg,im,gl,mu,me⟩ ⟨⟨fi,fo⟩,ts,bs⟩ ds near),(54,vl jd bs),(55,vnat bs.length),(56,vnat k)]∧S'=St S [] []) bs.length ?_ ?_
  ·exact ⟨0,by omega,rfl,hZ,by simp [Fr.only],rfl⟩
  ·rintro c σ T ⟨k,hk,rfl,hcb,rfl,rfl⟩
   by_cases hkt:k<bs.length
   ·have hw:=jo hkt (by omega)
    have hst:=jac (e:=⟨sg,im,gl,mu,me⟩) (f:=⟨⟨fi,fo⟩,ts,bs⟩) (ds:=ds) (near:=near) hkt
    have hmem:=List.getElem_mem hkt
    have hcl:=(hsf _ hmem).2.2.2
    have cti:=ctm k _ hmem
    have cii:=fun j x=>ci k j _ x hmem
    obtain ⟨⟨ps,code,⟨tk,ta,to,az⟩⟩,hx⟩ : ∃ b,bs[k]=b:=⟨_,rfl⟩
    rw [hx] at hst hcl cti cii
    simp only at hst hcl cii
    rw [hst] at hcb
    generalize Ss.termOk ⟨⟨fi,fo⟩,ts,bs⟩ ds near k ⟨ps,code,⟨tk,ta,to,az⟩⟩=tm at *
    repeat (first|refine QG ?_|refine QY ?_ (r:=by conv=>lhs;simp[-List.map_set,QV,hkt,hx]))
    repeat refine QS ?_
    refine je [5,6,7,54,55,56,62,63,64] rfl (fun c σ S' => ∃ (j:Nat),j≤code.length∧c=code.length-j∧Ss.checkCode ⟨sg,im,gl,mu,me⟩ ⟨⟨fi,fo⟩,ts,bs⟩ ds near k j (code.drop j)=Ss.checkCode ⟨sg,im,gl,mu,me⟩ ⟨⟨fi,fo⟩,ts,bs⟩ ds near k 0 code∧σ=[(5,ckV ⟨sg,im,gl,mu,me⟩ ⟨⟨fi,fo⟩,ts,bs⟩ ds near),(6,vnat k),(7, .ptr (lid S.nx 0) 0),(54,vl jd bs),(55,vnat bs.length),(56,vnat k),(62,vl jp code),(63,vnat code.length),(64,vnat j)]∧S'=St S [] [some (6,[vl vint ps,vl jp code, .int .i64 tk, .int .i64 ta,vl ji to,vl vint az])]) code.length ?_ ?_
    ·exact ⟨0,by omega,rfl,rfl,by simp [Fr.only],rfl⟩
    ·rintro c σ T ⟨j,hj,rfl,hcc,rfl,rfl⟩
     by_cases hjt:j<code.length
     ·have hwj:=jo hjt (by omega)
      have hsc:=jbR (e:=⟨sg,im,gl,mu,me⟩) (f:=⟨⟨fi,fo⟩,ts,bs⟩) (ds:=ds) (near:=near) (i:=k) hjt
      have cij:=cii j _ (List.getElem_mem hjt)
      obtain ⟨⟨xo,xn,xa,xu⟩,hx2⟩ : ∃ x,code[j]=x:=⟨_,rfl⟩
      rw [hx2] at hsc cij
      generalize Ss.insOk ⟨sg,im,gl,mu,me⟩ ⟨⟨fi,fo⟩,ts,bs⟩ ds near k j ⟨xo,xn,xa,xu⟩=io at *
      have cij':VPure Tryz.prog 71 [ckV ⟨sg,im,gl,mu,me⟩ ⟨⟨fi,fo⟩,ts,bs⟩ ds near,vnat k,vnat j, .agg [.int .i64 xo, .int .u64 xn,vl vint xa,vl vint xu]] (.bool io):=cij
      repeat (first|refine QG ?_|refine QY ?_ (r:=by conv=>lhs;simp[-List.map_set,QV,hjt,hx2]))
      repeat refine QS ?_
      refine QP ?_ (r:=by conv=>lhs;simp[-List.map_set,QV,hjt,hx2])
      refine jc (cij') (by rfl) ?_
      by_cases hio:io=true
      ·refine QM (by conv=>lhs;simp[-List.map_set,QV,hio]) ?_
       refine QN ?_
       repeat (first|refine QG ?_|refine QY ?_)
       refine QA [0] (h:=⟨?_,j+1,hjt,rfl,by rw [←hcc,hsc,hio,Bool.true_and],by simp [hwj],rfl⟩)
       omega
      ·have hio':io=false:=by simpa using hio
       refine QM (by conv=>lhs;simp[-List.map_set,QV,hio']) ?_
       refine QN ?_
       repeat (first|refine QG ?_|refine QY ?_)
       exact ja hwf (by rw [←hcb, ←hcc,hsc,hio']; simp) rfl
     ·have e1:code.drop j=[]:=by rw [List.drop_eq_nil_iff]; omega
      rw [e1,Ss.checkCode] at hcc
      rw [←hcc,Bool.true_and] at hcb
      have cti':VPure Tryz.prog 72 [ckV ⟨sg,im,gl,mu,me⟩ ⟨⟨fi,fo⟩,ts,bs⟩ ds near,vnat k, .agg [vl vint ps,vl jp code, .int .i64 tk, .int .i64 ta,vl ji to,vl vint az]] (.bool tm):=cti
      repeat (first|refine QG ?_|refine QY ?_ (r:=by conv=>lhs;simp[-List.map_set,QV,hjt]))
      repeat refine QS ?_
      refine QP ?_ (r:=by conv=>lhs;simp[-List.map_set,QV,hjt])
      refine jc (cti') (by rfl) ?_
      by_cases htm:tm=true
      ·refine QM (by conv=>lhs;simp[-List.map_set,QV,htm]) ?_
       refine QN ?_
       repeat (first|refine QG ?_|refine QY ?_)
       refine QA [] (h:=⟨?_,k+1,hkt,rfl,by rw [←hcb,htm,Bool.true_and],by simp [hw],rfl⟩)
       omega
      ·have htm':tm=false:=by simpa using htm
       refine QM (by conv=>lhs;simp[-List.map_set,QV,htm']) ?_
       refine QN ?_
       repeat (first|refine QG ?_|refine QY ?_)
       exact ja hwf (by rw [←hcb,htm']; simp) rfl
   ·have e1:bs.drop k=[]:=by rw [List.drop_eq_nil_iff]; omega
    rw [e1,Ss.checkBlocks] at hcb
    repeat (first|refine QG ?_|refine QY ?_ (r:=by conv=>lhs;simp[-List.map_set,QV,hkt]))
    exact ja hwf (by simp [←hcb]) rfl
end Go.Vw

namespace Go.Vw
open Go.Proofs Go.RowKit
set_option maxRecDepth 10000
set_option maxHeartbeats 8000000
end Go.Vw

namespace Go.Vw
open Go.Proofs Go.RowKit
set_option maxRecDepth 10000
set_option maxHeartbeats 2000000
def sameFn (f g:Ss.Fn):Bool:=f.small&&g.small&&decide (f=g)
end Go.Vw

namespace Ss
def smallF:Fn:=⟨⟨[],[127]⟩,[127],[⟨[],[⟨258,0,[],[]⟩,⟨256,5,[],[0]⟩],⟨4,0,[],[0]⟩⟩]⟩
def env0:Env:=⟨[],0,[],[],false⟩
end Ss
namespace Go.Vw
open Go.Proofs Go.RowKit
set_option maxRecDepth 10000
set_option maxHeartbeats 4000000
theorem Reach.nilCell {N b0:Nat} {σ:Fr} {B:Store} {u:Upds} {l:List (Option (Nat × List V))} {k i s:Nat} {cs:List V} (hk:k<l.length) (hck:(l[k]?).join=some (s,cs)) (hi:cs[i]? = some .nils) :
  Reach N b0 σ (St B u l) σ (St B u (l.set k (some (s,cs.set i (.list []))))):=by
 have:=Reach.cell (N:=N) (b0:=b0) (σ:=σ) (o:=lid B.nx k) (i:=i) (s:=s) (cs:=cs) (Ghost.nils_list (St B u l)) (by simp [V.one]) (by rw [jL]; exact hck) hi (by rw [jL]; exact hck)
 rw [JC hk] at this
 exact this
end Go.Vw

namespace Go.Vw
open Go.Proofs Go.RowKit
set_option maxRecDepth 10000
set_option maxHeartbeats 8000000
def NL (x y:V):Prop:=x=y∨(x = .nils∧y = .list [])
theorem Rep.nl {m:Imm} {β:Objs} {x y:V} {v:Value} (h:Rep m β x v) (hn:NL x y):Rep m β y v:=by
 rcases hn with rfl | ⟨rfl,rfl⟩
 ·exact h
 ·cases h with
  | imm h=>cases h with | nils a=>exact .imm (.list0 a 0 (Nat.zero_le _))
theorem Ghost.agg_nl {S:Store} {xs ys:List V} (hl:xs.length=ys.length) (h : ∀ (i:Nat) (x y:V),xs[i]? = some x→ys[i]? = some y→NL x y):Ghost (.agg xs) S (.agg ys) S:=by
 intro m β w v hS hr
 obtain ⟨vs,rfl,hl2,hrr,h1⟩:=hr.inv_agg
 refine ⟨m,β,hS,Ext.refl _ _ _, .agg ys vs (by omega) (fun i y u hy hu => ?_) h1⟩
 have hi:i<xs.length:=by rw [hl]; exact (List.getElem?_eq_some_iff.1 hy).1
 exact (hrr i xs[i] u (List.getElem?_eq_getElem hi) hu).nl (h i _ y (List.getElem?_eq_getElem hi) hy)
end Go.Vw

namespace Ss
def askedO (u:List Bool) (l:List Int):Bool:=l.any fun o=>decide (0≤o)&&(decide (o<u.length)&&u.getD o.toNat false)
end Ss
namespace Go.Vw
open Go.Proofs Go.RowKit
set_option maxRecDepth 10000
set_option maxHeartbeats 2000000
end Go.Vw
