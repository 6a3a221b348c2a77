import Derived.Test.YtkfllaokjaldnaaGreatC21
import Derived.Test.YtkfllaokjaldnaaGreatC20
import Derived.Test.YtkfllaokjaldnaaGreatC17
/-
  Part of the proof (texts STerm, SChk, VDeep).
-/
set_option linter.unusedVariables false
set_option linter.unusedSimpArgs false
namespace Go.Vw
open Go.Proofs Go.RowKit
set_option maxRecDepth 10000
set_option maxHeartbeats 4000000
theorem jbf (t:Ss.Term):VPure Tryz.prog 76 [encTerm t] (.bool (Ss.branches t)):=by
 intro S
 obtain ⟨k,a,to,az⟩:=t
 simp only [Ss.branches]
 refine jb (c:=jf Tryz.f76) Tryz.func76 rfl rfl (by simp [Tryz.ntmps76]) ?_
 rw [Tryz.ntmps76]
 intro hwf
 by_cases h:k=2
 ·repeat (first|refine QG ?_|refine QY ?_ (r:=by conv=>lhs;simp[-List.map_set,QV,h]))
  exact ja hwf (by simp [h]) rfl
 ·repeat (first|refine QG ?_|refine QY ?_ (r:=by conv=>lhs;simp[-List.map_set,QV,h]))
  exact ja hwf (by simp [h]) rfl
theorem term_v (e:Ss.Env) (f:Ss.Fn) (ds:List Ss.Def) (near:List Int) (i:Int) (b:Ss.Block) (hds:ds.length=f.types.length) (htl:f.types.length<2^63) (hnl:near.length<2^63) (hbl:f.blocks.length<2^63) (hol:f.sig.out.length<2^63)
  (hb:b.Fits) (hto : ∀ x∈b.term.to,0≤x.to∧x.to<f.blocks.length) (hps : ∀ b∈f.blocks,b.params.length≤1048576∧Ss.InTs f.types.length b.params) :
  VPure Tryz.prog 72 [ckV e f ds near,vint i,je b] (.bool (Ss.termOk f ds near i b)):=by
 intro S
 obtain ⟨_,⟨hcl,_⟩,_,_,⟨htol,htf⟩,⟨haz,_⟩⟩:=hb
 have ca : ∀ l m:List Int,l.length<2^63→VPure Tryz.prog 109 [ckV e f ds near,vint i,vnat b.code.length,vl vint l,vl vint m] (.bool (Ss.asks f.types ds near i b.code.length l m)):=fun l m hl=>asks_v e f ds near i b.code.length l m hds htl hnl hl
 have ct : ∀ b∈f.blocks,VPure Tryz.prog 107 [ckV e f ds near,vl vint b.params] (vl vint (Ss.typesOf f.types b.params)):=fun b hb=>types_v e f ds near b.params (hps b hb).1 (hps b hb).2
 have cb:=jbf b.term
 obtain ⟨ps,code,⟨tk,ta,to,az⟩⟩:=b
 simp only at hcl htol htf haz hto ca
 have hTT : ∀ le mo rs,Ss.termTail f ds near i code.length ⟨tk,ta,to,az⟩ le mo rs=((if Ss.branches ⟨tk,ta,to,az⟩ then Ss.asks f.types ds near i code.length [ta] [127] else decide (ta=0))&&decide (le≤to.length)&&decide (to.length≤mo)&&Ss.asks f.types ds near i code.length az rs&&to.all (Ss.edgeOk f ds near i code.length)):=fun _ _ _=>rfl
 have hX:Ss.termOk f ds near i ⟨ps,code,⟨tk,ta,to,az⟩⟩=match Ss.termHead f.sig.out tk with
  | some (le,mo,rs)=>Ss.termTail f ds near i code.length ⟨tk,ta,to,az⟩ le mo rs
  | none=>false:=rfl
 rw [hX]
 generalize hbr:Ss.branches ⟨tk,ta,to,az⟩=br at *
 have cb':VPure Tryz.prog 76 [.agg [.int .i64 tk, .int .i64 ta,vl jq to,vl vint az]] (.bool br):=cb
 obtain ⟨⟨fi,fo⟩,ts,bs⟩:=f
 simp only at *
 refine jb (c:=jf Tryz.f72) Tryz.func72 rfl rfl (by simp [Tryz.ntmps72]) ?_
 rw [Tryz.ntmps72]
 intro hwf
 repeat refine QS ?_
 refine QP ?_
 refine QN ?_
 repeat refine QS ?_
 refine jQ (St S [] [some (6,[vl vint ps,vl jt code, .int .i64 tk, .int .i64 ta,vl jq to,vl vint az])]) (St S [] [some (6,[vl vint ps,vl jt code, .int .i64 tk, .int .i64 ta,vl jq to,vl vint az])]) [] rfl (by kernel_rfl) (by conv=>lhs; reduce) (by conv=>lhs; reduce) (by kernel_rfl) (by kernel_rfl) (jG (by simp [subU,shpU,subL,shpL])) (by conv=>lhs; simp [-List.map_set,QV]) ?_
 refine jg rfl (by conv=>lhs;simp[-List.map_set,QV]) (jG (by simp [subU,shpU,subL,shpL])) ?_
 refine QM (by conv=>lhs;simp[-List.map_set,QV]) ?_
 refine jg rfl (by conv=>lhs;simp[-List.map_set,QV]) (jG (by simp [subU,shpU,subL,shpL])) ?_
 refine QM (by conv=>lhs;simp[-List.map_set,QV]) ?_
 refine QN ?_
 repeat refine QS ?_
 refine QP ?_
 refine QN ?_
 repeat refine QS ?_
 refine QP ?_
 refine QN ?_
 refine ji 11 rfl ((Ghost.nils_list _)) (by conv=>lhs; simp [Fr.set]) ?_
 refine Ku rfl ?_
 refine Zk (fun σ S' => ∃ (le mo:Nat) (rs:List Int),Ss.termHead fo tk=some (le,mo,rs)∧le≤1000∧mo≤1000∧σ=[(0,ckV e ⟨⟨fi,fo⟩,ts,bs⟩ ds near),(1,vint i),(5, .ptr (lid S.nx 0) 0),(7, .ptr (lid S.nx 1) 0),(8,vnat code.length),(9,vnat le),(10,vnat mo),(11, .list (rs.map vint))]∧S'=St S [] [some (6,[vl vint ps,vl jt code, .int .i64 tk, .int .i64 ta,vl jq to,vl vint az]),some (4,[.int .i64 tk, .int .i64 ta,vl jq to,vl vint az])]) [0,1,5,7,8,9,10,11] ?_ ?_
 ·by_cases k1:tk=1
  ·subst k1
   repeat (first|refine QG ?_|refine QY ?_)
   exact ⟨1,1,[],rfl,by omega,by omega,by simp [Fr.only],rfl⟩
  by_cases k2:tk=2
  ·subst k2
   repeat (first|refine QG ?_|refine QY ?_)
   exact ⟨2,2,[],rfl,by omega,by omega,by simp [Fr.only],rfl⟩
  by_cases k3:tk=3
  ·subst k3
   repeat (first|refine QG ?_|refine QY ?_)
   exact ⟨1,65,[],rfl,by omega,by omega,by simp [Fr.only],rfl⟩
  by_cases k4:tk=4
  ·subst k4
   repeat (first|refine QG ?_|refine QY ?_)
   exact ⟨0,0,fo,rfl,by omega,by omega,by simp [Fr.only,vl],rfl⟩
  by_cases k5:tk=5
  ·subst k5
   repeat (first|refine QG ?_|refine QY ?_)
   exact ⟨0,0,[],rfl,by omega,by omega,by simp [Fr.only],rfl⟩
  have hn:Ss.termHead fo tk=none:=by simp [Ss.termHead,k1,k2,k3,k4,k5]
  rw [hn]
  repeat (first|refine QG ?_|refine QY ?_ (r:=by conv=>lhs;simp[-List.map_set,QV,k1,k2,k3,k4,k5]))
  exact ja hwf rfl rfl
 rintro σ S' ⟨le,mo,rs,hh,hle,hmo,rfl,rfl⟩
 rw [hh]
 simp only
 rw [hTT]
 generalize hA:(if br then Ss.asks ts ds near i code.length [ta] [127] else decide (ta=0))=A
 refine Ku rfl ?_
 refine vw_joinR (fun σ S'=>A=true∧σ=[(0,ckV e ⟨⟨fi,fo⟩,ts,bs⟩ ds near),(1,vint i),(7, .ptr (lid S.nx 1) 0),(8,vnat code.length),(9,vnat le),(10,vnat mo),(11, .list (rs.map vint))]∧S'=St S [] [some (6,[vl vint ps,vl jt code, .int .i64 tk, .int .i64 ta,vl jq to,vl vint az]),some (4,[.int .i64 tk, .int .i64 ta,vl jq to,vl vint az])]) [0,1,7,8,9,10,11] ?_ ?_
 ·repeat refine QS ?_
  refine QP ?_
  refine jc (cb') (by rfl) ?_
  by_cases h1:br=true
  ·have hA':A=Ss.asks ts ds near i code.length [ta] [127]:=by rw [←hA,if_pos h1]
   have c1:=ca [ta] [127] (by simp)
   rw [←hA'] at c1
   refine QM (by conv=>lhs;simp[-List.map_set,QV,h1]) ?_
   refine QN ?_
   repeat (first|refine QG ?_|refine QY ?_)
   repeat refine QS ?_
   refine QP ?_
   refine zb (xs':=[ckV e ⟨⟨fi,fo⟩,ts,bs⟩ ds near,vint i,vnat code.length,vl vint [ta],vl vint [127]]) rfl (GhostArgs.trans (GhostArgs.one [_,_,_] [_] (frz1 (k:=2) (len:=1) (by simp) (by rfl) (by rfl) (by rfl))) (GhostArgs.one [_,_,_,_] [] (frz1 (k:=3) (len:=1) (by simp) (by rfl) (by rfl) (by rfl)))) c1 ?_
   simp only [List.set_cons_succ,List.set_cons_zero]
   by_cases h2:A=true
   ·refine QM (by conv=>lhs;simp[-List.map_set,QV,h2]) ?_
    refine QN ?_
    repeat (first|refine QG ?_|refine QY ?_)
    refine mid_gc [0,1,7,8,9,10,11] [0,1] (by conv=>lhs; simp [Fr.only]) hwf (by decide) (by simp [-List.map_set]) (by conv=>lhs; simp [-List.map_set]) (by conv=>lhs; simp [-List.map_set]) (by conv=>lhs; simp [-List.map_set]) (⟨h2,by simp,rfl⟩)
   ·have h2':A=false:=by simpa using h2
    refine QM (by conv=>lhs;simp[-List.map_set,QV,h2']) ?_
    refine QN ?_
    repeat (first|refine QG ?_|refine QY ?_)
    exact ja hwf (by simp [h2']) rfl
  ·have h1':br=false:=by simpa using h1
   by_cases h2:ta=0
   ·have h2':A=true:=by rw [←hA,if_neg h1]; simp [h2]
    refine QM (by conv=>lhs;simp[-List.map_set,QV,h1']) ?_
    refine QN ?_
    repeat (first|refine QG ?_|refine QY ?_ (r:=by conv=>lhs;simp[-List.map_set,QV,h2]))
    refine mid_gc [0,1,7,8,9,10,11] [0,1] (by conv=>lhs; simp [Fr.only]) hwf (by decide) (by simp [-List.map_set]) (by conv=>lhs; simp [-List.map_set]) (by conv=>lhs; simp [-List.map_set]) (by conv=>lhs; simp [-List.map_set]) (⟨h2',by simp,by simp [h2]⟩)
   ·have h2':A=false:=by rw [←hA,if_neg h1]; simp [h2]
    refine QM (by conv=>lhs;simp[-List.map_set,QV,h1']) ?_
    refine QN ?_
    repeat (first|refine QG ?_|refine QY ?_ (r:=by conv=>lhs;simp[-List.map_set,QV,h2]))
    exact ja hwf (by simp [h2']) rfl
 rintro σ S' ⟨hAt,rfl,rfl⟩
 rw [hAt,Bool.true_and]
 have c2:=ca az rs (by omega)
 generalize Ss.asks ts ds near i code.length az rs=B at *
 by_cases h1:(to.length:Int)<(le:Int)
 ·repeat (first|refine QG ?_|refine QY ?_ (r:=by conv=>lhs;simp[-List.map_set,QV,h1]))
  exact ja hwf (by simp; omega) rfl
 by_cases h2:(mo:Int)<(to.length:Int)
 ·repeat (first|refine QG ?_|refine QY ?_ (r:=by conv=>lhs;simp[-List.map_set,QV,h1,h2]))
  exact ja hwf (by simp; omega) rfl
 have hlm:(decide (le≤to.length)&&decide (to.length≤mo))=true:=by simp; omega
 rw [hlm,Bool.true_and]
 repeat (first|refine QG ?_|refine QY ?_ (r:=by conv=>lhs;simp[-List.map_set,QV,h1,h2]))
 repeat refine QS ?_
 refine QP ?_ (r:=by conv=>lhs;simp[-List.map_set,QV,h1,h2])
 refine jc (c2) (by rfl) ?_
 by_cases h3:B=true
 case neg =>
  have h3':B=false:=by simpa using h3
  refine QM (by conv=>lhs;simp[-List.map_set,QV,h3']) ?_
  refine QN ?_
  repeat (first|refine QG ?_|refine QY ?_)
  exact ja hwf (by simp [h3']) rfl
 rw [h3,Bool.true_and]
 refine QM (by conv=>lhs;simp[-List.map_set,QV,h3]) ?_
 refine QN ?_
 repeat (first|refine QG ?_|refine QY ?_)
 repeat refine QS ?_
 refine jd [0,1,8,74,75,76] rfl (fun c σ S' => ∃ (k:Nat),k≤to.length∧c=to.length-k∧(to.drop k).all (Ss.edgeOk ⟨⟨fi,fo⟩,ts,bs⟩ ds near i code.length)=to.all (Ss.edgeOk ⟨⟨fi,fo⟩,ts,bs⟩ ds near i code.length)∧σ=[(0,ckV e ⟨⟨fi,fo⟩,ts,bs⟩ ds near),(1,vint i),(8,vnat code.length),(74,vl jq to),(75,vnat to.length),(76,vnat k)]∧S'=St S [] [some (6,[vl vint ps,vl jt code, .int .i64 tk, .int .i64 ta,vl jq to,vl vint az]),some (4,[.int .i64 tk, .int .i64 ta,vl jq to,vl vint az])]) to.length ?_ ?_
 ·exact ⟨0,by omega,rfl,rfl,by simp [Fr.only],rfl⟩
 ·rintro c σ T ⟨k,hk,rfl,hd,rfl,rfl⟩
  by_cases hkt:k<to.length
  ·have hw:=jn hkt (by omega)
   have hst:=Ss.drop_all (Ss.edgeOk ⟨⟨fi,fo⟩,ts,bs⟩ ds near i code.length) hkt
   obtain ⟨t0,t1⟩:=hto _ (List.getElem_mem hkt)
   have htk:=htf _ (List.getElem_mem hkt)
   obtain ⟨⟨xt,xa⟩,hx⟩ : ∃ x,to[k]=x:=⟨_,rfl⟩
   rw [hx] at hst t0 t1 htk
   simp only at t0 t1
   obtain ⟨_,⟨hxl,_⟩⟩:=htk
   simp only at hxl
   by_cases h0:xt=0
   ·have he:Ss.edgeOk ⟨⟨fi,fo⟩,ts,bs⟩ ds near i code.length ⟨xt,xa⟩=false:=by simp [Ss.edgeOk,h0]
    rw [he] at hst
    repeat (first|refine QG ?_|refine QY ?_ (r:=by conv=>lhs;simp[-List.map_set,QV,hkt,hx,h0]))
    exact ja hwf (by rw [←hd,hst]; rfl) rfl
   obtain ⟨n,rfl⟩ : ∃ n:Nat,xt=n:=⟨xt.toNat,by omega⟩
   have hn:n<bs.length:=by omega
   have ctn:=ct _ (List.getElem_mem hn)
   obtain ⟨⟨qs,qc,⟨q1,q2,q3,q4⟩⟩,hq⟩ : ∃ b,bs[n]=b:=⟨_,rfl⟩
   rw [hq] at ctn
   have ce:=ca xa (Ss.typesOf ts qs) (by omega)
   have he:Ss.edgeOk ⟨⟨fi,fo⟩,ts,bs⟩ ds near i code.length ⟨n,xa⟩=Ss.asks ts ds near i code.length xa (Ss.typesOf ts qs):=by
    simp only [Ss.edgeOk,h0,decide_false,Bool.not_false,Bool.true_and]
    simp [hn,hq]
   rw [he] at hst
   simp only at ctn
   generalize Ss.asks ts ds near i code.length xa (Ss.typesOf ts qs)=C at *
   generalize Ss.typesOf ts qs=tq at *
   have h0' : ¬ n=0:=by omega
   repeat (first|refine QG ?_|refine QY ?_ (r:=by conv=>lhs;simp[-List.map_set,QV,hkt,hx,h0,h0',hn,hq]))
   repeat refine QS ?_
   refine QD (r:=by conv=>lhs;simp[-List.map_set,QV,hkt,hx,h0,h0',hn,hq]) (k:=?_)
   refine jc (ctn) (by rfl) ?_
   refine QM (by conv=>lhs;simp[-List.map_set,QV,hkt,hx,h0,h0',hn,hq]) ?_
   refine jc (ce) (by rfl) ?_
   by_cases h9:C=true
   ·refine QM (by conv=>lhs;simp[-List.map_set,QV,h9]) ?_
    refine QN ?_
    repeat (first|refine QG ?_|refine QY ?_)
    refine QA [0,1] (h:=⟨?_,k+1,hkt,rfl,by rw [←hd,hst,h9,Bool.true_and],by simp [hw],rfl⟩)
    omega
   ·have h9':C=false:=by simpa using h9
    refine QM (by conv=>lhs;simp[-List.map_set,QV,h9']) ?_
    refine QN ?_
    repeat (first|refine QG ?_|refine QY ?_)
    exact ja hwf (by rw [←hd,hst,h9']; rfl) rfl
  ·rw [Ss.drop_all_end _ hkt] at hd
   rw [←hd]
   repeat (first|refine QG ?_|refine QY ?_ (r:=by conv=>lhs;simp[-List.map_set,QV,hkt]))
   exact ja hwf rfl rfl
end Go.Vw

namespace Ss
def checkCode (e:Env) (f:Fn) (ds:List Def) (near:List Int) (i:Int):Nat→List Ins→Bool
 | _,[]=>true
 | k,x::r=>insOk e f ds near i k x&&checkCode e f ds near i (k+1) r
def checkBlocks (e:Env) (f:Fn) (ds:List Def) (near:List Int):Nat→List Block→Bool
 | _,[]=>true
 | i,b::bs=>checkCode e f ds near i 0 b.code&&termOk f ds near i b&&checkBlocks e f ds near (i+1) bs
def checkHead (e:Env) (f:Fn):Bool:=e.right&&f.small&&decide (f.blocks.length≤256)&&kinds 2048 f.types&&f.sig.right&&f.blocks.all fun b=>decide (b.params.length≤256)
def check (e:Env) (f:Fn):Bool:=checkHead e f&&match defsOf f with
 | none=>false
 | some ds=>shapeOk f&&checkBlocks e f ds (Go.Vw.G.nearI (succs f.blocks)) 0 f.blocks
theorem put_in {block pos:Int} : ∀ {l:List Int} {ds d:List Def},put block pos ds l=some d→InTs ds.length l
 | [],ds,d,h=>by intro v hv; cases hv
 | v::l,ds,d,h=>by
  simp only [put] at h
  split at h
  ·cases h
  ·rename_i hn
   have h1:=put_in h
   intro x hx
   rcases List.mem_cons.1 hx with rfl | hx
   ·have k1 : ¬ x<0:=fun h=>hn (.inl h)
    have k2 : ¬ (ds.length:Int)≤x:=fun h=>hn (.inr (.inl h))
    exact ⟨by omega,by omega⟩
   ·have:=h1 x hx
    simpa using this
theorem WW {i:Int} : ∀ {l:List Ins} {k:Nat} {ds d:List Def},putCode i k ds l=some d→d.length=ds.length ∧ ∀ x∈l,InTs ds.length x.outs
 | [],k,ds,d,h=>by simp only [putCode,Option.some.injEq] at h; subst h; exact ⟨rfl,by simp⟩
 | x::l,k,ds,d,h=>by
  simp only [putCode] at h
  obtain ⟨d1,h1,h2⟩:=Option.bind_eq_some_iff.1 h
  obtain ⟨k1,k2⟩:=WW h2
  have e1:=WV h1
  refine ⟨k1.trans e1,fun y hy => ?_⟩
  rcases List.mem_cons.1 hy with rfl | hy
  ·exact put_in h1
  ·rw [←e1]; exact k2 y hy
theorem YB : ∀ {l:List Block} {i:Nat} {ds d:List Def},putBlocks i ds l=some d→d.length=ds.length ∧ ∀ b∈l,InTs ds.length b.params ∧ ∀ x∈b.code,InTs ds.length x.outs
 | [],i,ds,d,h=>by simp only [putBlocks,Option.some.injEq] at h; subst h; exact ⟨rfl,by simp⟩
 | b::l,i,ds,d,h=>by
  simp only [putBlocks] at h
  obtain ⟨d2,h1,h2⟩:=Option.bind_eq_some_iff.1 h
  obtain ⟨d1,h3,h4⟩:=Option.bind_eq_some_iff.1 h1
  have e1:=WV h3
  obtain ⟨e2,k2⟩:=WW h4
  obtain ⟨e3,k3⟩:=YB h2
  refine ⟨by omega,fun y hy => ?_⟩
  rcases List.mem_cons.1 hy with rfl | hy
  ·exact ⟨put_in h3,fun x hx=>by rw [←e1]; exact k2 x hx⟩
  ·have:=k3 y hy
   rw [show ds.length=d2.length by omega]; exact this
theorem defs_in {f:Fn} {ds:List Def} (h:defsOf f=some ds):ds.length=f.types.length ∧ ∀ b∈f.blocks,InTs f.types.length b.params ∧ ∀ x∈b.code,InTs f.types.length x.outs:=by
 have:=YB h
 simpa using this
theorem right_to {f:Fn} (h:Go.Vw.G.right (succs f.blocks)=true) : ∀ b∈f.blocks, ∀ x∈b.term.to,0≤x.to∧x.to<f.blocks.length:=by
 intro b hb x hx
 simp only [Go.Vw.G.right,Bool.and_eq_true,List.all_eq_true] at h
 have h1:=h.2 (rowOf b) (List.mem_map.2 ⟨b,hb,rfl⟩)
 have h2:=(Go.Vw.G.rowOk_iff.1 h1).2 x.to (List.mem_map.2 ⟨x,hx,rfl⟩)
 simpa [succs] using h2
end Ss
namespace Go.Vw
open Go.Proofs Go.RowKit
set_option maxRecDepth 10000
set_option maxHeartbeats 4000000
theorem lid_lid (b j k:Nat):lid (lid b j) k=lid b (j+k):=by simp [lid]; omega
theorem St_St {B:Store} {u:Upds} {l:List (Option (Nat × List V))} {o:Nat} {c d:Nat × List V} (ho:o<(St B u l).nx):St (St B u l) [(o,some c)] [some d]=((St B u l).upd o c).add d:=by
 refine Store.ext' (funext fun o' => ?_) rfl
 rw [zR,JY,qi]
 by_cases h:o'<(St B u l).nx
 ·rw [if_pos h]
  have hn : ¬ o'=((St B u l).upd o c).nx:=by show ¬ o'=(St B u l).nx; omega
  rw [if_neg hn]
  simp only [uGet]
 ·rw [if_neg h]
  by_cases e:o'=(St B u l).nx
  ·subst e
   have:(St B u l).nx=((St B u l).upd o c).nx:=rfl
   rw [if_pos this]; simp
  ·have hn : ¬ o'=((St B u l).upd o c).nx:=e
   rw [if_neg hn,if_neg (by omega),zR]
   have hnx:(St B u l).nx=B.nx+l.length:=by rw [qo]; rfl
   rw [if_neg (by omega),List.getElem?_eq_none (l:=l) (by omega),List.getElem?_eq_none (by rw [List.length_singleton]; omega)]
theorem Reach.frzCellS {α:Type} {enc:α→V} {s:Nat} (hs : ∀ a,(enc a).cells.length=s) (hcl : ∀ a,(enc a).closed=true) {N b0:Nat} {σ:Fr} {B:Store} {u:Upds} {l:List (Option (Nat × List V))} {k j i s':Nat} {cs:List V} (ls:List α) (hkj:k≠j) (hk:k<l.length) (hj:j<l.length) (hck:(l[k]?).join=some (s',cs)) (hi:cs[i]? = some (.slice (lid B.nx j) 0 ls.length))
  (hcj:(l[j]?).join=some (s,js enc ls)):Reach N b0 σ (St B u l) σ (St B u ((l.set j none).set k (some (s',cs.set i (vl enc ls))))):=by
 have hg:Ghost (.slice (lid B.nx j) 0 ls.length) (St B u l) (vl enc ls) (St B u (l.set j none)):=frzSt hs hcl ls hj hcj
 have:=Reach.cell (N:=N) (b0:=b0) (σ:=σ) (o:=lid B.nx k) (i:=i) (s:=s') (cs:=cs) hg (by simp [V.one]) (by rw [jN]; exact hck) hi (by rw [jN,List.getElem?_set_ne (Ne.symm hkj)]; exact hck)
 rw [JF (by simpa using hk)] at this
 exact this
theorem jbV {e:Ss.Env} {f:Ss.Fn} {ds:List Ss.Def} {near:List Int} {i:Int} {k:Nat} {l:List Ss.Ins} (h:k<l.length):Ss.checkCode e f ds near i k (l.drop k)=(Ss.insOk e f ds near i k l[k]&&Ss.checkCode e f ds near i (k+1) (l.drop (k+1))):=by
 rw [List.drop_eq_getElem_cons h,Ss.checkCode]
theorem jai {e:Ss.Env} {f:Ss.Fn} {ds:List Ss.Def} {near:List Int} {i:Nat} {l:List Ss.Block} (h:i<l.length):Ss.checkBlocks e f ds near i (l.drop i)=(Ss.checkCode e f ds near i 0 l[i].code&&Ss.termOk f ds near i l[i]&&Ss.checkBlocks e f ds near (i+1) (l.drop (i+1))):=by
 rw [List.drop_eq_getElem_cons h,Ss.checkBlocks]
end Go.Vw

/-
 What is owned in depth: values of one's own that read as immutable ones; stores that become the base of others.
-/
namespace Go.Vw
open Go.RowKit
section
variable {P:Program} {N b b':Nat} {Q:Exit→Fr→Store→Prop} {σ σ':Fr} {S S':Store}
theorem ExtB.weak {m m':Imm} {β β':Objs} {w w':World} (h:b≤b') (k:ExtB b' m β w m' β' w'):ExtB b m β w m' β' w' :=
 ⟨k.imm,fun o ho=>k.step o (Nat.lt_of_lt_of_le ho h),k.size,k.keep,k.os,k.tape,k.output⟩
theorem Zm {c:Code} (h:b≤b') (k:VWp P N b' c Q σ S):VWp P N b c Q σ S :=
 fun m β w a hS hF=>wp_mono (k m β w a hS hF) fun e a' w' ⟨σ',S',m',β',q,r1,r2,r3⟩=>⟨σ',S',m',β',q,r1,r2,r3.weak h⟩
theorem Reach.weak (h:b≤b') (k:Reach N b' σ S σ' S'):Reach N b σ S σ' S':=fun m β w a hS hF=>by
 obtain ⟨m',β',h1,h2,h3⟩:=k m β w a hS hF
 exact ⟨m',β',h1,h2,h3.weak h⟩
theorem Yq {I:Nat→Fr→Store→Prop} {ks:List Nat} {n:Nat} (h:b≤b') (k:jv N b' I ks n σ S):jv N b I ks n σ S:=by
 obtain ⟨n',h1,σc,Sc,h2,h3⟩:=k
 exact ⟨n',h1,σc,Sc,h2.weak h,h3⟩
end
theorem qT (b j k:Nat):lid (lid b j) k=lid b (j+k):=by simp [lid]; omega
theorem JS {B:Store} {u:Upds} {l m:List (Option (Nat × List V))}:St B u (l++m)=St (St B u l) [] m:=by
 refine Store.ext' (funext fun o => ?_) ?_
 ·have e:(St B u l).nx=B.nx+l.length:=by rw [qo,lid]
  rw [zR,zR,e,zR]
  simp only [uGet]
  by_cases h1:o<B.nx
  ·rw [if_pos h1,if_pos (by omega),if_pos h1]
  ·rw [if_neg h1]
   by_cases h2:o<B.nx+l.length
   ·rw [if_pos h2,if_neg h1,List.getElem?_append_left (by omega)]
   ·rw [if_neg h2,List.getElem?_append_right (by omega)]
    congr 2; omega
 ·rw [qo,qo,qo,qT]; simp
theorem St_sink1 {B:Store} {u:Upds} {c:Option (Nat × List V)} {m:List (Option (Nat × List V))}:St B u (c::m)=St (St B u [c]) [] m:=JS (l:=[c])
mutual
theorem ids_mono {p q:Nat→Bool} (h : ∀ o,p o=true→q o=true) : ∀ x:V,x.ids p=true→x.ids q=true
 | .agg xs,hx=>by simp only [V.ids] at hx ⊢; exact Wu h xs hx
 | .tuple xs,hx=>by simp only [V.ids] at hx ⊢; exact Wu h xs hx
 | .func _ xs,hx=>by simp only [V.ids] at hx ⊢; exact Wu h xs hx
 | .slice o _ _,hx=>by simp only [V.ids] at hx ⊢; exact h o hx
 | .ptr o _,hx=>by simp only [V.ids] at hx ⊢; exact h o hx
 | .map o,hx=>by simp only [V.ids] at hx ⊢; exact h o hx
 | .junk,_=>by simp [V.ids]
 | .bool _,_ | .int _ _,_ | .str _,_ | .nils,_ | .nilp,_ | .nilf,_ | .nilm,_ | .list _,_ | .ref _,_=>by simp [V.ids]
theorem Wu {p q:Nat→Bool} (h : ∀ o,p o=true→q o=true) : ∀ xs:List V,V.idsL p xs=true→V.idsL q xs=true
 | [],_=>by simp [V.idsL]
 | x::xs,hx=>by
  simp only [V.idsL,Bool.and_eq_true] at hx ⊢
  exact ⟨ids_mono h x hx.1,Wu h xs hx.2⟩
end
theorem St_wf {B:Store} (hw:B.Wf) {l:List (Option (Nat × List V))} (h:l.all (fun c=>match c with | some c=>V.idsL (fun o=>decide (o<lid B.nx l.length)) c.2 | none=>true)=true):(St B [] l).Wf:=by
 refine ⟨fun o ho => ?_,fun o c hc => ?_⟩
 ·rw [qo] at ho
  simp only [lid] at ho
  rw [zR,if_neg (by omega),List.getElem?_eq_none (by omega)]; rfl
 ·rw [zR] at hc
  rw [qo]
  by_cases h1:o<B.nx
  ·rw [if_pos h1] at hc
   have:=hw.ids o c hc
   simp only [qR,List.all_eq_true] at this ⊢
   intro x hx
   have h2:=this x hx
   have hle:B.nx≤lid B.nx l.length:=by rw [lid]; omega
   exact ids_mono (fun o ho=>by rw [decide_eq_true_eq] at ho ⊢; exact Nat.lt_of_lt_of_le ho hle) x h2
  ·rw [if_neg h1] at hc
   have hm:some c∈l:=by
    cases hl:l[o-B.nx]? with
    | none=>rw [hl] at hc; cases hc
    | some d=>rw [hl] at hc; simp only [Option.join_some] at hc; subst hc; exact List.mem_of_getElem? hl
   simp only [List.all_eq_true] at h
   exact h _ hm
/-! ### Ownership -/
inductive Ty
 | c
 | s (tys:List Ty)
def reps (n:Nat) (tys:List Ty):List Ty:=(List.replicate n tys).flatten
theorem reps_zero (tys:List Ty):reps 0 tys=[]:=rfl
theorem Jg (n:Nat) (tys:List Ty):reps (n+1) tys=tys++reps n tys:=by simp [reps,List.replicate_succ]
theorem Zy (n:Nat) (tys:List Ty):reps (n+1) tys=reps n tys++tys:=by simp [reps,List.replicate_succ',List.flatten_append]
theorem reps_add (n m:Nat) (tys:List Ty):reps (n+m) tys=reps n tys++reps m tys:=by
 induction n with
 | zero=>simp [reps]
 | succ n ih=>rw [Nat.add_right_comm,Jg,Jg,ih,List.append_assoc]
theorem Jo (n:Nat) (tys:List Ty):(reps n tys).length=n*tys.length:=by
 induction n with
 | zero=>simp [reps]
 | succ n ih=>rw [Jg,List.length_append,ih,Nat.succ_mul]; omega
inductive OwL (S:Store):List Ty→List V→List V→List Nat→Prop
 | nil:OwL S [] [] [] []
 | c {ts:List Ty} {rs xs:List V} {j:List Nat} {x:V} (h:x.closed1=true) (t:OwL S ts rs xs j):OwL S (.c::ts) (x::rs) (x::xs) j
 | s {tys ts:List Ty} {rs xs cells ys:List V} {i j:List Nat} {o:Nat} (h:S.get o=some (tys.length,cells)) (hs : ∀ y∈ys,y.cells.length=tys.length∧y.closed=true) (d:OwL S (reps ys.length tys) cells (ys.flatMap V.cells) i) (t:OwL S ts rs xs j) :
   OwL S (.s tys::ts) (.slice o 0 ys.length::rs) (.list ys::xs) (o::(i++j))
theorem OwL.len {S:Store} {ts:List Ty} {rs xs:List V} {ids:List Nat} (h:OwL S ts rs xs ids):rs.length=ts.length∧xs.length=ts.length:=by
 induction h with
 | nil=>exact ⟨rfl,rfl⟩
 | c _ _ ih=>simp [ih]
 | s _ _ _ _ _ ih=>simp [ih]
theorem OwL.mono {S S':Store} {ts:List Ty} {rs xs:List V} {ids:List Nat} (h:OwL S ts rs xs ids):(∀ o∈ids,S'.get o=S.get o)→OwL S' ts rs xs ids:=by
 induction h with
 | nil=>exact fun _ => .nil
 | c h _ ih=>exact fun hk => .c h (ih hk)
 | s h hs _ _ ih1 ih2=>exact fun hk => .s ((hk _ (by simp)).trans h) hs (ih1 fun o ho=>hk o (by simp [ho])) (ih2 fun o ho=>hk o (by simp [ho]))
theorem OwL.append {S:Store} {ts us:List Ty} {rs xs ps qs:List V} {i j:List Nat} (h:OwL S ts rs xs i) (k:OwL S us ps qs j):OwL S (ts++us) (rs++ps) (xs++qs) (i++j):=by
 induction h with
 | nil=>exact k
 | c h _ ih=>exact .c h ih
 | s h hs d _ _ ih=>simpa [List.append_assoc] using OwL.s h hs d ih
theorem OwL.split {S:Store} {us:List Ty} : ∀ {ts:List Ty} {rs xs:List V} {ids:List Nat},OwL S (ts++us) rs xs ids → ∃ r1 r2 x1 x2 i1 i2,rs=r1++r2∧xs=x1++x2∧ids=i1++i2∧OwL S ts r1 x1 i1∧OwL S us r2 x2 i2
 | [],rs,xs,ids,h=>⟨[],rs,[],xs,[],ids,rfl,rfl,rfl, .nil,h⟩
 | t::ts,rs,xs,ids,h=>by
  cases h with
  | c hc k =>
   obtain ⟨r1,r2,x1,x2,i1,i2,rfl,rfl,rfl,k1,k2⟩:=OwL.split k
   exact ⟨_::r1,r2,_::x1,x2,i1,i2,rfl,rfl,rfl, .c hc k1,k2⟩
  | s ho hs d k =>
   obtain ⟨r1,r2,x1,x2,i1,i2,rfl,rfl,rfl,k1,k2⟩:=OwL.split k
   exact ⟨_::r1,r2,_::x1,x2,_::(_++i1),i2,rfl,rfl,by simp, .s ho hs d k1,k2⟩
theorem OwL.closed {S:Store} {ts:List Ty} {rs xs:List V} {ids:List Nat} (h:OwL S ts rs xs ids) : ∀ x∈xs,x.closed1=true:=by
 induction h with
 | nil=>simp
 | c h _ ih=>intro x hx; rcases List.mem_cons.1 hx with rfl | hx; exact h; exact ih x hx
 | s _ _ _ _ _ ih=>intro x hx; rcases List.mem_cons.1 hx with rfl | hx; rfl; exact ih x hx
theorem OwL.alive {S:Store} {ts:List Ty} {rs xs:List V} {ids:List Nat} (h:OwL S ts rs xs ids) : ∀ o∈ids,(S.get o).isSome=true:=by
 induction h with
 | nil=>simp
 | c h _ ih=>exact ih
 | s h _ _ _ ih1 ih2 =>
  intro o ho
  rcases List.mem_cons.1 ho with rfl | ho
  ·rw [h]; rfl
  ·rcases List.mem_append.1 ho with ho | ho
   ·exact ih1 o ho
   ·exact ih2 o ho
theorem OwL.cells {S:Store} {ts:List Ty} {rs xs:List V} {ids:List Nat} (h:OwL S ts rs xs ids) : ∀ r∈rs,r.closed1=true ∨ ∃ o n,r = .slice o 0 n:=by
 induction h with
 | nil=>simp
 | c h _ ih=>intro x hx; rcases List.mem_cons.1 hx with rfl | hx; exact .inl h; exact ih x hx
 | s _ _ _ _ _ ih=>intro x hx; rcases List.mem_cons.1 hx with rfl | hx; exact .inr ⟨_,_,rfl⟩; exact ih x hx
theorem OwL.all_c {S:Store} : ∀ {xs:List V},(∀ x∈xs,x.closed1=true)→OwL S (List.replicate xs.length .c) xs xs []
 | [],_ => .nil
 | x::xs,h => .c (h x (by simp)) (OwL.all_c fun y hy=>h y (by simp [hy]))
theorem repL_cons {m:Imm} {β:Objs} {x:V} {xs:List V} {vs:List Value} (h:RepL m β (x::xs) vs) : ∃ v r,vs=v::r∧Rep m β x v∧RepL m β xs r:=by
 cases vs with
 | nil=>have:=h.1; simp at this
 | cons v r=>exact ⟨v,r,rfl,h.2 0 x v rfl rfl,by have:=h.1; simpa using this,fun i y u hy hu=>h.2 (i+1) y u (by simpa using hy) (by simpa using hu)⟩
theorem jbS {S:Store} {o:Nat} {i:List Nat} {c:Nat × List V}:((S.dels i).upd o c).del o=S.dels (o::i):=by
 refine Store.ext' (funext fun o' => ?_) (by simp only [Store.del,Store.upd]; rw [jbR,jbR])
 rw [zx,qi,Yk,Yk]
 by_cases h:o'=o<;>simp [h]
theorem dels_app (S:Store) (i j:List Nat):S.dels (i++j)=(S.dels i).dels j:=by simp [Store.dels,List.foldl_append]
theorem OwL.freeze {S0:Store} {ts:List Ty} {rs xs:List V} {ids:List Nat} (h:OwL S0 ts rs xs ids):ids.Nodup → ∀ S:Store,(∀ o∈ids,S.get o=S0.get o)→GhostArgs rs S xs (S.dels ids):=by
 induction h with
 | nil=>exact fun _ S _ m β w vs hS hr=>⟨m,β,hS,Ext.refl _ _ _,hr⟩
 | @c ts rs xs j x h _ ih =>
  intro hn S hk m β w vs hS hr
  obtain ⟨v,r,rfl,h1,h2⟩:=repL_cons hr
  obtain ⟨m',β',k1,k2,k3⟩:=ih hn S hk m β w r hS h2
  exact ⟨m',β',k1,k2,k3.cons (k2.rep h1)⟩
 | @s tys ts rs xs cells ys i j o h hs d t ih1 ih2 =>
  intro hn S hk m β w vs hS hr
  obtain ⟨v,r,rfl,h1,h2⟩:=repL_cons hr
  obtain ⟨hno,hnij⟩:=List.nodup_cons.1 hn
  obtain ⟨hni,hnj,hd⟩:=List.nodup_append.1 hnij
  have hoi:o∉i:=fun h=>hno (by simp [h])
  have hoj:o∉j:=fun h=>hno (by simp [h])
  have hget:S.get o=some (tys.length,cells):=(hk o (by simp)).trans h
  -- the object's cells become immutable
  have step1 : ∃ m1 β1,Holds ((S.dels i).upd o (tys.length,ys.flatMap V.cells)) m1 β1 w∧Ext m β w m1 β1 w:=by
   have hl:=hS.live o _ hget
   have hlen:cells.length=(ys.flatMap V.cells).length:=by rw [d.len.1,d.len.2]
   have hgi:(S.dels i).get o=some (tys.length,cells):=by rw [Yk,if_neg hoi]; exact hget
   cases hβ:β o with
   | fresh=>rw [hβ] at hl; exact hl.elim
   | dead=>rw [hβ] at hl; exact hl.elim
   | void =>
    rw [hβ] at hl
    simp only [Live] at hl
    subst hl
    obtain ⟨m1,β1,k1,k2,_⟩:=ih1 hni S (fun o ho=>hk o (by simp [ho])) m β w [] hS (RepL.nil _ _)
    have e:ys.flatMap V.cells=[]:=List.eq_nil_of_length_eq_zero (by rw [←hlen]; rfl)
    rw [e]
    refine ⟨m1,β1, ?_,k2⟩
    have:(S.dels i).upd o (tys.length,[])=S.dels i:=by
     refine Store.ext' (funext fun o' => ?_) rfl
     rw [qi]
     split
     ·rename_i e'; subst e'; exact hgi.symm
     ·rfl
    rw [this]; exact k1
   | mp b' =>
    rw [hβ] at hl
    obtain ⟨es,clock,e1,e2,e3⟩:=hl
    have hz:cells=[]:=by
     cases cells with
     | nil=>rfl
     | cons c0 cr =>
      exfalso
      have hi2:0<es.size:=by simp only [List.length_cons] at e2; omega
      obtain ⟨k,v,e4,_⟩:=e3 0 c0 es[0] rfl (Array.getElem?_eq_getElem hi2)
      subst e4
      rcases d.cells _ (List.mem_cons_self) with h | ⟨_,_,h⟩
      ·simp [V.closed1] at h
      ·cases h
    subst hz
    obtain ⟨m1,β1,k1,k2,_⟩:=ih1 hni S (fun o ho=>hk o (by simp [ho])) m β w [] hS (RepL.nil _ _)
    have e:ys.flatMap V.cells=[]:=List.eq_nil_of_length_eq_zero (by rw [←hlen]; rfl)
    rw [e]
    refine ⟨m1,β1, ?_,k2⟩
    have:(S.dels i).upd o (tys.length,[])=S.dels i:=by
     refine Store.ext' (funext fun o' => ?_) rfl
     rw [qi]
     split
     ·rename_i e'; subst e'; exact hgi.symm
     ·rfl
    rw [this]; exact k1
   | lies b base s n =>
    rw [hβ] at hl
    obtain ⟨h0,arr,T,e1,e2,e3,e4⟩:=hl
    simp only at e3 e4
    have hvs:RepL m β cells ((List.range cells.length).map fun q=>arr.getD (base+q) undef):=by
     refine ⟨by simp,fun q x u hx hu => ?_⟩
     obtain ⟨u',f1,f2,_⟩:=e4 q x hx
     have hq:q<cells.length:=(List.getElem?_eq_some_iff.1 hx).1
     simp only [List.getElem?_map,List.getElem?_range hq,Option.map_some,Option.some.injEq] at hu
     subst hu
     have:arr.getD (base+q) undef=u':=by rw [Array.getD_eq_getD_getElem?,f1]; rfl
     rw [this]; exact f2
    obtain ⟨m1,β1,k1,k2,k3⟩:=ih1 hni S (fun o ho=>hk o (by simp [ho])) m β w _ hS hvs
    have hb':β1 o = .lies b base s n:=by
     rcases k2.step o (by rw [hβ]; exact Loc.noConfusion) with h' | h'
     ·rw [h',hβ]
     ·have:=k1.live o _ hgi
      rw [h'] at this; exact this.elim
    refine ⟨m1,β1, ?_,k2⟩
    refine k1.reseen hgi hb' e1 _ hlen.symm fun q x u hx hu => ?_
    have hq:q<cells.length:=by rw [hlen]; exact (List.getElem?_eq_some_iff.1 hx).1
    refine k3.2 q x u hx ?_
    simp only [List.getElem?_map,List.getElem?_range hq,Option.map_some,Option.some.injEq]
    rw [Array.getD_eq_getD_getElem?,hu]; rfl
  obtain ⟨m1,β1,k1,k2⟩:=step1
  -- the slice becomes a list
  have hg:Ghost (.slice o 0 ys.length) ((S.dels i).upd o (tys.length,ys.flatMap V.cells)) (.list ys) (S.dels (o::i)):=by
   rw [←jbS (c:=(tys.length,ys.flatMap V.cells))]
   let enc:{y // y∈ys}→V:=fun y=>y.1
   have e1:js enc ys.attach=ys.flatMap V.cells:=by
    have:ys.attach.map enc=ys:=List.attach_map_subtype_val ys
    calc js enc ys.attach=(ys.attach.map enc).flatMap V.cells:=by simp [js,List.flatMap_map]
     _=_:=by rw [this]
   have e2:vl enc ys.attach = .list ys:=by
    show V.list _=_
    rw [List.attach_map_subtype_val]
   have:=frzS (enc:=enc) (s:=tys.length) (fun y=>(hs y.1 y.2).1) (fun y=>(hs y.1 y.2).2) (S:=(S.dels i).upd o (tys.length,ys.flatMap V.cells)) (o:=o) ys.attach (by rw [e1]; exact JH)
   rw [e2,List.length_attach] at this
   exact this
  obtain ⟨m2,β2,q1,q2,q3⟩:=hg m1 β1 w v k1 (k2.rep h1)
  have hkj : ∀ o'∈j,(S.dels (o::i)).get o'=S0.get o':=by
   intro o' ho'
   have hm : ¬ o'∈o::i:=by
    intro hm
    rcases List.mem_cons.1 hm with rfl | hm
    ·exact hoj ho'
    ·exact hd o' hm o' ho' rfl
   rw [Yk,if_neg hm]
   exact hk o' (by simp [ho'])
  obtain ⟨m3,β3,p1,p2,p3⟩:=ih2 hnj (S.dels (o::i)) hkj m2 β2 w r q1 ⟨h2.1,fun a x u hx hu=>q2.rep (k2.rep (h2.2 a x u hx hu))⟩
  refine ⟨m3,β3, ?_,(k2.trans q2).trans p2,p3.cons (p2.rep q3)⟩
  rw [show o::(i++j)=(o::i)++j from rfl,dels_app]
  exact p1
theorem jaN (n s:Nat):reps n (List.replicate s .c)=List.replicate (n*s) .c:=by
 induction n with
 | zero=>simp [reps]
 | succ n ih=>rw [Jg,ih,List.replicate_append_replicate,Nat.succ_mul,Nat.add_comm]
theorem zg {α:Type} (enc:α→V) (ls:List α):(ls.map enc).flatMap V.cells=js enc ls:=by simp [js,List.flatMap_map]
theorem OwL.flat {α:Type} {enc:α→V} {s:Nat} (hs : ∀ a,(enc a).cells.length=s) (hc : ∀ a,(enc a).closed=true) {S:Store} (ls:List α):OwL S (reps ls.length (List.replicate s .c)) (js enc ls) (js enc ls) []:=by
 have h:=OwL.all_c (S:=S) (xs:=js enc ls) (by simpa using YD hc ls)
 rwa [JE hs, ←jaN] at h
theorem OwL.slice {α:Type} {enc:α→V} {s:Nat} (hs : ∀ a,(enc a).cells.length=s) (hc : ∀ a,(enc a).closed=true) {S:Store} {o:Nat} (ls:List α) (hg:S.get o=some (s,js enc ls)) {ts:List Ty} {rs xs:List V} {j:List Nat} (t:OwL S ts rs xs j) :
  OwL S (.s (List.replicate s .c)::ts) (.slice o 0 ls.length::rs) (vl enc ls::xs) (o::j):=by
 have:=OwL.s (S:=S) (o:=o) (tys:=List.replicate s .c) (cells:=js enc ls) (ys:=ls.map enc) (i:=[]) (by rw [List.length_replicate]; exact hg)
  (fun y hy=>by obtain ⟨a,_,rfl⟩:=List.mem_map.1 hy; exact ⟨by rw [hs,List.length_replicate],hc a⟩) (by rw [List.length_map,zg]; exact OwL.flat hs hc ls) t
 rw [List.length_map] at this
 exact this
theorem OwL.old {S:Store} {n:Nat} {ts:List Ty} {rs xs:List V} {ids:List Nat} (h:OwL S ts rs xs ids) (hn : ∀ o∈ids,o<n) (ks:List Nat):V.idsL (gcP n ks) rs=true∧V.renL (gcTo n ks) rs=rs:=by
 induction h with
 | nil=>exact ⟨by simp [V.idsL],by simp [V.renL]⟩
 | @c ts rs xs j x h _ ih =>
  obtain ⟨h1,h2⟩:=ih hn
  have e1:x.ids (gcP n ks)=true:=by cases x<;>first | (simp [V.ids]; done) | (simp [V.closed1] at h)
  have e2:x.ren (gcTo n ks)=x:=by cases x<;>first | (simp [V.ren]; done) | (simp [V.closed1] at h)
  exact ⟨by simp [V.idsL,e1,h1],by simp [V.renL,e2,h2]⟩
 | @s tys ts rs xs cells ys i j o h hs d t ih1 ih2 =>
  obtain ⟨h1,h2⟩:=ih2 fun o ho=>hn o (by simp [ho])
  have ho:=hn o (by simp)
  exact ⟨by simp [V.idsL,V.ids,zC ks ho,h1],by simp [V.renL,V.ren,zd ks ho,h2]⟩
theorem closed1_ids {x:V} (h:x.closed1=true) (p:Nat→Bool):x.ids p=true:=by cases x<;>first | (simp [V.ids]; done) | (simp [V.closed1] at h)
theorem OwL.ids_lt {S:Store} {p:Nat→Bool} {ts:List Ty} {rs xs:List V} {ids:List Nat} (h:OwL S ts rs xs ids) (hn : ∀ o∈ids,p o=true):V.idsL p rs=true:=by
 induction h with
 | nil=>simp [V.idsL]
 | c h _ ih=>simp [V.idsL,closed1_ids h,ih hn]
 | @s tys ts rs xs cells ys i j o h hs d t ih1 ih2=>simp [V.idsL,V.ids,hn o (by simp),ih2 fun o ho=>hn o (by simp [ho])]
theorem vseg_nil {P:Program} {z:Option ZZ} {r:List CO} {K:Fr→Store→Prop} {σ:Fr} {T:Store} (h:T.Wf) (k:jP P z r K σ (St T [] [])):jP P z r K σ T:=by rwa [qI h] at k
theorem jaC {P:Program} {N b:Nat} {Q:Exit→Fr→Store→Prop} {σ:Fr} {T:Store} {c:Code} (h:T.Wf) (k:VWp P N b c Q σ (St T [] [])):VWp P N b c Q σ T:=by rwa [qI h] at k
theorem lid_lt (b j k:Nat):(lid b j<lid b k)=(j<k):=by simp [lid]
theorem upd_wf {S:Store} (h:S.Wf) {o:Nat} {c:Nat × List V} (ho:o<S.nx) (hc:V.idsL (fun o=>decide (o<S.nx)) c.2=true):(S.upd o c).Wf:=by
 refine ⟨fun o' ho' => ?_,fun o' c' hc' => ?_⟩
 ·have h1:S.nx≤o':=ho'
  rw [qi,if_neg (by omega)]; exact h.gone o' h1
 ·rw [qi] at hc'
  split at hc'
  ·cases hc'; exact hc
  ·exact h.ids o' c' hc'
theorem done_gc {S:Store} {l l':List (Option (Nat × List V))} {r r':V} {R:V→Store→Prop} (ks:List Nat) (hw:S.Wf) (h1:ks.Nodup) (h2:(YO S.nx ks l ks&&r.ids (gcP S.nx ks))=true) (hl:gcL S.nx ks l ks=l') (hr:r.ren (gcTo S.nx ks)=r') (hR:R r' (St S [] l')):YQ S.nx R r (St S [] l):=by
 obtain ⟨h3,h4⟩:=Bool.and_eq_true_iff.1 h2
 have h:=gc_ren (u:=[]) hw h1 rfl h3
 subst hl
 subst hr
 exact ⟨_,_,GhostB.ren h (JJ (fun o ho=>gc_back o ho) r h4).symm,hR⟩
theorem Jb {S:Store} : ∀ {n:Nat} {rs xs:List V} {ids:List Nat},OwL S (List.replicate n .c) rs xs ids→rs=xs∧ids=[]
 | 0,rs,xs,ids,h=>by
  generalize hr:List.replicate 0 Ty.c=ts at h
  cases h with
  | nil=>exact ⟨rfl,rfl⟩
  | c _ _=>cases hr
  | s _ _ _ _=>cases hr
 | n+1,rs,xs,ids,h=>by
  rw [List.replicate_succ] at h
  cases h with
  | c h t =>
   obtain ⟨rfl,rfl⟩:=Jb t
   exact ⟨rfl,rfl⟩
theorem ghost_agg {rs xs:List V} {S S':Store} (h:GhostArgs rs S xs S'):Ghost (.agg rs) S (.agg xs) S':=by
 intro m β w v hS hr
 obtain ⟨vs,rfl,hl,hr,hone⟩:=hr.inv_agg
 obtain ⟨m',β',h1,h2,h3⟩:=h m β w vs hS ⟨hl,hr⟩
 exact ⟨m',β',h1,h2, .agg xs vs h3.1 h3.2 hone⟩
end Go.Vw
