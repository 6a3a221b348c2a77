import Derived.Test.YtkfllaokjaldnaaGreatC16
import Derived.Test.YtkfllaokjaldnaaGreatC12
import Derived.Test.YtkfllaokjaldnaaGreatC20
/-
  Part of the proof (texts SDef, SDef2, SRing, SRing2).
-/
set_option linter.unusedVariables false
set_option linter.unusedSimpArgs false
namespace Ss
def put (block pos:Int):List Def→List Int→Option (List Def)
 | ds,[]=>some ds
 | ds,v::l=>if v<0∨(ds.length:Int)≤v∨(ds.getD v.toNat default).made=true then none else put block pos (ds.set v.toNat ⟨true,block,pos⟩) l
def putCode (i:Int):Nat→List Def→List Ins→Option (List Def)
 | _,ds,[]=>some ds
 | k,ds,x::r=>(put i k ds x.outs).bind fun d=>putCode i (k+1) d r
def putBlocks:Nat→List Def→List Block→Option (List Def)
 | _,ds,[]=>some ds
 | i,ds,b::bs=>((put i (-1) ds b.params).bind fun d=>putCode i 0 d b.code).bind fun d=>putBlocks (i+1) d bs
def defsOf (f:Fn):Option (List Def):=putBlocks 0 (List.replicate f.types.length ⟨false,0,0⟩) f.blocks
theorem Yr {block pos:Int} : ∀ {l:List Int} {ds d:List Def},put block pos ds l=some d→d.length=ds.length
 | [],ds,d,h=>by simp only [put,Option.some.injEq] at h; rw [h]
 | v::l,ds,d,h=>by
  simp only [put] at h;split at h
  ·cases h
  ·rw [Yr h]; simp
end Ss
namespace Go.Vw
open Go.Proofs Go.RowKit
set_option maxRecDepth 10000
set_option maxHeartbeats 4000000
theorem jaz {α:Type} {enc:α→V} {s:Nat} (hs : ∀ a,(enc a).cells.length=s) (a:α) : ∀ (l:List α) (n:Nat),n<l.length→jh enc (l.set n a)=(jh enc l).take (n*s)++(enc a).cells++(jh enc l).drop (n*s+s)
 | [],n,h=>by simp at h
 | x::l,0,h=>by
  simp only [List.set_cons_zero,jh,List.flatMap_cons,Nat.zero_mul,List.take_zero,List.nil_append,Nat.zero_add];rw [←hs x,List.drop_left]
 | x::l,n+1,h=>by
  have ih:=jaz hs a l n (by simpa using h);simp only [List.set_cons_succ,jh,List.flatMap_cons] at ih ⊢;have e1:(n+1)*s=(enc x).cells.length+n*s:=by rw [hs,Nat.add_mul]; omega
  have e2:(n+1)*s+s=(enc x).cells.length+(n*s+s):=by omega
  rw [ih,e2,e1,List.take_length_add_append,List.drop_length_add_append];simp [List.append_assoc]
theorem jA {S:Store} (hwf:S.Wf) {o:Nat} {c} (h:S.get o=some c):o<S.nx:=by
 rcases Nat.lt_or_ge o S.nx with h' | h'
 ·exact h'
 ·rw [hwf.gone o h'] at h; cases h
theorem define1_v (S:Store) (e:Ss.Env) (f:Ss.Fn) (nearV:V) (pc ck od:Nat) (ds:List Ss.Def) (l:List Int) (block pos:Int) (hl:l.length<2^63) (hn:ds.length<2^40) (hp:S.get pc=some (1,[.ptr ck 0]))
  (hc:S.get ck=some (11,ckC e f (.slice od 0 ds.length) nearV)) (hd:S.get od=some (3,jh qV ds)) (h1:pc≠od) (h2:ck≠od) :
  VCalls Tryz.prog 103 ([vl vint l,vint block,vint pos]++[.ptr pc 0]) S (fun r T => ∃ ds',ds'.length=ds.length∧r = .bool (Ss.put block pos ds l).isSome∧(∀ d,Ss.put block pos ds l=some d→ds'=d)∧T=S.upd od (3,jh qV ds')):=by
 obtain ⟨⟨fi,fo⟩,ts,bs⟩:=f;obtain ⟨sg,im,gl,mu,me⟩:=e;refine jb (c:=jg Tryz.f103) Tryz.func103 rfl rfl (by simp [Tryz.ntmps103]) ?_;rw [Tryz.ntmps103];intro hwf;have hpn:=jA hwf hp;have hcn:=jA hwf hc;have hdn:=jA hwf hd;have op:=fun u l => @jt S u l pc hpn
 have oc:=fun u l => @jt S u l ck hcn
 have od':=fun u l => @jt S u l od hdn
 have hupd:=fun u l c => @zz S u l c od hdn
 have fin : ∀ (X:Bool) (d:List Ss.Def),d.length=ds.length→(Ss.put block pos ds l).isSome=X→(∀ d',Ss.put block pos ds l=some d'→d=d') → ∀ r:V,r = .bool X →
   Zn S.nx (fun r T => ∃ ds',ds'.length=ds.length∧r = .bool (Ss.put block pos ds l).isSome∧(∀ d,Ss.put block pos ds l=some d→ds'=d)∧T=S.upd od (3,jh qV ds')) r (St S [(od,some (3,jh qV d))] []):=by
  intro X d k1 k2 k3 r k4;refine Ke (X := .bool X) (S':=S.upd od (3,jh qV d)) hwf k4 rfl (by simp [KA,jaW,JR zQ]) ?_ ⟨d,k1,by rw [k2],k3,rfl⟩;simp only [gcU,gcE,Option.map_some,JQ zQ];exact jaP hwf hdn
 rw [Yc hd]
 repeat first|refine QG ?_|refine QY ?_
 repeat refine QS ?_
 refine je [1,2,3,10,11,12] rfl (fun c σ S' => ∃ (k:Nat) (d:List Ss.Def),k≤l.length∧c=l.length-k∧d.length=ds.length∧Ss.put block pos d (l.drop k)=Ss.put block pos ds l∧σ=[(1,vint block),(2,vint pos),(3, .ptr pc 0),(10,vl vint l),(11,vnat l.length),(12,vnat k)]∧S'=St S [(od,some (3,jh qV d))] []) l.length ?_ ?_
 ·exact ⟨0,ds,by omega,rfl,rfl,rfl,by simp [Fr.only],rfl⟩
 ·rintro c σ T ⟨k,d,hk,rfl,hdl,hpd,rfl,rfl⟩
  by_cases hkt:k<l.length
  ·have hw:=jo hkt hl;have hst:Ss.put block pos d (l.drop k)=if l[k]<0∨(d.length:Int)≤l[k]∨(d.getD l[k].toNat default).made=true then none else Ss.put block pos (d.set l[k].toNat ⟨true,block,pos⟩) (l.drop (k+1)):=by rw [List.drop_eq_getElem_cons hkt,Ss.put]
   obtain ⟨v,hx⟩ : ∃ v,l[k]=v:=⟨_,rfl⟩
   rw [hx] at hst;have bad:(v<0∨(d.length:Int)≤v∨(d.getD v.toNat default).made=true)→Ss.put block pos ds l=none:=fun hb=>by rw [←hpd,hst,if_pos hb]
   by_cases q1:v<0
   ·repeat first|refine QG ?_|refine QY ?_ (r:=by conv=>lhs;simp[-List.map_set,QV,hkt,hx,q1])
    have hb:=bad (.inl q1);exact fin false d hdl (by rw [hb]; rfl) (by rw [hb]; simp) _ (by simp)
   obtain ⟨n,rfl⟩ : ∃ n:Nat,v=n:=⟨v.toNat,by omega⟩
   by_cases q2:n<d.length
   case neg =>
    have q2':(ds.length:Int)≤(n:Int):=by omega
    have hb:=bad (.inr (.inl (by omega)))
    repeat first|refine QG ?_|refine QY ?_ (r:=by conv=>lhs;simp[-List.map_set,QV,hkt,hx,q1,q2,q2',op,oc,od',hp,hc,h1,h2])
    exact fin false d hdl (by rw [hb]; rfl) (by rw [hb]; simp) _ (by simp)
   have q2' : ¬ (ds.length:Int)≤(n:Int):=by omega
   obtain ⟨⟨dm,db,dp⟩,hdx⟩ : ∃ x,d[n]=x:=⟨_,rfl⟩
   have hdg:d.getD (n:Int).toNat default=⟨dm,db,dp⟩:=by simp [q2,hdx]
   have hcell:(jh qV d)[n*3]? = some (.bool dm):=WR (enc:=qV) (s:=3) (fun _=>rfl) d n 0 ⟨dm,db,dp⟩ (.bool dm) (by rw [←hdx]; exact List.getElem?_eq_getElem q2) rfl;have hfl:(jh qV d).length=d.length*3:=zP (enc:=qV) (s:=3) (fun _=>rfl) d;have hn2:n<ds.length:=by omega
   by_cases q3:dm=true
   ·have hb:=bad (.inr (.inr (by rw [hdg]; exact q3)))
    repeat first|refine QG ?_|refine QY ?_ (r:=by conv=>lhs;simp[-List.map_set,QV,hkt,hx,q1,q2,q2',op,oc,od',hp,hc,h1,h2,hcell,hn2,q3])
    exact fin false d hdl (by rw [hb]; rfl) (by rw [hb]; simp) _ (by simp)
   ·have q3':dm=false:=by simpa using q3
    have hfit:n*3+3≤(jh qV d).length:=by omega
    rw [if_neg (by rw [hdg]; rintro (h | h | h)<;>first | exact q1 h | exact q3 h | omega)] at hst;have hfs:=jaz (enc:=qV) (s:=3) (fun _=>rfl) ⟨true,block,pos⟩ d n q2
    repeat first|refine QG ?_|refine QY ?_ (r:=by conv=>lhs;simp[-List.map_set,QV,hkt,hx,q1,q2,q2',op,oc,od',hp,hc,h1,h2,hcell,hn2,q3',hfit,hupd])
    show jx _ _ _ _ _ _ _;exact again ⟨Nat.sub_lt_sub_left hkt (Nat.lt_succ_self k),k+1,d.set n ⟨true,block,pos⟩,hkt,rfl,by simp [hdl],by rw [←hpd,hst]; rfl,by simp [Fr.only,hw],by rw [hfs]; simp [encDef_cells]⟩
  ·have e1:l.drop k=[]:=by rw [List.drop_eq_nil_iff]; omega
   rw [e1] at hpd;have hpe:Ss.put block pos ds l=some d:=by rw [←hpd]; rfl
   repeat first|refine QG ?_|refine QY ?_ (r:=by conv=>lhs;simp[-List.map_set,QV,hkt])
   exact fin true d hdl (by rw [hpe]; rfl) (by rw [hpe]; simp) _ (by simp)
end Go.Vw

namespace Go.Vw
open Go.Proofs Go.RowKit
set_option maxRecDepth 10000
set_option maxHeartbeats 4000000
theorem WF {i:Nat} {ds:List Ss.Def} {bs:List Ss.Block} (h:i<bs.length):Ss.putBlocks i ds (bs.drop i)=((Ss.put i (-1) ds bs[i].params).bind fun d=>Ss.putCode i 0 d bs[i].code).bind fun d=>Ss.putBlocks (i+1) d (bs.drop (i+1)):=by
 rw [List.drop_eq_getElem_cons h,Ss.putBlocks]
theorem putCode_one {i:Int} {k:Nat} {ds:List Ss.Def} {l:List Ss.Ins} (h:k<l.length):Ss.putCode i k ds (l.drop k)=(Ss.put i k ds l[k].outs).bind fun d=>Ss.putCode i (k+1) d (l.drop (k+1)):=by
 rw [List.drop_eq_getElem_cons h,Ss.putCode]
theorem flatC_rep0 (n:Nat):(List.replicate n [V.bool false, .int .i64 0, .int .i64 0]).flatten=jh qV (List.replicate n ⟨false,0,0⟩):=by
 induction n with
 | zero=>rfl
 | succ n ih=>rw [List.replicate_succ,List.replicate_succ,List.flatten_cons,ih]; rfl
theorem za (f:Nat→Nat) (l:List Ss.Def):V.renL f (jh qV l)=jh qV l:=JQ zQ f l
theorem zb (p:Nat→Bool) (l:List Ss.Def):V.idsL p (jh qV l)=true:=JR zQ p l
theorem define_v (S:Store) (e:Ss.Env) (f:Ss.Fn) (ck:Nat) (hf:f.Fits) (hts:f.types.length≤1048576) (hc:S.get ck=some (11,ckC e f .nils .nils)) :
  VCalls Tryz.prog 69 [.ptr ck 0] S (fun r T => ∃ ds',ds'.length=f.types.length∧r = .bool (Ss.defsOf f).isSome∧(∀ d,Ss.defsOf f=some d→ds'=d)∧T=St S [(ck,some (11,ckC e f (.slice (lid S.nx 0) 0 f.types.length) .nils))] [some (3,jh qV ds')]):=by
 obtain ⟨_,_,⟨hbl0,hbf⟩⟩:=hf;obtain ⟨⟨fi,fo⟩,ts,bs⟩:=f;obtain ⟨sg,im,gl,mu,me⟩:=e;simp only at hts hbl0 hbf hc ⊢;have hbl:bs.length<2^63:=by omega
 generalize hD:Ss.defsOf ⟨⟨fi,fo⟩,ts,bs⟩=D;refine jb (c:=jg Tryz.f69) Tryz.func69 rfl rfl (by simp [Tryz.ntmps69]) ?_;rw [Tryz.ntmps69];intro hwf;have hcn:=jA hwf hc;have oc:=fun u l => @jt S u l ck hcn
 have hupd:=fun u l c => @zz S u l c ck hcn
 have gp:=fun ks=>zO (n:=S.nx) ks hcn
 have gt:=fun ks=>zh (n:=S.nx) ks hcn
 have hb24:ts.length*24≤140737488355328:=by omega
 have hb0:ts.length≤140737488355328:=by omega
 rw [Yc hc]
 repeat refine QS ?_
 refine QY ?_
 repeat refine QS ?_
 refine jN (St S [(ck,none)] [some (1,[.ptr ck 0])]) (St S [(ck,some (11,ckC ⟨sg,im,gl,mu,me⟩ ⟨⟨fi,fo⟩,ts,bs⟩ .nils .nils))] [some (1,[.ptr ck 0])]) [13] rfl (by kernel_rfl) (by conv=>lhs; reduce) (by conv=>lhs; reduce) (by kernel_rfl) (by kernel_rfl) (jv (by simp [subU,shpU,subL,shpL])) (by conv=>lhs; simp [-List.map_set,QV,oc,hc]) ?_;refine jf rfl (by conv=>lhs;simp[-List.map_set,QV,hb24,hb0]) (jv (by simp [subU,shpU,subL,shpL])) ?_;refine QM (by conv=>lhs;simp[-List.map_set,QV,oc,hc]) ?_;refine jf rfl (by conv=>lhs;simp[-List.map_set,QV,oc,hc,hupd]) (jv (by simp [subU,shpU,subL,shpL])) ?_;refine QN ?_;have hr0:rep0 [V.bool false, .int .i64 0, .int .i64 0] ts.length=jh qV (List.replicate ts.length ⟨false,0,0⟩):=flatC_rep0 _
 repeat first|refine QG ?_|refine QY ?_ (r:=by conv=>lhs;simp[-List.map_set,QV,oc,hupd])
 repeat refine QS ?_
 refine je [3,23,24,25] rfl (fun c σ S' => ∃ (k:Nat) (d:List Ss.Def),k≤bs.length∧c=bs.length-k∧d.length=ts.length∧Ss.putBlocks k d (bs.drop k)=D∧σ=[(3, .func 103 [.ptr (lid S.nx 0) 0]),(23,vl jd bs),(24,vnat bs.length),(25,vnat k)]∧S'=St S [(ck,some (11,ckC ⟨sg,im,gl,mu,me⟩ ⟨⟨fi,fo⟩,ts,bs⟩ (.slice (lid S.nx 1) 0 ts.length) .nils))] [some (1,[.ptr ck 0]),some (3,jh qV d)]) bs.length ?_ ?_
 ·exact ⟨0,List.replicate ts.length ⟨false,0,0⟩,by omega,rfl,by simp,by rw [←hD]; rfl,by simp [Fr.only],by simp [hr0]⟩
 ·rintro c σ T ⟨k,d,hk,rfl,hdl,hpd,rfl,rfl⟩
  by_cases hkt:k<bs.length
  ·have hw:=jo hkt hbl;have hst:=WF (ds:=d) hkt;have hbk:=hbf _ (List.getElem_mem hkt);obtain ⟨⟨ps,code,⟨tk,ta,to,az⟩⟩,hx⟩ : ∃ b,bs[k]=b:=⟨_,rfl⟩
   rw [hx] at hst hbk;obtain ⟨⟨hpl,_⟩,⟨hcl,hcf⟩,_⟩:=hbk;simp only at hst hpl hcl hcf
   repeat first|refine QG ?_|refine QY ?_ (r:=by conv=>lhs;simp[-List.map_set,QV,hkt,hx])
   repeat refine QS ?_
   refine QP ?_ (r:=by conv=>lhs;simp[-List.map_set,QV,hkt,hx]);refine zT rfl rfl rfl (define1_v _ ⟨sg,im,gl,mu,me⟩ ⟨⟨fi,fo⟩,ts,bs⟩ .nils (lid S.nx 0) ck (lid S.nx 1) d ps k (-1) (by omega) (by omega) (by simp) (by rw [oc]; simp [uGet,hdl]) (by simp) (by simp [lid]) (by simp [lid]; omega)) ?_;rintro X S2 ⟨d1,hd1,rfl,hp1,rfl⟩;rw [JS (by simp)];simp only [List.set_cons_succ,List.set_cons_zero];obtain ⟨z,hz⟩ : ∃ z,(Ss.put k (-1) d ps).isSome=z:=⟨_,rfl⟩
   rw [hz]
   by_cases hz1:z=true
   case neg =>
    have hz2:z=false:=by simpa using hz1
    have hD2:D=none:=by
     rw [←hpd,hst];have:Ss.put k (-1) d ps=none:=by rw [hz2] at hz; simpa using hz
     rw [this]; rfl
    refine QM (by conv=>lhs;simp[-List.map_set,QV,hz2]) ?_;refine QN ?_;refine jE [35] (by conv=>lhs; simp [Fr.only,Fr.look]) ?_;refine zp [1] hwf (by decide) (by simp [-List.map_set,zb,gp]) (by conv=>lhs; simp [-List.map_set]) (by conv=>lhs; simp [-List.map_set,za,gt]) (by conv=>lhs; simp [-List.map_set]) ?_
    repeat first|refine QG ?_|refine QY ?_
    exact zm ⟨d1,by omega,by simp [hD2],by simp [hD2],by simp⟩
   obtain ⟨d2,hq1⟩ : ∃ d2,Ss.put k (-1) d ps=some d2:=by rw [hz1] at hz; exact Option.isSome_iff_exists.1 hz
   obtain rfl:=hp1 _ hq1;rw [hq1] at hst;have hst1:Ss.putBlocks k d (bs.drop k)=(Ss.putCode k 0 d1 code).bind fun d=>Ss.putBlocks (k+1) d (bs.drop (k+1)):=hst
   refine QM (by conv=>lhs;simp[-List.map_set,QV,hz1]) ?_;refine QN ?_
   repeat first|refine QG ?_|refine QY ?_
   refine jE [3,4,23,24,25,37,38,39] (by conv=>lhs; simp [Fr.only,Fr.look]) ?_;refine zp [0,1] hwf (by decide) (by simp [-List.map_set,zb,gp]) (by conv=>lhs; simp [-List.map_set]) (by conv=>lhs; simp [-List.map_set,za,gt]) (by conv=>lhs; simp [-List.map_set]) ?_
   repeat refine QS ?_
   refine je [3,4,23,24,25,37,38,39] rfl (fun c σ S' => ∃ (j:Nat) (d:List Ss.Def),j≤code.length∧c=code.length-j∧d.length=ts.length∧Ss.putCode k j d (code.drop j)=Ss.putCode k 0 d1 code∧σ=[(3, .func 103 [.ptr (lid S.nx 0) 0]),(4,vnat k),(23,vl jd bs),(24,vnat bs.length),(25,vnat k),(37,vl jm code),(38,vnat code.length),(39,vnat j)]∧S'=St S [(ck,some (11,ckC ⟨sg,im,gl,mu,me⟩ ⟨⟨fi,fo⟩,ts,bs⟩ (.slice (lid S.nx 1) 0 ts.length) .nils))] [some (1,[.ptr ck 0]),some (3,jh qV d)]) code.length ?_ ?_
   ·exact ⟨0,d1,by omega,rfl,by omega,rfl,by simp [Fr.only],by simp⟩
   ·rintro c σ T ⟨j,d3,hj,rfl,hdl3,hpc,rfl,rfl⟩
    by_cases hjt:j<code.length
    ·have hwj:=jo hjt (by omega);have hsc:=putCode_one (i:=k) (ds:=d3) hjt;have hif:=hcf _ (List.getElem_mem hjt);obtain ⟨⟨xo,xn,xa,xu⟩,hx2⟩ : ∃ b,code[j]=b:=⟨_,rfl⟩
     rw [hx2] at hsc hif;obtain ⟨_,_,_,⟨hul,_⟩⟩:=hif;simp only at hsc hul
     repeat first|refine QG ?_|refine QY ?_ (r:=by conv=>lhs;simp[-List.map_set,QV,hjt,hx2])
     repeat refine QS ?_
     refine QP ?_ (r:=by conv=>lhs;simp[-List.map_set,QV,hjt,hx2]);refine zT rfl rfl rfl (define1_v _ ⟨sg,im,gl,mu,me⟩ ⟨⟨fi,fo⟩,ts,bs⟩ .nils (lid S.nx 0) ck (lid S.nx 1) d3 xu k j (by omega) (by omega) (by simp) (by rw [oc]; simp [uGet,hdl3]) (by simp) (by simp [lid]) (by simp [lid]; omega)) ?_;rintro X S2 ⟨d4,hd4,rfl,hp4,rfl⟩;rw [JS (by simp)];simp only [List.set_cons_succ,List.set_cons_zero];obtain ⟨z2,hz2⟩ : ∃ z,(Ss.put k j d3 xu).isSome=z:=⟨_,rfl⟩
     rw [hz2]
     by_cases hz3:z2=true
     case neg =>
      have hz4:z2=false:=by simpa using hz3
      have hD2:D=none:=by
       have:Ss.put k j d3 xu=none:=by rw [hz4] at hz2; simpa using hz2
       rw [←hpd,hst1, ←hpc,hsc,this]; rfl
      refine QM (by conv=>lhs;simp[-List.map_set,QV,hz4]) ?_;refine QN ?_;refine jE [50] (by conv=>lhs; simp [Fr.only,Fr.look]) ?_;refine zp [1] hwf (by decide) (by simp [-List.map_set,zb,gp]) (by conv=>lhs; simp [-List.map_set]) (by conv=>lhs; simp [-List.map_set,za,gt]) (by conv=>lhs; simp [-List.map_set]) ?_
      repeat first|refine QG ?_|refine QY ?_
      exact zm ⟨d4,by omega,by simp [hD2],by simp [hD2],by simp⟩
     obtain ⟨d5,hq5⟩ : ∃ d5,Ss.put k j d3 xu=some d5:=by rw [hz3] at hz2; exact Option.isSome_iff_exists.1 hz2
     obtain rfl:=hp4 _ hq5;rw [hq5] at hsc;have hsc1:Ss.putCode k j d3 (code.drop j)=Ss.putCode k (j+1) d4 (code.drop (j+1)):=hsc;refine QM (by conv=>lhs;simp[-List.map_set,QV,hz3]) ?_;refine QN ?_
     repeat first|refine QG ?_|refine QY ?_
     refine jS [0,1] (by conv=>lhs; simp [Fr.only]) hwf (by decide) (by simp [-List.map_set,za,zb,gp,gt]) (by conv=>lhs; simp [-List.map_set,za,zb,gp,gt]) (by conv=>lhs; simp [-List.map_set,za,zb,gp,gt]) (by conv=>lhs; simp [-List.map_set,za,zb,gp,gt]) ⟨?_,j+1,d4,hjt,rfl,by omega,by rw [←hpc,hsc1],by simp [hwj],by simp⟩;omega
    ·have e1:code.drop j=[]:=by rw [List.drop_eq_nil_iff]; omega
     rw [e1] at hpc;have hpc1:Ss.putCode k 0 d1 code=some d3:=by rw [←hpc]; rfl
     rw [hpc1] at hst1
     repeat first|refine QG ?_|refine QY ?_ (r:=by conv=>lhs;simp[-List.map_set,QV,hjt])
     refine jS [0,1] (by conv=>lhs; simp [Fr.only]) hwf (by decide) (by simp [-List.map_set,za,zb,gp,gt]) (by conv=>lhs; simp [-List.map_set,za,zb,gp,gt]) (by conv=>lhs; simp [-List.map_set,za,zb,gp,gt]) (by conv=>lhs; simp [-List.map_set,za,zb,gp,gt]) ⟨?_,k+1,d3,hkt,rfl,by omega,by rw [←hpd,hst1]; rfl,by simp [hw],by simp⟩;omega
  ·have e1:bs.drop k=[]:=by rw [List.drop_eq_nil_iff]; omega
   rw [e1] at hpd;have hD2:D=some d:=by rw [←hpd]; rfl
   repeat refine QS ?_
   refine QY ?_ (r:=by conv=>lhs;simp[-List.map_set,QV,hkt])
   repeat refine QS ?_
   refine jI rfl rfl rfl ?_
   repeat refine QS ?_
   refine jP 0 rfl rfl ?_;refine jE [25] (by conv=>lhs; simp [Fr.only,Fr.look]) ?_;refine zp [1] hwf (by decide) (by simp [-List.map_set,zb,gp]) (by conv=>lhs; simp [-List.map_set]) (by conv=>lhs; simp [-List.map_set,za,gt]) (by conv=>lhs; simp [-List.map_set]) ?_
   repeat first|refine QG ?_|refine QY ?_
   exact zm ⟨d,hdl,by simp [hD2],by simp [hD2],by simp⟩
end Go.Vw

namespace Go.Vw
open Go.Proofs Go.RowKit
set_option maxRecDepth 10000
set_option maxHeartbeats 4000000
theorem rings11_v (x:Ss.Ins):VPure Tryz.prog 132 ([jm x]++[]) (.bool (decide (x.op=258))):=by
 intro S;obtain ⟨o,n,a,u⟩:=x;refine jb (c:=jg Tryz.f132) Tryz.func132 rfl rfl (by simp [Tryz.ntmps132]) ?_;rw [Tryz.ntmps132];intro hwf
 repeat first|refine QG ?_|refine QY ?_
 exact ja hwf (by simp) rfl
theorem tick_v (l:List Ss.Ins) (hl:l.length<2^63):VPure Tryz.prog 131 [vl jm l, .func 132 []] (.bool (l.any fun x=>decide (x.op=258))) :=
 AnyN_v l (fun x=>decide (x.op=258)) _ [] rfl hl (fun x _=>rings11_v x)
theorem rings1_v (f:Ss.Fn) (g:List (List Nat)) (hgl:g.length=f.blocks.length) (hgb:g.length<2^62) (hrow : ∀ r∈g,r.length<2^62 ∧ ∀ k∈r,k<g.length) (hcode : ∀ b∈f.blocks,b.code.length<2^63) :
  ∀ (fuel n:Nat) (st:List Nat) (r:Bool) (s:List Nat) (S:Store) (ps os pw:Nat),n<g.length→st.length=g.length→S.get ps=some (1,[.slice os 0 g.length])→S.get os=some (1,st.map vnat) →
   S.get pw=some (1,[.func 130 [.ref (qD f), .ptr ps 0, .ref (vl (vl vnat) g), .ptr pw 0]])→ps≠os→pw≠os→Ss.ringW (f.blocks.map Ss.tickB) g fuel n st=some (r,s) →
   VCalls Tryz.prog 130 [vnat n, .ref (qD f), .ptr ps 0, .ref (vl (vl vnat) g), .ptr pw 0] S (fun x T=>x = .bool r∧T=S.upd os (1,s.map vnat)):=by
 intro fuel
 induction fuel with
 | zero=>intro n st r s S ps os pw _ _ _ _ _ _ _ h; rw [Ss.ringW] at h; cases h
 | succ fuel ih =>
  intro n st r s S ps os pw hn hsl hps hos hpw h1 h2 hr;obtain ⟨⟨fi,fo⟩,ts,bs⟩:=f;simp only at hgl hcode hr;have hnb:n<bs.length:=by omega
  have hns:n<st.length:=by omega
  have hct:=tick_v _ (hcode _ (List.getElem_mem hnb));obtain ⟨⟨bp,bc,⟨tk,ta,to,az⟩⟩,hx⟩ : ∃ b,bs[n]=b:=⟨_,rfl⟩
  have htk:(bs.map Ss.tickB).getD n false=bc.any fun x=>decide (x.op=258):=by simp [hnb,hx,Ss.tickB]
  rw [hx] at hct;simp only at hct;rw [Ss.ringW,htk] at hr;generalize (bc.any fun x=>decide (x.op=258))=tb at *
  refine jb (c:=jg Tryz.f130) Tryz.func130 rfl rfl (by simp [Tryz.ntmps130]) ?_;rw [Tryz.ntmps130];intro hwf;have psn:=jA hwf hps;have osn:=jA hwf hos;have pwn:=jA hwf hpw;have ops:=fun u l => @jt S u l ps psn
  have oos:=fun u l => @jt S u l os osn
  have opw:=fun u l => @jt S u l pw pwn
  have hupd:=fun u l c => @zz S u l c os osn
  rw [Yc hos];have fin : ∀ (b:Bool) (d:List Nat) (v:V),v = .bool b→r=b→s=d→Zn S.nx (fun x T=>x = .bool r∧T=S.upd os (1,s.map vnat)) v (St S [(os,some (1,d.map vnat))] []):=by
   rintro b d v rfl rfl rfl;refine Ke (X := .bool r) (S':=S.upd os (1,s.map vnat)) hwf rfl rfl (by simp [KA,jaW,jav]) ?_ ⟨rfl,rfl⟩;simp only [gcU,gcE,Option.map_some,ZV];exact jaP hwf osn
  repeat refine QS ?_
  refine QY ?_
  repeat refine QS ?_
  refine QP ?_ (r:=by conv=>lhs;simp[-List.map_set,QV,hnb,hx]);refine jc (hct) (by rfl) ?_
  by_cases ht:tb=true
  ·rw [if_pos ht] at hr
   cases hr
   refine QM (by conv=>lhs;simp[-List.map_set,QV,ht]) ?_;refine QN ?_
   repeat first|refine QG ?_|refine QY ?_
   exact fin _ _ _ (by simp) rfl rfl
  have ht':tb=false:=by simpa using ht
  rw [if_neg ht] at hr;have hgd:g.getD n []=g[n]:=by simp [hn]
  rw [hgd] at hr;obtain ⟨hrl,hrk⟩:=hrow _ (List.getElem_mem hn);obtain ⟨row,hrow'⟩ : ∃ row,g[n]=row:=⟨_,rfl⟩
  rw [hrow'] at hr hrl hrk;refine QM (by conv=>lhs;simp[-List.map_set,QV,ht']) ?_;refine QN ?_
  repeat first|refine QG ?_|refine QY ?_ (r:=by conv=>lhs;simp[-List.map_set,QV,ops,oos,opw,hps,hos,hpw,h1,h2,hn,hns,hupd,hrow'])
  obtain ⟨q,hq⟩ : ∃ q,Ss.ringL (bs.map Ss.tickB) g fuel row (st.set n 1)=some q:=by
   cases hz:Ss.ringL (bs.map Ss.tickB) g fuel row (st.set n 1) with
   | none=>rw [hz] at hr; cases hr
   | some q=>exact ⟨q,rfl⟩
  rw [hq] at hr
  repeat refine QS ?_
  refine je [0,2,4,22,23,24] rfl (fun c σ S' => ∃ (k:Nat) (d:List Nat),k≤row.length∧c=row.length-k∧d.length=g.length∧Ss.ringL (bs.map Ss.tickB) g fuel (row.drop k) d=some q∧σ=[(0,vnat n),(2, .ptr ps 0),(4, .ptr pw 0),(22,vl vnat row),(23,vnat row.length),(24,vnat k)]∧S'=St S [(os,some (1,d.map vnat))] []) row.length ?_ ?_
  ·exact ⟨0,st.set n 1,by omega,rfl,by simpa using hsl,hq,by simp [Fr.only],by simp⟩
  ·rintro c σ T ⟨k,d,hk,rfl,hdl,hql,rfl,rfl⟩
   by_cases hkt:k<row.length
   ·have hw:=jo hkt (by omega);rw [List.drop_eq_getElem_cons hkt,Ss.ringL] at hql;have hkk:=hrk _ (List.getElem_mem hkt);obtain ⟨m,hm⟩ : ∃ m,row[k]=m:=⟨_,rfl⟩
    rw [hm] at hql hkk;have hmd:m<d.length:=by omega
    obtain ⟨x,hxd⟩ : ∃ x,d[m]=x:=⟨_,rfl⟩
    have hgd2:d.getD m 0=x:=by simp [hmd,hxd]
    rw [hgd2] at hql
    by_cases x1:x=1
    ·rw [if_pos x1] at hql
     cases hql
     simp only at hr
     cases hr
     repeat first|refine QG ?_|refine QY ?_ (r:=by conv=>lhs;simp[-List.map_set,QV,hkt,hm,ops,oos,hps,hos,h1,hkk,hmd,hxd,x1])
     exact fin _ _ _ (by simp) rfl rfl
    have x1' : ¬ (x:Int)=1:=by omega
    rw [if_neg x1] at hql
    by_cases x0:x=0
    ·rw [if_pos x0] at hql;obtain ⟨⟨b2,s2⟩,hw2⟩ : ∃ p,Ss.ringW (bs.map Ss.tickB) g fuel m d=some p:=by
      cases hz:Ss.ringW (bs.map Ss.tickB) g fuel m d with
      | none=>rw [hz] at hql; cases hql
      | some q=>exact ⟨q,rfl⟩
     rw [hw2] at hql;have hs2:=Ss.ringW_len _ _ _ _ _ hw2;have x0':(x:Int)=0:=by omega
     repeat first|refine QG ?_|refine QY ?_ (r:=by conv=>lhs;simp[-List.map_set,QV,hkt,hm,ops,oos,hps,hos,h1,hkk,hmd,hxd,x1,x1',x0,x0'])
     repeat refine QS ?_
     refine QP ?_ (r:=by conv=>lhs;simp[-List.map_set,QV,hkt,hm,ops,oos,opw,hps,hos,hpw,h1,h2,hkk,hmd,hxd,x1,x1',x0,x0']);refine zT rfl rfl rfl (ih m d b2 s2 _ ps os pw hkk hdl (by rw [ops]; simp [uGet,h1,hps]) (by rw [oos]; simp [uGet]) (by rw [opw]; simp [uGet,h2,hpw]) h1 h2 hw2) ?_;rintro X S2 ⟨rfl,rfl⟩;rw [hupd];simp only [uSet,if_true]
     by_cases hb2:b2=true
     ·rw [hb2] at hql;simp only at hql
      cases hql
      simp only at hr
      cases hr
      refine QM (by conv=>lhs;simp[-List.map_set,QV,hb2]) ?_;refine QN ?_
      repeat first|refine QG ?_|refine QY ?_
      exact fin _ _ _ (by simp) rfl rfl
     ·have hb2':b2=false:=by simpa using hb2
      rw [hb2'] at hql;simp only at hql;refine QM (by conv=>lhs;simp[-List.map_set,QV,hb2']) ?_;refine QN ?_
      repeat first|refine QG ?_|refine QY ?_
      show jx _ _ _ _ _ _ _;exact again ⟨Nat.sub_lt_sub_left hkt (Nat.lt_succ_self k),k+1,s2,hkt,rfl,by omega,hql,by simp [Fr.only,hw],rfl⟩
    ·rw [if_neg x0] at hql;have x0' : ¬ (x:Int)=0:=by omega
     repeat first|refine QG ?_|refine QY ?_ (r:=by conv=>lhs;simp[-List.map_set,QV,hkt,hm,ops,oos,hps,hos,h1,hkk,hmd,hxd,x1,x1',x0,x0'])
     show jx _ _ _ _ _ _ _;exact again ⟨Nat.sub_lt_sub_left hkt (Nat.lt_succ_self k),k+1,d,hkt,rfl,hdl,hql,by simp [Fr.only,hw],rfl⟩
   ·have e1:row.drop k=[]:=by rw [List.drop_eq_nil_iff]; omega
    rw [e1,Ss.ringL] at hql
    cases hql
    simp only at hr
    cases hr
    have hnd:n<d.length:=by omega
    have e2:(d.map vnat).set n (.int .i64 2)=(d.set n 2).map vnat:=by simp [List.map_set,vnat]
    repeat first|refine QG ?_|refine QY ?_ (r:=by conv=>lhs;simp[-List.map_set,QV,hkt,ops,oos,hps,hos,h1,hn,hnd,hupd])
    rw [e2];exact fin _ _ _ (by simp) rfl rfl
end Go.Vw

namespace Go.Vw
open Go.Proofs Go.RowKit
set_option maxRecDepth 10000
set_option maxHeartbeats 4000000
theorem WD (f:Nat→Nat) (n:Nat) (k:IntKind) (x:Int):V.renL f (List.replicate n (V.int k x))=List.replicate n (V.int k x):=by
 rw [qN]; simp [V.ren]
theorem WN (p:Nat→Bool) (n:Nat) (k:IntKind) (x:Int):V.idsL p (List.replicate n (V.int k x))=true:=by
 rw [zf]; simp [V.ids]
theorem rings_v (f:Ss.Fn) (g:List (List Nat)) (hgl:g.length=f.blocks.length) (hgb:g.length≤4096) (hrow : ∀ r∈g,r.length<2^62 ∧ ∀ k∈r,k<g.length) (hcode : ∀ b∈f.blocks,b.code.length<2^63) :
  VPure Tryz.prog 105 [qD f,vl (vl vnat) g] (.bool (Ss.rings f.blocks g)):=by
 intro S;have hg0 : ∀ n, ∀ k∈g.getD n [],k<g.length:=by
  intro n k hk
  by_cases h:n<g.length
  ·rw [List.getD_eq_getElem?_getD,List.getElem?_eq_getElem h] at hk;exact (hrow _ (List.getElem_mem h)).2 k hk
  ·rw [List.getD_eq_getElem?_getD,List.getElem?_eq_none (by omega)] at hk;simp at hk
 obtain ⟨q,hq⟩:=Ss.ringM_ends (tick:=f.blocks.map Ss.tickB) (fuel:=g.length+1) hg0 (by omega) (List.range g.length) (List.replicate g.length 0) (by simp) (by simp);have hX:Ss.rings f.blocks g=q:=by simp [Ss.rings,hq]
 rw [hX];have cw:=rings1_v f g hgl (by omega) hrow hcode;obtain ⟨⟨fi,fo⟩,ts,bs⟩:=f;simp only at hq cw;have hb8:g.length*8≤140737488355328:=by omega
 have hb0:g.length≤140737488355328:=by omega
 refine jb (c:=jg Tryz.f105) Tryz.func105 rfl rfl (by simp [Tryz.ntmps105]) ?_;rw [Tryz.ntmps105];intro hwf
 repeat refine QS ?_
 refine QY ?_;refine QH 2 0 ?_;refine jz 3 rfl ((boxSt (k:=1) (by simp) (by rfl) (by rfl))) (by conv=>lhs; simp [Fr.set]) ?_;simp only [List.set_cons_succ,List.set_cons_zero]
 repeat first|refine QG ?_|refine QY ?_ (r:=by conv=>lhs;simp[-List.map_set,QV,hb8,hb0])
 refine jE [5,6,13,14] (by conv=>lhs; simp [Fr.only,Fr.look]) ?_;refine zp [2,3,4] hwf (by decide) (by simp [-List.map_set,WN,WD]) (by conv=>lhs; simp [-List.map_set,WN,WD]) (by conv=>lhs; simp [-List.map_set,WN,WD]) (by conv=>lhs; simp [-List.map_set,WN,WD]) ?_
 repeat refine QS ?_
 refine je [5,6,13,14] rfl (fun c σ S' => ∃ (k:Nat) (st:List Nat),k≤g.length∧c=g.length-k∧st.length=g.length∧Ss.ringM (bs.map Ss.tickB) g (g.length+1) ((List.range g.length).drop k) st=some q∧σ=[(5, .ptr (lid S.nx 1) 0),(6, .ptr (lid S.nx 2) 0),(13,vnat g.length),(14,vnat k)]∧S'=St S [] [some (1,st.map vnat),some (1,[.slice (lid S.nx 0) 0 g.length]),some (1,[.func 130 [.ref (.agg [vl vint fi,vl vint fo,vl vint ts,vl jd bs]), .ptr (lid S.nx 1) 0, .ref (vl (vl vnat) g), .ptr (lid S.nx 2) 0]])]) g.length ?_ ?_
 ·exact ⟨0,List.replicate g.length 0,by omega,rfl,by simp,hq,by simp [Fr.only],by simp [vnat]⟩
 ·rintro c σ T ⟨k,st,hk,rfl,hsl,hm,rfl,rfl⟩
  by_cases hkt:k<g.length
  ·have hw:=jo hkt (by omega);rw [List.drop_eq_getElem_cons (by simpa using hkt),List.getElem_range,Ss.ringM] at hm;have hks:k<st.length:=by omega
   obtain ⟨x,hx⟩ : ∃ x,st[k]=x:=⟨_,rfl⟩
   have hgd:st.getD k 0=x:=by simp [hks,hx]
   rw [hgd] at hm
   by_cases x0:x=0
   ·rw [if_pos x0] at hm;have x0':(x:Int)=0:=by omega
    obtain ⟨⟨b,s⟩,hwk⟩ : ∃ p,Ss.ringW (bs.map Ss.tickB) g (g.length+1) k st=some p:=by
     cases hz:Ss.ringW (bs.map Ss.tickB) g (g.length+1) k st with
     | none=>rw [hz] at hm; cases hm
     | some p=>exact ⟨p,rfl⟩
    rw [hwk] at hm;have hs2:=Ss.ringW_len _ _ _ _ _ hwk
    repeat first|refine QG ?_|refine QY ?_ (r:=by conv=>lhs;simp[-List.map_set,QV,hkt,hks,hx,x0,x0'])
    repeat refine QS ?_
    refine QP ?_ (r:=by conv=>lhs;simp[-List.map_set,QV,hkt,hks,hx,x0,x0']);refine zT rfl rfl rfl (cw (g.length+1) k st b s _ (lid S.nx 1) (lid S.nx 0) (lid S.nx 2) hkt hsl (by simp) (by simp) (by simp) (by simp [lid]) (by simp [lid]) hwk) ?_;rintro X S2 ⟨rfl,rfl⟩;rw [JS (by simp)];simp only [List.set_cons_succ,List.set_cons_zero]
    by_cases hb:b=true
    ·rw [hb] at hm;simp only [Option.some.injEq] at hm;refine QM (by conv=>lhs;simp[-List.map_set,QV,hb]) ?_;refine QN ?_
     repeat first|refine QG ?_|refine QY ?_
     exact ja hwf (by simp [←hm]) rfl
    ·have hb':b=false:=by simpa using hb
     rw [hb'] at hm;simp only at hm;refine QM (by conv=>lhs;simp[-List.map_set,QV,hb']) ?_;refine QN ?_
     repeat first|refine QG ?_|refine QY ?_
     show jx _ _ _ _ _ _ _;exact again ⟨Nat.sub_lt_sub_left hkt (Nat.lt_succ_self k),k+1,s,hkt,rfl,by omega,hm,by simp [Fr.only,hw],rfl⟩
   ·rw [if_neg x0] at hm;have x0' : ¬ (x:Int)=0:=by omega
    repeat first|refine QG ?_|refine QY ?_ (r:=by conv=>lhs;simp[-List.map_set,QV,hkt,hks,hx,x0,x0'])
    show jx _ _ _ _ _ _ _;exact again ⟨Nat.sub_lt_sub_left hkt (Nat.lt_succ_self k),k+1,st,hkt,rfl,hsl,hm,by simp [Fr.only,hw],rfl⟩
  ·have e1:(List.range g.length).drop k=[]:=by rw [List.drop_eq_nil_iff]; simp; omega
   rw [e1,Ss.ringM] at hm
   cases hm
   repeat first|refine QG ?_|refine QY ?_ (r:=by conv=>lhs;simp[-List.map_set,QV,hkt])
   exact ja hwf rfl rfl
end Go.Vw
