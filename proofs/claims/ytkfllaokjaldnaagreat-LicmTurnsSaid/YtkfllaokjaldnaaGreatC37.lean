import Derived.Test.YtkfllaokjaldnaaGreatC36
import Derived.Test.YtkfllaokjaldnaaGreatC12
import Derived.Test.YtkfllaokjaldnaaGreatC34
import Derived.Test.YtkfllaokjaldnaaGreatC27
import Derived.Test.YtkfllaokjaldnaaGreatC20
import Derived.Test.YtkfllaokjaldnaaGreatC31
/-
  Part of the proof (texts LRPor, LHomeP, LTurn, LGA).
-/
set_option linter.unusedVariables false
set_option linter.unusedSimpArgs false
namespace Go.Vw
open Go.Proofs Go.RowKit
set_option maxRecDepth 10000
set_option maxHeartbeats 4000000
theorem RIn_v (l:List Int) (n:Int) (hl:l.length<2^63):VPure Tryz.prog 60 [vl vint l,vint n] (.bool (decide (n∈l))):=by
 intro S;refine jb (c:=jg Tryz.f60) Tryz.func60 rfl rfl (by simp [Tryz.ntmps60]) ?_;rw [Tryz.ntmps60];intro hwf
 repeat first|refine QG ?_|refine QY ?_
 repeat refine QS ?_
 refine je [0,1,5] rfl (fun c σ S' => ∃ (k:Nat),k≤l.length∧c=l.length-k∧decide (n∈l.drop k)=decide (n∈l)∧σ=[(0,vl vint l),(1,vint n),(5,vnat k)]∧S'=St S [] []) l.length ?_ ?_
 ·exact ⟨0,by omega,rfl,rfl,by simp [Fr.only],rfl⟩
 ·rintro c σ T ⟨k,hk,rfl,hd,rfl,rfl⟩
  by_cases hkt:k<l.length
  ·have hw:=jo hkt hl;rw [List.drop_eq_getElem_cons hkt] at hd
   by_cases hp:l[k]=n
   ·have h1:decide (n∈l)=true:=decide_eq_true (hp▸List.getElem_mem hkt);rw [h1]
    repeat first|refine QG ?_|refine QY ?_ (r:=by conv=>lhs;simp[-List.map_set,QV,hkt,hp])
    exact ja hwf rfl rfl
   ·have h1:decide (n∈l.drop (k+1))=decide (n∈l):=by
     rw [←hd,Bool.eq_iff_iff,decide_eq_true_iff,decide_eq_true_iff,List.mem_cons];exact ⟨.inr,fun h=>h.resolve_left (Ne.symm hp)⟩
    repeat first|refine QG ?_|refine QY ?_ (r:=by conv=>lhs;simp[-List.map_set,QV,hkt,hp,hw])
    show jx _ _ _ _ _ _ _;exact again ⟨Nat.sub_lt_sub_left hkt (Nat.lt_succ_self k),k+1,hkt,rfl,h1,by simp [Fr.only,Fr.look],rfl⟩
  ·have e:l.drop k=[]:=by rw [List.drop_eq_nil_iff]; omega
   rw [e] at hd;have h1:decide (n∈l)=false:=by rw [←hd]; simp
   rw [h1]
   repeat first|refine QG ?_|refine QY ?_ (r:=by conv=>lhs;simp[-List.map_set,QV,hkt])
   exact ja hwf rfl rfl
theorem RPorch_v (f:Ss.Fn) (hf:f.Fits) (head:Int) (nodes:List Int) (hn:nodes.length<2^63):VPure Tryz.prog 21 [qD f,vint head,vl vint nodes] (WG (Ss.porchF f head nodes)):=by
 intro S;have cs:=KQ f hf;have cc:=fun x=>RIn_v nodes x hn
 have hsb := @qd f;have hfb:=hf.2.2.2;generalize hsm:f.small=sm at *
 cases sm with
 | false =>
  have hr:Ss.porchF f head nodes=none:=by unfold Ss.porchF; rw [hsm]; rfl
  rw [hr];clear hr hsm hsb hf;obtain ⟨⟨fi,fo⟩,ts,bs⟩:=f;have cs':VPure Tryz.prog 35 [.agg [vl vint fi,vl vint fo,vl vint ts,vl jd bs]] (.bool false):=cs;refine jb (c:=jg Tryz.f21) Tryz.func21 rfl rfl (by simp [Tryz.ntmps21]) ?_;rw [Tryz.ntmps21];intro hwf
  repeat first|refine QG ?_|refine QY ?_
  repeat refine QS ?_
  refine QP ?_;refine jc (cs') (by rfl) ?_;refine QW ?_
  repeat first|refine QG ?_|refine QY ?_
  exact ja hwf rfl rfl
 | true =>
 obtain ⟨rows,hrows⟩ : ∃ rows,rows=Ss.succs f.blocks:=⟨_,rfl⟩
 obtain ⟨_,hb1,hb2,_⟩:=hsb rfl;obtain ⟨R,hR⟩ : ∃ R,Ss.scanG head nodes 0 rows (0,0)=R:=⟨_,rfl⟩
 have hsp:=(Ss.scan_spec head nodes rows 0 (0,0)).2.2;rw [hR] at hsp;have hres:Ss.porchF f head nodes=if R.2≠1∨(f.blocks.getD R.1.toNat default).term.kind≠1 then none else some R.1:=by
  unfold Ss.porchF Ss.porch;rw [hsm,if_pos rfl, ←hrows,hR]
 have hin:R.2=1 → ∃ j:Nat,R.1=(j:Int)∧j<f.blocks.length:=fun h=>by
  obtain ⟨j,l,h1,_,_,h4,_⟩:=hsp (by simpa using h);refine ⟨j,by simpa using h4, ?_⟩;have:=(List.getElem?_eq_some_iff.1 h1).1;rw [hrows] at this;simpa [Ss.succs] using this
 rw [hres];clear hres hsp hsb hf hsm;obtain ⟨⟨fi,fo⟩,ts,bs⟩:=f;have cs':VPure Tryz.prog 35 [.agg [vl vint fi,vl vint fo,vl vint ts,vl jd bs]] (.bool true):=cs;simp only at *
 have hrl:rows.length=bs.length:=by rw [hrows]; simp [Ss.succs]
 refine jb (c:=jg Tryz.f21) Tryz.func21 rfl rfl (by simp [Tryz.ntmps21]) ?_;rw [Tryz.ntmps21];intro hwf
 repeat refine QS ?_
 refine QY ?_;refine QH 3 0 ?_;refine jE [1,2,3] (by conv=>lhs; simp [Fr.only,Fr.look]) ?_;refine zp [] hwf (by decide) (by simp [-List.map_set]) (by conv=>lhs; simp [-List.map_set]) (by conv=>lhs; simp [-List.map_set]) (by conv=>lhs; simp [-List.map_set]) ?_
 repeat refine QS ?_
 refine QP ?_;refine jc (cs') (by rfl) ?_;refine QW ?_
 repeat first|refine QG ?_|refine QY ?_
 repeat refine QS ?_
 refine je [1,2,3,8,9,10] rfl (fun c σ S' => ∃ (k:Nat) (at':Int) (many:Nat),k≤bs.length∧c=bs.length-k∧many≤4096*k∧Ss.scanG head nodes k (rows.drop k) (at',many)=R∧σ=[(1,vint head),(2,vl vint nodes),(3,(V.agg [vl vint fi,vl vint fo,vl vint ts,vl jd bs]).ref),(8,vint at'),(9,vnat many),(10,vnat k)]∧S'=St S [] []) bs.length ?_ ?_
 ·exact ⟨0,0,0,by omega,rfl,by omega,hR,by simp [Fr.only],rfl⟩
 ·rintro c σ T ⟨k,at',many,hk,rfl,hm,hsc,rfl,rfl⟩
  by_cases hkt:k<bs.length
  ·have hw:=jo hkt (by omega);have hkr:k<rows.length:=by omega
   rw [List.drop_eq_getElem_cons hkr,Ss.scanG] at hsc;have hr4:=(hb2 _ (List.getElem_mem hkt)).2.1;have hrow:rows[k]=Ss.rowOf bs[k]:=by subst hrows; simp [Ss.succs]
   obtain ⟨⟨ps,code,⟨tk,ta,to,az⟩⟩,hx⟩ : ∃ b,bs[k]=b:=⟨_,rfl⟩
   rw [hrow] at hsc;rw [hx] at hsc hr4;have hsc0:Ss.scanG head nodes (k+1) (rows.drop (k+1)) (if (k:Int)∈nodes then (at',many) else Ss.scanRow head k ((to.drop 0).map Ss.Edge.to) (at',many))=R:=hsc;simp only at hr4
   repeat first|refine QG ?_|refine QY ?_ (r:=by conv=>lhs;simp[-List.map_set,QV,hkt])
   repeat refine QS ?_
   refine je [1,2,3,8,9,10,11] rfl (fun c σ S' => ∃ (j:Nat) (at':Int) (many:Nat),j≤to.length∧c=to.length-j∧many≤4096*k+j∧Ss.scanG head nodes (k+1) (rows.drop (k+1)) (if (k:Int)∈nodes then (at',many) else Ss.scanRow head k ((to.drop j).map Ss.Edge.to) (at',many))=R∧σ=[(1,vint head),(2,vl vint nodes),(3,(V.agg [vl vint fi,vl vint fo,vl vint ts,vl jd bs]).ref),(8,vint at'),(9,vnat many),(10,vnat k),(11,vnat j)]∧S'=St S [] []) to.length ?_ ?_
   ·exact ⟨0,at',many,by omega,rfl,by omega,hsc0,by simp [Fr.only,Fr.look],rfl⟩
   ·rintro c σ T ⟨j,at',many,hj,rfl,hm,hsc,rfl,rfl⟩
    by_cases hjt:j<to.length
    ·have hwj:=jo hjt (by omega);have hwm:=jo (k:=many) (n:=many+1) (by omega) (by omega);rw [List.drop_eq_getElem_cons hjt,List.map_cons,Ss.scanRow_cons] at hsc;obtain ⟨⟨xt,xa⟩,hx2⟩ : ∃ b,to[j]=b:=⟨_,rfl⟩
     rw [hx2] at hsc;simp only at hsc
     by_cases he:xt=head
     ·rw [if_pos he] at hsc
      by_cases hin2:(k:Int)∈nodes
      ·rw [if_pos hin2] at hsc;have hsc':Ss.scanG head nodes (k+1) (rows.drop (k+1)) (if (k:Int)∈nodes then (at',many) else Ss.scanRow head k ((to.drop (j+1)).map Ss.Edge.to) (at',many))=R:=by rw [if_pos hin2]; exact hsc
       repeat first|refine QG ?_|refine QY ?_ (r:=by conv=>lhs;simp[-List.map_set,QV,hkt,hx,hjt])
       repeat refine QS ?_
       refine QP ?_ (r:=by conv=>lhs;simp[-List.map_set,QV,hkt,hx,hjt,hx2,he]);refine jn rfl (cc (k:Int)) ?_;refine QM (by conv=>lhs;simp[-List.map_set,QV,hin2]) ?_;refine QN ?_
       repeat first|refine QG ?_|refine QY ?_ (r:=by conv=>lhs;simp[-List.map_set,QV,hin2,hwj])
       show jx _ _ _ _ _ _ _;exact again ⟨Nat.sub_lt_sub_left hjt (Nat.lt_succ_self j),j+1,at',many,hjt,rfl,by omega,hsc',by simp [Fr.only,Fr.look],rfl⟩
      ·rw [if_neg hin2] at hsc;have hsc':Ss.scanG head nodes (k+1) (rows.drop (k+1)) (if (k:Int)∈nodes then ((k:Int),many+1) else Ss.scanRow head k ((to.drop (j+1)).map Ss.Edge.to) ((k:Int),many+1))=R:=by rw [if_neg hin2]; exact hsc
       repeat first|refine QG ?_|refine QY ?_ (r:=by conv=>lhs;simp[-List.map_set,QV,hkt,hx,hjt])
       repeat refine QS ?_
       refine QP ?_ (r:=by conv=>lhs;simp[-List.map_set,QV,hkt,hx,hjt,hx2,he]);refine jn rfl (cc (k:Int)) ?_;refine QM (by conv=>lhs;simp[-List.map_set,QV,hin2]) ?_;refine QN ?_
       repeat first|refine QG ?_|refine QY ?_ (r:=by conv=>lhs;simp[-List.map_set,QV,hin2,hwj,hwm])
       show jx _ _ _ _ _ _ _;exact again ⟨Nat.sub_lt_sub_left hjt (Nat.lt_succ_self j),j+1,(k:Int),many+1,hjt,rfl,by omega,hsc',by simp [Fr.only,Fr.look],rfl⟩
     ·rw [if_neg he] at hsc
      repeat first|refine QG ?_|refine QY ?_ (r:=by conv=>lhs;simp[-List.map_set,QV,hkt,hx,hjt])
      repeat refine QS ?_
      refine QY ?_ (r:=by conv=>lhs;simp[-List.map_set,QV,hkt,hx,hjt,hx2,he])
      repeat first|refine QG ?_|refine QY ?_ (r:=by conv=>lhs;simp[-List.map_set,QV,hwj])
      show jx _ _ _ _ _ _ _;exact again ⟨Nat.sub_lt_sub_left hjt (Nat.lt_succ_self j),j+1,at',many,hjt,rfl,by omega,hsc,by simp [Fr.only,Fr.look],rfl⟩
    ·have e:to.drop j=[]:=by rw [List.drop_eq_nil_iff]; omega
     rw [e] at hsc;have hsc':Ss.scanG head nodes (k+1) (rows.drop (k+1)) (at',many)=R:=by
      revert hsc; split<;>exact id
     repeat first|refine QG ?_|refine QY ?_ (r:=by conv=>lhs;simp[-List.map_set,QV,hkt,hx,hjt,hw])
     show jx _ _ _ _ _ _ _;exact again ⟨Nat.sub_lt_sub_left hkt (Nat.lt_succ_self k),k+1,at',many,hkt,rfl,by omega,hsc',by simp [Fr.only,Fr.look],rfl⟩
  ·have e:rows.drop k=[]:=by rw [List.drop_eq_nil_iff]; omega
   rw [e] at hsc;have hsc':(at',many)=R:=hsc;subst hsc';simp only at hin ⊢
   by_cases h1:many=1
   ·obtain ⟨q,rfl,hq⟩:=hin h1;obtain ⟨⟨ps,code,⟨tk,ta,to,az⟩⟩,hx⟩ : ∃ b,bs[q]=b:=⟨_,rfl⟩
    have hgd:bs.getD ((q:Int)).toNat default=⟨ps,code,⟨tk,ta,to,az⟩⟩:=by rw [List.getD_eq_getElem?_getD,Int.toNat_natCast,List.getElem?_eq_getElem hq,hx]; rfl
    rw [hgd];subst h1
    by_cases ht:tk=1
    ·subst ht;rw [if_neg (by simp)]
     repeat first|refine QG ?_|refine QY ?_ (r:=by conv=>lhs;simp[-List.map_set,QV,hkt,hq,hx])
     exact ja hwf rfl rfl
    ·rw [if_pos (.inr ht)]
     repeat first|refine QG ?_|refine QY ?_ (r:=by conv=>lhs;simp[-List.map_set,QV,hkt,hq,hx,ht])
     exact ja hwf rfl rfl
   ·rw [if_pos (.inl h1)];have h2 : ¬ (many:Int)=1:=by omega
    repeat first|refine QG ?_|refine QY ?_ (r:=by conv=>lhs;simp[-List.map_set,QV,hkt,h1,h2])
    exact ja hwf rfl rfl
end Go.Vw

namespace Ss
/-! ### Where each value is made: the table -/
def hmPut (i:Int) (out:List Int) (l:List Int):List Int:=l.foldl (fun o v=>o.set v.toNat i) out
def hmCode (i:Int) (out:List Int) (code:List Ins):List Int:=code.foldl (fun o x=>hmPut i o x.outs) out
def hmBlk (i:Int) (out:List Int) (b:Block):List Int:=hmCode i (hmPut i out b.params) b.code
def hmAll:Nat→List Block→List Int→List Int
 | _,[],o=>o
 | i,b::r,o=>hmAll (i+1) r (hmBlk (i:Int) o b)
def homesI (f:Fn):List Int:=hmAll 0 f.blocks (List.replicate f.types.length 0)
theorem Kz (i:Int) : ∀ (l out:List Int),(hmPut i out l).length=out.length
 | [],out=>rfl
 | v::l,out=>by
  have:=Kz i l (out.set v.toNat i);rw [List.length_set] at this;exact this
theorem jbw (i:Int) : ∀ (l:List Ins) (out:List Int),(hmCode i out l).length=out.length
 | [],out=>rfl
 | x::l,out=>(jbw i l (hmPut i out x.outs)).trans (Kz i x.outs out)
theorem hmBlk_len (i:Int) (out:List Int) (b:Block):(hmBlk i out b).length=out.length:=(jbw i _ _).trans (Kz i _ _)
theorem hmAll_len : ∀ (bs:List Block) (i:Nat) (out:List Int),(hmAll i bs out).length=out.length
 | [],_,_=>rfl
 | b::r,i,out=>(hmAll_len r (i+1) _).trans (hmBlk_len _ _ _)
theorem homesI_len (f:Fn):(homesI f).length=f.types.length:=by rw [homesI,hmAll_len,List.length_replicate]
theorem jcn (i:Int) {N:Nat} {v:Int} (hv:InR N v) : ∀ (l out:List Int),out.length=N→(∀ w∈l,InR N w)→(hmPut i out l).getD v.toNat 0=if v∈l then i else out.getD v.toNat 0
 | [],out,_,_=>by simp [hmPut]
 | w::l,out,ho,hl=>by
  have ih:=jcn i hv l (out.set w.toNat i) (by simpa using ho) (fun u hu=>hl u (by simp [hu]));have e:hmPut i out (w::l)=hmPut i (out.set w.toNat i) l:=rfl;rw [e,ih];have hw:=hl w (by simp)
  by_cases h1:v∈l
  ·rw [if_pos h1,if_pos (by simp [h1])]
  ·rw [if_neg h1]
   by_cases h2:v=w
   ·subst h2;rw [if_pos (by simp),List.getD_eq_getElem?_getD,List.getElem?_set_self (by have:=hv.1; have:=hv.2; omega)]; rfl
   ·rw [if_neg (by simp [h1,h2]),List.getD_eq_getElem?_getD,List.getElem?_set_ne (by have:=hv.1; have:=hw.1; omega),List.getD_eq_getElem?_getD]
theorem hmCode_at (i:Int) {N:Nat} {v:Int} (hv:InR N v) : ∀ (l:List Ins) (out:List Int),out.length=N→(∀ x∈l, ∀ w∈x.outs,InR N w)→(hmCode i out l).getD v.toNat 0=if v∈zW l then i else out.getD v.toNat 0
 | [],out,_,_=>by simp [hmCode,zW]
 | x::l,out,ho,hl=>by
  have ih:=hmCode_at i hv l (hmPut i out x.outs) (by rw [Kz]; exact ho) (fun u hu=>hl u (by simp [hu]));have e:hmCode i out (x::l)=hmCode i (hmPut i out x.outs) l:=rfl;rw [e,ih,jcn i hv _ _ ho (hl x (by simp))];have e2:zW (x::l)=x.outs++zW l:=by simp [zW]
  rw [e2]
  by_cases h1:v∈zW l
  ·rw [if_pos h1,if_pos (by simp [h1])]
  ·rw [if_neg h1]
   by_cases h2:v∈x.outs
   ·rw [if_pos h2,if_pos (by simp [h2])]
   ·rw [if_neg h2,if_neg (by simp [h1,h2])]
theorem hmBlk_at (i:Int) {N:Nat} {v:Int} (hv:InR N v) (b:Block) (out:List Int) (ho:out.length=N) (hp : ∀ w∈b.params,InR N w) (hl : ∀ x∈b.code, ∀ w∈x.outs,InR N w):(hmBlk i out b).getD v.toNat 0=if v∈allB b then i else out.getD v.toNat 0:=by
 rw [hmBlk,hmCode_at i hv _ _ (by rw [Kz]; exact ho) hl,jcn i hv _ _ ho hp,allB]
 by_cases h1:v∈zW b.code
 ·rw [if_pos h1,if_pos (by simp [h1])]
 ·rw [if_neg h1]
  by_cases h2:v∈b.params
  ·rw [if_pos h2,if_pos (by simp [h2])]
  ·rw [if_neg h2,if_neg (by simp [h1,h2])]
theorem hmAll_at {N:Nat} {v:Int} (hv:InR N v) : ∀ (bs:List Block) (i:Nat) (out:List Int),out.length=N→(∀ b∈bs, ∀ w∈b.params,InR N w)→(∀ b∈bs, ∀ x∈b.code, ∀ w∈x.outs,InR N w)→(allL bs).Nodup →
  (v∉allL bs→(hmAll i bs out).getD v.toNat 0=out.getD v.toNat 0) ∧ ∀ (j:Nat) (b:Block),bs[j]? = some b→v∈allB b→(hmAll i bs out).getD v.toNat 0=((i+j:Nat):Int)
 | [],i,out,_,_,_,_=>⟨fun _=>rfl,by simp⟩
 | b::r,i,out,ho,hp,hl,hnd=>by
  have eL:allL (b::r)=allB b++allL r:=by simp [allL]
  rw [eL] at hnd;obtain ⟨_,n2,n3⟩:=List.nodup_append.1 hnd;obtain ⟨k1,k2⟩:=hmAll_at hv r (i+1) (hmBlk (i:Int) out b) (by rw [hmBlk_len]; exact ho) (fun c hc=>hp c (by simp [hc])) (fun c hc=>hl c (by simp [hc])) n2;have hb:=hmBlk_at (i:Int) hv b out ho (hp b (by simp)) (hl b (by simp));rw [eL,hmAll];refine ⟨fun hn => ?_,fun j c hj hc => ?_⟩
  ·simp only [List.mem_append,not_or] at hn;rw [k1 hn.2,hb,if_neg hn.1]
  ·cases j with
   | zero =>
    simp only [List.getElem?_cons_zero,Option.some.injEq] at hj;subst hj;rw [k1 (fun h=>n3 v hc v h rfl),hb,if_pos hc]; rfl
   | succ j =>
    rw [k2 j c (by simpa using hj) hc]
    congr 1; omega
theorem all_in {f:Fn} (hd:DOk f) : ∀ v∈allL f.blocks,InR f.types.length v:=fun v hv=>by
 obtain ⟨b,hb,hv⟩:=List.mem_flatMap.1 hv;rcases List.mem_append.1 hv with h | h
 ·exact hd.pars b hb v h
 ·obtain ⟨x,hx,h⟩:=List.mem_flatMap.1 h;exact hd.outs b hb x hx v h
theorem homes_home {e:Env} {f:Fn} (h:check e f=true) : ∀ v∈allL f.blocks,(homesI f).getD v.toNat 0=homeOf f v:=by
 intro v hv;have hd:=check_dok h;obtain ⟨_,ds,hds,_,_⟩:=check_spec h;obtain ⟨hnd,_,hout⟩:=Jf hds;obtain ⟨b,hb,hvb⟩:=List.mem_flatMap.1 hv;obtain ⟨j,hj⟩:=List.mem_iff_getElem?.1 hb;have:=(hmAll_at (all_in hd v hv) f.blocks 0 (List.replicate f.types.length 0) (by simp) hd.pars hd.outs hnd).2 j b hj hvb;rw [homesI,this,Nat.zero_add];simp only [homeOf,hds,Option.getD_some];rcases List.mem_append.1 hvb with hp | ho
 ·have:=qj hds j b hj v hp;rw [Nat.zero_add] at this;exact (congrArg Def.block this).symm
 ·obtain ⟨y,hy,hvy⟩:=List.mem_flatMap.1 ho;obtain ⟨k,hk⟩:=List.mem_iff_getElem?.1 hy;exact (congrArg Def.block (hout j b hj k y hk v hvy)).symm
theorem arg_made {e:Env} {f:Fn} (h:check e f=true) : ∀ b∈f.blocks, ∀ x∈b.code, ∀ a∈x.args,a∈allL f.blocks:=by
 intro b hb x hx a ha;obtain ⟨_,ds,hds,_,hbs⟩:=check_spec h;obtain ⟨_,hmade,_⟩:=Jf hds;obtain ⟨j,hj⟩:=List.mem_iff_getElem?.1 hb;obtain ⟨k,hk⟩:=List.mem_iff_getElem?.1 hx;obtain ⟨c1,_⟩:=qG hbs hj;have hins:=zo c1 hk;simp only [insOk,Bool.and_eq_true] at hins;obtain ⟨t,ht⟩:=jaC hins.2 a ha;simp only [askOk,Bool.and_eq_true,decide_eq_true_eq] at ht;obtain ⟨⟨⟨⟨q1,q2⟩,q3⟩,q4⟩,q5⟩:=ht;exact hmade a q1 q4
end Ss

namespace Ss
open Go.Vw.G
def moved (f:Fn) (p n i:Nat):Fn:=⟨f.sig,f.types,moveAt f.blocks p n i⟩
noncomputable def Ky:Nat→Fn→Fn
 | 0,f=>f
 | k+1,f=>match first f.blocks (homeOf f) (lps f.blocks) with
  | none=>f
  | some m=>Ky k (moved f m.1 m.2.1 m.2.2)
noncomputable def wt (f:Fn):Nat:=weigh (rk (nats (succs f.blocks)) (order (nats (succs f.blocks)))) 0 f.blocks
noncomputable def licF (f:Fn):Fn:=Ky (wt f+1) f
noncomputable def licOut (e:Env) (f:Fn):Fn × Int:=if check e f then (licF f,0) else (emptyFn,6)
theorem licOut_t {e:Env} {f:Fn} (h:check e f=true):licOut e f=(licF f,0):=by simp [licOut,h]
theorem licOut_f {e:Env} {f:Fn} (h:check e f=false):licOut e f=(emptyFn,6):=by simp [licOut,h]
theorem Jn (k:Nat) {f:Fn} (h:first f.blocks (homeOf f) (lps f.blocks)=none):Ky k f=f:=by
 cases k with
 | zero=>rfl
 | succ k=>rw [Ky,h]
theorem WL (k:Nat) {f:Fn} {p n i:Nat} (h:first f.blocks (homeOf f) (lps f.blocks)=some (p,n,i)):Ky (k+1) f=Ky k (moved f p n i):=by rw [Ky,h]
theorem ZN {e:Env} {f:Fn} (h:check e f=true) {p n i:Nat} (hf:first f.blocks (homeOf f) (lps f.blocks)=some (p,n,i)) :
  check e (moved f p n i)=true∧succs (moved f p n i).blocks=succs f.blocks∧wt (moved f p n i)<wt f:=by
 obtain ⟨bp,bn,x,hm,hx,hc,hr⟩:=Zv h hf;have hs:succs (moved f p n i).blocks=succs f.blocks:=hm.succs;refine ⟨hc,hs, ?_⟩;unfold wt;rw [hs];exact hm.weigh hr
theorem lic_inv {P:Fn→Prop} {e:Env} (hs : ∀ f p n i,check e f=true→P f→first f.blocks (homeOf f) (lps f.blocks)=some (p,n,i)→P (moved f p n i)) : ∀ k f,check e f=true→P f→check e (Ky k f)=true∧P (Ky k f)
 | 0,f,h,hp=>⟨h,hp⟩
 | k+1,f,h,hp=>by
  cases hf:first f.blocks (homeOf f) (lps f.blocks) with
  | none=>rw [Jn _ hf]; exact ⟨h,hp⟩
  | some m =>
   obtain ⟨p,n,i⟩:=m;rw [WL _ hf];exact lic_inv hs k _ (ZN h hf).1 (hs f p n i h hp hf)
theorem lic_end {e:Env} : ∀ k f,check e f=true→wt f<k→first (Ky k f).blocks (homeOf (Ky k f)) (lps (Ky k f).blocks)=none
 | 0,f,h,hk=>by omega
 | k+1,f,h,hk=>by
  cases hf:first f.blocks (homeOf f) (lps f.blocks) with
  | none=>rw [Jn _ hf]; exact hf
  | some m =>
   obtain ⟨p,n,i⟩:=m;rw [WL _ hf];obtain ⟨h1,h2,h3⟩:=ZN h hf;exact lic_end k _ h1 (by omega)
theorem licF_check {e:Env} {f:Fn} (h:check e f=true):check e (licF f)=true:=(lic_inv (P:=fun _=>True) (fun _ _ _ _ _ _ _=>trivial) _ f h trivial).1
def bare (b:Block):Block:=⟨b.params,[],b.term⟩
theorem moved_fits {f:Fn} {p n i:Nat} {bp bn:Block} {x:Ins} (hm:Mv f.blocks p n i bp bn x) (hf:f.Fits) (hl:bp.code.length<140737488355328):(moved f p n i).Fits:=by
 obtain ⟨h1,h2,h3,h4⟩:=hf;refine ⟨h1,h2,by rw [moved]; simp only [hm.len]; exact h3,fun c hc => ?_⟩;obtain ⟨j,hj⟩:=List.mem_iff_getElem?.1 hc;have hj':(moveAt f.blocks p n i)[j]? = some c:=hj;rw [hm.at j] at hj';split at hj'
 ·cases hj'
  obtain ⟨k1,⟨k2,k3⟩,k4⟩:=h4 bp (List.mem_of_getElem? hm.hp);obtain ⟨_,⟨_,m3⟩,_⟩:=h4 bn (List.mem_of_getElem? hm.hn);refine ⟨k1,⟨by simp [endWith]; omega,fun y hy => ?_⟩,k4⟩;rcases List.mem_append.1 hy with hy | hy
  ·exact k3 y hy
  ·rw [List.mem_singleton] at hy; subst hy; exact m3 _ (List.mem_of_getElem? hm.hi)
 ·split at hj'
  ·cases hj'
   obtain ⟨k1,⟨k2,k3⟩,k4⟩:=h4 bn (List.mem_of_getElem? hm.hn);refine ⟨k1,⟨Nat.le_trans (List.length_eraseIdx_le _ _) k2,fun y hy=>k3 y (List.mem_of_mem_eraseIdx hy)⟩,k4⟩
  ·exact h4 c (List.mem_of_getElem? hj')
theorem check_code {e:Env} {f:Fn} (h:check e f=true) : ∀ b∈f.blocks,b.code.length≤4096:=fun b hb=>by
 have h1:=((small_iff f).1 (check_small h)).2.2;have h2:=Go.Vw.count_mem hb;omega
theorem ZO {e:Env} {f:Fn} (h:check e f=true) (hf:f.Fits) {p n i:Nat} (hs:first f.blocks (homeOf f) (lps f.blocks)=some (p,n,i)):(moved f p n i).Fits:=by
 obtain ⟨bp,bn,x,hm,_⟩:=Zv h hs;have:=check_code h bp (List.mem_of_getElem? hm.hp);exact moved_fits hm hf (by omega)
theorem licF_fits {e:Env} {f:Fn} (h:check e f=true) (hf:f.Fits):(licF f).Fits:=(lic_inv (P:=Fn.Fits) (fun g p n i hg hp hs=>ZO hg hp hs) _ f h hf).2
theorem licOut_fits (e:Env) {f:Fn} (hf:f.Fits):(licOut e f).1.Fits:=by
 unfold licOut;split
 ·rename_i h; exact licF_fits h hf
 ·exact emptyFn_fits
theorem licOut_small (e:Env) (f:Fn):(licOut e f).1.small=true:=by
 unfold licOut;split
 ·rename_i h; exact check_small (licF_check h)
 ·rfl
theorem move_home {e:Env} {f:Fn} (h:check e f=true) {p n i:Nat} {bp bn:Block} {x:Ins} (hm:Mv f.blocks p n i bp bn x) (hc:check e (moved f p n i)=true) : ∀ v∈allL f.blocks,homeOf (moved f p n i) v=if v∈x.outs then (p:Int) else homeOf f v:=by
 obtain ⟨_,ds,hds,_,_⟩:=check_spec h;obtain ⟨_,ds',hds',_,_⟩:=check_spec hc;obtain ⟨hnd,hmade,hout⟩:=Jf hds;obtain ⟨_,hmade',hout'⟩:=Jf hds';have e1 : ∀ v:Int,homeOf f v=(dAt ds v).block:=fun v=>by simp only [homeOf,hds,Option.getD_some]
 have e2 : ∀ v:Int,homeOf (moved f p n i) v=(dAt ds' v).block:=fun v=>by simp only [homeOf,hds',Option.getD_some]
 have hat:=hm.at;have hxn : ∀ v∈x.outs,dAt ds v=⟨true,n,i⟩:=fun v hv=>hout n bn hm.hn i x hm.hi v hv
 intro v hv;rw [e1,e2];obtain ⟨b2,hb2,hv2⟩:=List.mem_flatMap.1 hv;obtain ⟨j,hj⟩:=List.mem_iff_getElem?.1 hb2;have blk : ∃ c,(moved f p n i).blocks[j]? = some c∧c.params=b2.params:=by
  have:=hat j
  by_cases e1:j=p
  ·subst e1; rw [if_pos rfl] at this; rw [hm.hp] at hj; cases hj; exact ⟨_,this,rfl⟩
  ·rw [if_neg e1] at this
   by_cases e2:j=n
   ·subst e2; rw [if_pos rfl] at this; rw [hm.hn] at hj; cases hj; exact ⟨_,this,rfl⟩
   ·rw [if_neg e2,hj] at this; exact ⟨_,this,rfl⟩
 rcases List.mem_append.1 hv2 with hp | ho
 ·have a1:=qj hds j b2 hj v hp;obtain ⟨c,hc,hcp⟩:=blk;have a2:=qj hds' j c hc v (by rw [hcp]; exact hp);have hno:v∉x.outs:=fun hxv=>by
   have:=hxn v hxv;rw [this] at a1;have:=congrArg Def.pos a1;simp only at this;omega
  rw [if_neg hno,a1,a2]
 ·obtain ⟨y,hy,hvy⟩:=List.mem_flatMap.1 ho;obtain ⟨k,hk⟩:=List.mem_iff_getElem?.1 hy;have a1:=hout j b2 hj k y hk v hvy;have new : ∀ (j' k':Nat) (c:Block),(moved f p n i).blocks[j']? = some c→c.code[k']? = some y→(dAt ds' v).block=(j':Int):=fun j' k' c hc hk'=>congrArg Def.block (hout' j' c hc k' y hk' v hvy)
  have hkl:=(List.getElem?_eq_some_iff.1 hk).1;have atp:=hat p;rw [if_pos rfl] at atp;have atn:=hat n;rw [if_neg (Ne.symm hm.ne),if_pos rfl] at atn
  by_cases hxv:v∈x.outs
  ·rw [if_pos hxv];have h3:=hxn v hxv;have h4:(⟨true,(j:Int),(k:Int)⟩:Def)=⟨true,n,i⟩:=a1.symm.trans h3;have h5:j=n:=by have:=congrArg Def.block h4; simp only at this; omega
   have h6:k=i:=by have:=congrArg Def.pos h4; simp only at this; omega
   subst h5; subst h6;rw [hm.hn] at hj
   cases hj
   rw [hm.hi] at hk
   cases hk
   exact new p bp.code.length _ atp (by simp [endWith])
  ·rw [if_neg hxv,a1];simp only
   by_cases e1:j=p
   ·subst e1;rw [hm.hp] at hj
    cases hj
    exact new j k _ atp (by simp only [endWith]; rw [List.getElem?_append_left hkl]; exact hk)
   ·by_cases e2:j=n
    ·subst e2;rw [hm.hn] at hj
     cases hj
     by_cases e3:k<i
     ·exact new j k _ atn (by simp only [cutAt]; rw [WU,if_pos e3]; exact hk)
     ·have e4:k≠i:=fun e4=>by
       subst e4;rw [hm.hi] at hk
       cases hk
       exact hxv hvy
      exact new j (k-1) _ atn (by simp only [cutAt]; rw [WU,if_neg (by omega),Nat.sub_add_cancel (by omega)]; exact hk)
    ·have:=hat j;rw [if_neg e1,if_neg e2,hj] at this;exact new j k b2 this hk
end Ss

namespace Go.Vw
open Go.Proofs Go.RowKit
set_option maxRecDepth 10000
set_option maxHeartbeats 4000000
theorem rright_nats (g:List (List Int)) (h:Fits g) (hr:G.right g=true):VPure Tryz.prog 45 [vl (vl vnat) (G.nats g)] (.bool true):=by
 have:=Zz g h.1 h.2;rw [hr,G.right_enc hr] at this;exact this
theorem FromAll_v (g:List (List Int)) (h:Fits g):VPure Tryz.prog 78 [vl (vl vint) g] (.tuple [vl (vl vnat) (G.fromI g),vint (G.err g)]):=by
 cases hr:G.right g with
 | false =>
  simp only [G.fromI,G.err,hr];exact FromErr_v g h.1 h.2 hr
 | true =>
  simp only [G.fromI,G.err,hr,if_true];rw [G.right_enc hr];exact From_v _ (G.right_ok hr) (Yn g h hr)
theorem jbJ (g:List (List Int)) (h:Fits g):VPure Tryz.prog 58 [vl (vl vint) g] (.tuple [vl (vl vnat) (G.fromI g),vint (G.err g)]):=by
 cases hr:G.right g with
 | false =>
  simp only [G.fromI,G.err,hr];exact RFromErr_v g h.1 h.2 hr
 | true =>
  simp only [G.fromI,G.err,hr,if_true];rw [G.right_enc hr];exact RFrom_v _ (G.right_ok hr) (rright_nats g h hr)
end Go.Vw
