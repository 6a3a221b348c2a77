import Derived.Test.YtkfllaokjaldnaaGreatC18
import Derived.Test.YtkfllaokjaldnaaGreatC16
import Derived.Test.YtkfllaokjaldnaaGreatC17
import Derived.Test.YtkfllaokjaldnaaGreatC15
/-
  Part of the proof (texts SSmall, SSucc, SSame, SShape, SNum).
-/
set_option linter.unusedVariables false
set_option linter.unusedSimpArgs false
namespace Go.Vw
open Go.Proofs Go.RowKit
set_option maxRecDepth 10000
set_option maxHeartbeats 8000000
theorem short1_v (l:List Int):VPure Tryz.prog 129 ([vl vint l]++[]) (.bool (decide (4096<l.length))):=by
 intro S;refine jb (c:=jg Tryz.f129) Tryz.func129 rfl rfl (by simp [Tryz.ntmps129]) ?_;rw [Tryz.ntmps129];intro hwf
 repeat first|refine QG ?_|refine QY ?_
 exact ja hwf (by simp; omega) rfl
theorem jbE (ls:List (List Int)) (hl:ls.length<2^63):VPure Tryz.prog 99 [vl (vl vint) ls] (.bool (Ss.shortL ls)):=by
 intro S;have e:(!ls.any fun l=>decide (4096<l.length))=Ss.shortL ls:=by
  rw [Ss.shortL,List.not_any_eq_all_not]
  congr 1; funext l; by_cases h:l.length≤4096<;>simp [h]<;>omega
 rw [←e];refine jb (c:=jg Tryz.f99) Tryz.func99 rfl rfl (by simp [Tryz.ntmps99]) ?_;rw [Tryz.ntmps99];intro hwf
 repeat first|refine QG ?_|refine QY ?_
 repeat refine QS ?_
 refine QP ?_;refine jp rfl (AnyL_v ls (fun l=>decide (4096<l.length)) _ [] rfl hl (fun l _=>short1_v l)) ?_;refine QW ?_
 repeat first|refine QG ?_|refine QY ?_
 exact ja hwf rfl rfl
theorem shortL_1 (a:List Int):Ss.shortL [a]=decide (a.length≤4096):=by simp [Ss.shortL]
theorem Zb (a b:List Int):Ss.shortL [a,b]=(decide (a.length≤4096)&&decide (b.length≤4096)):=by simp [Ss.shortL]
theorem shortL_3 (a b c:List Int):Ss.shortL [a,b,c]=(decide (a.length≤4096)&&decide (b.length≤4096)&&decide (c.length≤4096)):=by simp [Ss.shortL,Bool.and_assoc]
theorem jbB (f:Ss.Fn) (hf:f.Fits):VPure Tryz.prog 64 [qL f] (.bool f.small):=by
 intro S;obtain ⟨⟨fi,fo⟩,ts,bs⟩:=f;obtain ⟨_,_,hbl0,hbf⟩:=hf;simp only at hbl0 hbf;have hbl:bs.length<2^63:=by omega
 refine jb (c:=jg Tryz.f64) Tryz.func64 rfl rfl (by simp [Tryz.ntmps64]) ?_;rw [Tryz.ntmps64];intro hwf
 repeat first|refine QG ?_|refine QY ?_
 repeat refine QS ?_
 refine QP ?_;refine zj (xs':=[vl (vl vint) [ts,fi,fo]]) rfl (GhostArgs.one [] [] (frz1 (k:=1) (len:=3) (by simp) rfl rfl rfl)) (jbE _ (by simp)) ?_;simp only [List.set_cons_succ,List.set_cons_zero]
 cases h1:Ss.shortL [ts,fi,fo] with
 | false =>
  refine QM (by conv=>lhs;simp[-List.map_set,QV,h1]) ?_;refine QN ?_
  repeat first|refine QG ?_|refine QY ?_
  refine ja hwf ?_ rfl;rw [shortL_3] at h1;simp [Ss.Fn.small,Ss.Fn.heads] at h1 ⊢;omega
 | true =>
 by_cases h2:(4096:Int)<(bs.length:Int)
 ·refine QM (by conv=>lhs;simp[-List.map_set,QV,h1,h2]) ?_;refine QN ?_
  repeat first|refine QG ?_|refine QY ?_
  exact ja hwf (by simp [Ss.Fn.small,Ss.Fn.heads]; omega) rfl
 have hh:Ss.Fn.small ⟨⟨fi,fo⟩,ts,bs⟩=Ss.smallFrom 0 bs:=by
  have:Ss.Fn.heads ⟨⟨fi,fo⟩,ts,bs⟩=true:=by rw [shortL_3] at h1; simp [Ss.Fn.heads] at h1 ⊢; omega
  simp [Ss.Fn.small,this]
 rw [hh];refine QM (by conv=>lhs;simp[-List.map_set,QV,h1,h2]) ?_;refine QN ?_
 repeat first|refine QG ?_|refine QY ?_
 refine jI [3,28,29,30] (by conv=>lhs; simp [Fr.only,Fr.look]) ?_;refine zI [0] hwf (by decide) (by simp [-List.map_set]) (by conv=>lhs; simp [-List.map_set]) (by conv=>lhs; simp [-List.map_set]) (by conv=>lhs; simp [-List.map_set]) ?_
 repeat refine QS ?_
 refine je [3,28,29,30] rfl (fun c σ S' => ∃ (k n:Nat),k≤bs.length∧n≤4096∧c=bs.length-k∧Ss.smallFrom n (bs.drop k)=Ss.smallFrom 0 bs∧σ=[(3,vint (4096-(n:Int))),(28,vl jd bs),(29,vnat bs.length),(30,vnat k)]∧S'=St S [] [some (4,[vl vint fi,vl vint fo,vl vint ts,vl jd bs])]) bs.length ?_ ?_
 ·exact ⟨0,0,by omega,by omega,rfl,rfl,by simp [Fr.only],rfl⟩
 ·rintro c σ T ⟨k,n,hk,hn,rfl,hd,rfl,rfl⟩
  by_cases hkt:k<bs.length
  ·have hw:=jn hkt hbl;have hbk:=hbf _ (List.getElem_mem hkt);have hst:=Ss.drop_small (n:=n) hkt;obtain ⟨⟨ps,code,⟨tk,ta,to,az⟩⟩,hb⟩ : ∃ b,bs[k]=b:=⟨_,rfl⟩
   rw [hb] at hst hbk;obtain ⟨_,⟨hcl0,_⟩,_,_,⟨htl0,_⟩,_⟩:=hbk;simp only at hcl0 htl0;have hcl:code.length<2^63:=by omega
   have htl:to.length<2^63:=by omega
   have hwn:IntKind.i64.wrap (4096-(n:Int)-(code.length:Int))=4096-(n:Int)-(code.length:Int):=wrap_i64 (by omega) (by omega);have hS:Ss.Block.small ⟨ps,code,⟨tk,ta,to,az⟩⟩=(decide (ps.length≤4096)&&decide (to.length≤4096)&&decide (az.length≤4096)&&code.all Ss.Ins.small&&to.all Ss.Edge.small):=rfl
   by_cases g1:4096-(n:Int)-(code.length:Int)<0
   ·have e:Ss.smallFrom n (bs.drop k)=false:=by rw [hst]; simp; omega
    rw [←hd,e]
    repeat first|refine QG ?_|refine QY ?_ (r:=by conv=>lhs;simp[-List.map_set,QV,hkt,hb,hwn,g1])
    exact ja hwf rfl rfl
   repeat first|refine QG ?_|refine QY ?_ (r:=by conv=>lhs;simp[-List.map_set,QV,hkt,hb,hwn,g1])
   repeat refine QS ?_
   refine QP ?_ (r:=by conv=>lhs;simp[-List.map_set,QV,hkt,hb,hwn,g1]);refine zj (xs':=[vl (vl vint) [ps,az]]) rfl (GhostArgs.one [] [] (frz1 (k:=2) (len:=2) (by simp) rfl rfl rfl)) (jbE _ (by simp)) ?_;simp only [List.set_cons_succ,List.set_cons_zero]
   cases g2:Ss.shortL [ps,az] with
   | false =>
    have e:Ss.smallFrom n (bs.drop k)=false:=by rw [Zb] at g2; rw [hst,hS]; simp at g2 ⊢; omega
    rw [←hd,e];refine QM (by conv=>lhs;simp[-List.map_set,QV,g2]) ?_;refine QN ?_
    repeat first|refine QG ?_|refine QY ?_
    exact ja hwf rfl rfl
   | true =>
   by_cases g3:(4096:Int)<(to.length:Int)
   ·have e:Ss.smallFrom n (bs.drop k)=false:=by rw [hst,hS]; simp; omega
    rw [←hd,e];refine QM (by conv=>lhs;simp[-List.map_set,QV,g2,g3]) ?_;refine QN ?_
    repeat first|refine QG ?_|refine QY ?_
    exact ja hwf rfl rfl
   rw [Zb] at g2;have g2':ps.length≤4096∧az.length≤4096:=by simpa using g2
   rw [show decide (n+code.length≤4096)=true by simp; omega,hS,show decide (ps.length≤4096)=true by simp; omega,show decide (to.length≤4096)=true by simp; omega,show decide (az.length≤4096)=true by simp; omega,Bool.true_and,Bool.true_and,Bool.true_and,Bool.true_and] at hst;rw [←Zb] at g2;refine QM (by conv=>lhs;simp[-List.map_set,QV,g2,g3]) ?_;refine QN ?_
   repeat first|refine QG ?_|refine QY ?_
   refine jI [3,5,28,29,30,59,60,61] (by conv=>lhs; simp [Fr.only,Fr.look]) ?_;refine zI [0,1] hwf (by decide) (by simp [-List.map_set]) (by conv=>lhs; simp [-List.map_set]) (by conv=>lhs; simp [-List.map_set]) (by conv=>lhs; simp [-List.map_set]) ?_
   repeat refine QS ?_
   refine je [3,5,28,29,30,59,60,61] rfl (fun c σ S' => ∃ (j:Nat),j≤code.length∧c=code.length-j∧(code.drop j).all Ss.Ins.small=code.all Ss.Ins.small∧σ=[(3,vint (4096-(n:Int)-(code.length:Int))),(5, .ptr (lid S.nx 1) 0),(28,vl jd bs),(29,vnat bs.length),(30,vnat k),(59,vl jq code),(60,vnat code.length),(61,vnat j)]∧S'=St S [] [some (4,[vl vint fi,vl vint fo,vl vint ts,vl jd bs]),some (6,[vl vint ps,vl jq code, .int .i64 tk, .int .i64 ta,vl jk to,vl vint az])]) code.length ?_ ?_
   ·exact ⟨0,by omega,rfl,rfl,by simp [Fr.only],rfl⟩
   ·rintro c σ T ⟨j,hj,rfl,hdj,rfl,rfl⟩
    by_cases hjt:j<code.length
    ·have hwj:=jn hjt hcl;have hstj:=Ss.drop_all Ss.Ins.small hjt;obtain ⟨⟨io,iN,ia,iu⟩,hx⟩ : ∃ b,code[j]=b:=⟨_,rfl⟩
     rw [hx] at hstj;have hX:Ss.Ins.small ⟨io,iN,ia,iu⟩=Ss.shortL [ia,iu]:=(Zb _ _).symm;rw [hX] at hstj
     repeat first|refine QG ?_|refine QY ?_ (r:=by conv=>lhs;simp[-List.map_set,QV,hjt,hx])
     repeat refine QS ?_
     refine QP ?_ (r:=by conv=>lhs;simp[-List.map_set,QV,hjt,hx]);refine zj (xs':=[vl (vl vint) [ia,iu]]) rfl (GhostArgs.one [] [] (frz1 (k:=3) (len:=2) (by simp) rfl rfl rfl)) (jbE _ (by simp)) ?_;simp only [List.set_cons_succ,List.set_cons_zero]
     cases q1:Ss.shortL [ia,iu] with
     | false =>
      rw [q1,Bool.false_and] at hstj;have e:code.all Ss.Ins.small=false:=by rw [←hdj,hstj]
      rw [←hd,hst,e];refine QM (by conv=>lhs;simp[-List.map_set,QV,q1]) ?_;refine QN ?_
      repeat first|refine QG ?_|refine QY ?_
      exact ja hwf rfl rfl
     | true =>
      rw [q1,Bool.true_and] at hstj;refine QM (by conv=>lhs;simp[-List.map_set,QV,q1]) ?_;refine QN ?_
      repeat first|refine QG ?_|refine QY ?_
      refine QA [0,1] (h:=⟨?_,j+1,hjt,rfl,by rw [←hdj,hstj],by simp [hwj],rfl⟩);omega
    ·rw [Ss.drop_all_end _ hjt] at hdj;rw [←hdj,Bool.true_and] at hst
     repeat first|refine QG ?_|refine QY ?_ (r:=by conv=>lhs;simp[-List.map_set,QV,hjt])
     repeat refine QS ?_
     refine je [3,28,29,30,75,76,77] rfl (fun c σ S' => ∃ (j:Nat),j≤to.length∧c=to.length-j∧(to.drop j).all Ss.Edge.small=to.all Ss.Edge.small∧σ=[(3,vint (4096-(n:Int)-(code.length:Int))),(28,vl jd bs),(29,vnat bs.length),(30,vnat k),(75,vl jk to),(76,vnat to.length),(77,vnat j)]∧S'=St S [] [some (4,[vl vint fi,vl vint fo,vl vint ts,vl jd bs]),some (6,[vl vint ps,vl jq code, .int .i64 tk, .int .i64 ta,vl jk to,vl vint az])]) to.length ?_ ?_
     ·exact ⟨0,by omega,rfl,rfl,by simp [Fr.only],rfl⟩
     ·rintro c σ T ⟨j,hj,rfl,hdj,rfl,rfl⟩
      by_cases hjt:j<to.length
      ·have hwj:=jn hjt htl;have hstj:=Ss.drop_all Ss.Edge.small hjt;obtain ⟨⟨io,ia⟩,hx⟩ : ∃ b,to[j]=b:=⟨_,rfl⟩
       rw [hx] at hstj;have hX:Ss.Edge.small ⟨io,ia⟩=Ss.shortL [ia]:=(shortL_1 _).symm;rw [hX] at hstj
       repeat first|refine QG ?_|refine QY ?_ (r:=by conv=>lhs;simp[-List.map_set,QV,hjt,hx])
       repeat refine QS ?_
       refine QP ?_ (r:=by conv=>lhs;simp[-List.map_set,QV,hjt,hx]);refine zj (xs':=[vl (vl vint) [ia]]) rfl (GhostArgs.one [] [] (frz1 (k:=3) (len:=1) (by simp) rfl rfl rfl)) (jbE _ (by simp)) ?_;simp only [List.set_cons_succ,List.set_cons_zero]
       cases q1:Ss.shortL [ia] with
       | false =>
        rw [q1,Bool.false_and] at hstj;have e:to.all Ss.Edge.small=false:=by rw [←hdj,hstj]
        rw [←hd,hst,e];refine QM (by conv=>lhs;simp[-List.map_set,QV,q1]) ?_;refine QN ?_
        repeat first|refine QG ?_|refine QY ?_
        exact ja hwf rfl rfl
       | true =>
        rw [q1,Bool.true_and] at hstj;refine QM (by conv=>lhs;simp[-List.map_set,QV,q1]) ?_;refine QN ?_
        repeat first|refine QG ?_|refine QY ?_
        refine QA [0,1] (h:=⟨?_,j+1,hjt,rfl,by rw [←hdj,hstj],by simp [hwj],rfl⟩);omega
      ·rw [Ss.drop_all_end _ hjt] at hdj;rw [←hdj] at hst
       repeat first|refine QG ?_|refine QY ?_ (r:=by conv=>lhs;simp[-List.map_set,QV,hjt,hw])
       refine QA [0] (h:=⟨?_,k+1,n+code.length,hkt,by omega,rfl,by rw [←hd,hst,Bool.true_and],by simp; omega,rfl⟩);omega
  ·rw [Ss.drop_small_end hkt] at hd;rw [←hd]
   repeat first|refine QG ?_|refine QY ?_ (r:=by conv=>lhs;simp[-List.map_set,QV,hkt])
   exact ja hwf rfl rfl
end Go.Vw

namespace Ss
def rowOf (b:Block):List Int:=b.term.to.map Edge.to
def succs (bs:List Block):List (List Int):=bs.map rowOf
end Ss
namespace Go.Vw
open Go.Proofs Go.RowKit
set_option maxRecDepth 10000
set_option maxHeartbeats 4000000
theorem count_mem : ∀ {bs:List Ss.Block} {b:Ss.Block},b∈bs→b.code.length≤Ss.count bs
 | x::bs,b,h=>by
  simp only [Ss.count,List.map_cons,List.sum_cons];rcases List.mem_cons.1 h with rfl | h
  ·omega
  ·have:=count_mem h;simp only [Ss.count] at this;omega
theorem qx {f:Ss.Fn} (h:f.small=true):f.types.length≤4096∧f.blocks.length≤4096∧(∀ b∈f.blocks,b.params.length≤4096∧b.term.to.length≤4096∧b.term.args.length≤4096∧b.code.length≤4096)∧Ss.count f.blocks≤4096:=by
 obtain ⟨h1,h2,h3⟩:=(Ss.small_iff f).1 h;simp only [Ss.Fn.heads,Bool.and_eq_true,decide_eq_true_eq] at h1;refine ⟨h1.1.1.1,h1.1.1.2,fun b hb => ?_,h3⟩;have:=h2 b hb;simp only [Ss.Block.small,Bool.and_eq_true,decide_eq_true_eq] at this;refine ⟨this.1.1.1.1,this.1.1.1.2,this.1.1.2, ?_⟩;exact Nat.le_trans (count_mem hb) h3
theorem Succ_v (f:Ss.Fn) (hf:f.Fits):VPure Tryz.prog 26 [qL f] (vl (vl vint) (if f.small then Ss.succs f.blocks else [])):=by
 intro S;have cs:=jbB f hf;have hsb := @qx f;generalize f.small=sm at *
 obtain ⟨⟨fi,fo⟩,ts,bs⟩:=f;have cs':VPure Tryz.prog 64 [.agg [vl vint fi,vl vint fo,vl vint ts,vl jd bs]] (.bool sm):=cs
 by_cases hs:sm=true
 case neg =>
  rw [if_neg hs];have hs':sm=false:=by simpa using hs
  refine jb (c:=jg Tryz.f26) Tryz.func26 rfl rfl (by simp [Tryz.ntmps26]) ?_;rw [Tryz.ntmps26];intro hwf
  repeat first|refine QG ?_|refine QY ?_
  repeat refine QS ?_
  refine QP ?_;refine jc (cs') (by rfl) ?_;refine QM (by conv=>lhs;simp[-List.map_set,QV,hs']) ?_;refine QN ?_
  repeat first|refine QG ?_|refine QY ?_
  exact ji (l:=[_]) hwf (Ghost.toB (Ghost.nils_list _) _) rfl
 rw [if_pos hs];obtain ⟨_,hbl,hbf,_⟩:=hsb hs;simp only at hbl hbf ⊢;refine jb (c:=jg Tryz.f26) Tryz.func26 rfl rfl (by simp [Tryz.ntmps26]) ?_;rw [Tryz.ntmps26];intro hwf
 repeat first|refine QG ?_|refine QY ?_
 repeat refine QS ?_
 refine QP ?_;refine jc (cs') (by rfl) ?_;refine QM (by conv=>lhs;simp[-List.map_set,QV,hs]) ?_;refine QN ?_
 repeat refine QS ?_
 refine jJ rfl rfl rfl ?_
 repeat refine QS ?_
 refine jE rfl ?_
 repeat refine QS ?_
 refine QY ?_;refine zr 3 1 rfl (by conv=>lhs; simp [Fr.set]) ?_
 repeat first|refine QG ?_|refine QY ?_
 refine jI [3,13,14,15] (by conv=>lhs; simp [Fr.only,Fr.look]) ?_;refine zI [1] hwf (by decide) (by simp [-List.map_set]) (by conv=>lhs; simp [-List.map_set]) (by conv=>lhs; simp [-List.map_set]) (by conv=>lhs; simp [-List.map_set]) ?_
 repeat refine QS ?_
 refine je [3,13,14,15] rfl (fun c σ S' => ∃ (k:Nat) (out:List (List Int)),k≤bs.length∧c=bs.length-k∧out.length=k∧out=(bs.take k).map Ss.rowOf∧σ=[(3, .slice (lid S.nx 0) 0 k),(13,vl jd bs),(14,vnat bs.length),(15,vnat k)]∧S'=St S [] [some (1,out.map (vl vint))]) bs.length ?_ ?_
 ·exact ⟨0,[],by omega,rfl,rfl,by simp,by simp [Fr.only],by simp⟩
 ·rintro c σ T ⟨k,out,hk,rfl,hol,ho,rfl,rfl⟩
  by_cases hkt:k<bs.length
  ·have hw:=jn hkt (by omega);obtain ⟨_,htl,_,_⟩:=hbf _ (List.getElem_mem hkt);obtain ⟨⟨ps,code,⟨tk,ta,to,az⟩⟩,hx⟩ : ∃ b,bs[k]=b:=⟨_,rfl⟩
   rw [hx] at htl;simp only at htl;have htk:bs.take (k+1)=bs.take k++[⟨ps,code,⟨tk,ta,to,az⟩⟩]:=by rw [List.take_add_one,List.getElem?_eq_getElem hkt,hx]; rfl
   repeat refine QS ?_
   refine QY ?_ (r:=by conv=>lhs;simp[-List.map_set,QV,hkt])
   repeat refine QS ?_
   refine jF rfl rfl rfl ?_
   repeat refine QS ?_
   refine jE rfl ?_
   repeat refine QS ?_
   refine jN 1 rfl rfl ?_
   repeat refine QS ?_
   refine QY ?_ (r:=by conv=>lhs;simp[-List.map_set,QV,hkt,hx])
   repeat refine QS ?_
   refine QY ?_;refine zr 6 1 rfl (by conv=>lhs; simp [Fr.set]) ?_
   repeat first|refine QG ?_|refine QY ?_
   refine jI [3,6,13,14,15,21,22,23] (by conv=>lhs; simp [Fr.only,Fr.look]) ?_;refine zI [0,2] hwf (by decide) (by simp [-List.map_set]) (by conv=>lhs; simp [-List.map_set]) (by conv=>lhs; simp [-List.map_set]) (by conv=>lhs; simp [-List.map_set]) ?_
   repeat refine QS ?_
   refine je [3,6,13,14,15,21,22,23] rfl (fun c σ S' => ∃ (j:Nat) (r:List Int),j≤to.length∧c=to.length-j∧r.length=j∧r=(to.take j).map Ss.Edge.to∧σ=[(3, .slice (lid S.nx 0) 0 k),(6, .slice (lid S.nx 1) 0 j),(13,vl jd bs),(14,vnat bs.length),(15,vnat k),(21,vl jk to),(22,vnat to.length),(23,vnat j)]∧S'=St S [] [some (1,out.map (vl vint)),some (1,r.map vint)]) to.length ?_ ?_
   ·exact ⟨0,[],by omega,rfl,rfl,by simp,by simp [Fr.only],by simp⟩
   ·rintro c σ T ⟨j,r,hj,rfl,hrl,hr,rfl,rfl⟩
    by_cases hjt:j<to.length
    ·have hwj:=jn hjt (by omega);have hb:(j+1)*8≤140737488355328:=by omega
     have hb':j+1≤140737488355328:=by omega
     obtain ⟨⟨xt,xa⟩,hx2⟩ : ∃ b,to[j]=b:=⟨_,rfl⟩
     have htj:to.take (j+1)=to.take j++[⟨xt,xa⟩]:=by rw [List.take_add_one,List.getElem?_eq_getElem hjt,hx2]; rfl
     repeat first|refine QG ?_|refine QY ?_ (r:=by conv=>lhs;simp[-List.map_set,QV,hjt,hx2,hb,hb',hrl])
     refine QA [0,4] (h:=⟨?_,j+1,r++[xt],hjt,rfl,by simp [hrl],by rw [htj,List.map_append,hr]; rfl,by simp [hwj],by simp⟩);omega
    ·have hje:j=to.length:=by omega
     subst hje;rw [List.take_length] at hr;have hb:(k+1)*24≤140737488355328:=by omega
     have hb':k+1≤140737488355328:=by omega
     repeat refine QS ?_
     refine QY ?_ (r:=by conv=>lhs;simp[-List.map_set,QV,hjt])
     repeat refine QS ?_
     refine jJ rfl rfl rfl ?_
     repeat refine QS ?_
     refine jV 2 rfl rfl ?_;refine jv 6 rfl ((frz1 (k:=1) (len:=to.length) (by simp) (by rfl) (jL vint (fun _=>rfl) _) (by simpa using hrl))) (by conv=>lhs; simp [Fr.set]) ?_;simp only [List.set_cons_succ,List.set_cons_zero]
     repeat first|refine QG ?_|refine QY ?_ (r:=by conv=>lhs;simp[-List.map_set,QV,hb,hb',hol])
     refine QA [3] (h:=⟨?_,k+1,out++[r],hkt,rfl,by simp [hol],by rw [htk,List.map_append, ←ho,hr]; rfl,by simp [hw],by simp [vl]⟩);omega
  ·have hke:k=bs.length:=by omega
   subst hke;rw [List.take_length] at ho
   repeat first|refine QG ?_|refine QY ?_ (r:=by conv=>lhs;simp[-List.map_set,QV,hkt])
   rw [Ss.succs, ←ho];exact ji hwf ((frz1 (by simp) (by rfl) (jL (vl vint) (fun _=>rfl) _) (by simpa using hol)).toB _) rfl
end Go.Vw

namespace Go.Vw
open Go.Proofs Go.RowKit
set_option maxRecDepth 10000
set_option maxHeartbeats 4000000
theorem jam {α:Type} [DecidableEq α] (l m:List α):eqF (fun x y=>decide (x=y)) l m=decide (l=m):=eqF_eq (fun _ _=>rfl) l m
theorem Equal_v (l m:List Int) (hl:l.length<2^63):VPure Tryz.prog 106 [vl vint l,vl vint m] (.bool (decide (l=m))):=by
 intro S;rw [←jam];generalize hp:(fun x y:Int=>decide (x=y))=p
 by_cases hlm:l.length=m.length
 ·have hlm':(l.length:Int)=(m.length:Int):=by omega
  refine jb (c:=jg Tryz.f106) Tryz.func106 rfl rfl (by simp [Tryz.ntmps106]) ?_;rw [Tryz.ntmps106];intro hwf
  repeat first|refine QG ?_|refine QY ?_ (r:=by conv=>lhs;simp[-List.map_set,QV,hlm,hlm'])
  repeat refine QS ?_
  refine je [0,1,12,13] rfl (fun c σ S' => ∃ (k:Nat),k≤l.length∧c=l.length-k∧eqF p (l.drop k) (m.drop k)=eqF p l m∧σ=[(0,vl vint l),(1,vl vint m),(12,vnat m.length),(13,vnat k)]∧S'=St S [] []) l.length ?_ ?_
  ·exact ⟨0,by omega,rfl,rfl,by simp [Fr.only,hlm],rfl⟩
  ·rintro c σ T ⟨k,hk,rfl,hd,rfl,rfl⟩
   by_cases hkt:k<l.length
   ·have hkm:k<m.length:=by omega
    have hw:=jn hkt hl;have hst:eqF p (l.drop k) (m.drop k)=(p l[k] m[k]&&eqF p (l.drop (k+1)) (m.drop (k+1))):=by rw [List.drop_eq_getElem_cons hkt,List.drop_eq_getElem_cons hkm,eqF]
    obtain ⟨x,hx⟩ : ∃ x,l[k]=x:=⟨_,rfl⟩
    obtain ⟨y,hy⟩ : ∃ y,m[k]=y:=⟨_,rfl⟩
    rw [hx,hy] at hst
    by_cases hxy:x=y
    ·rw [show p x y=true by rw [←hp]; simp [hxy]] at hst
     repeat first|refine QG ?_|refine QY ?_ (r:=by conv=>lhs;simp[-List.map_set,QV,hkt,hkm,hx,hy,hxy])
     show jz _ _ _ _ _ _ _;exact again ⟨Nat.sub_lt_sub_left hkt (Nat.lt_succ_self k),k+1,hkt,rfl,by rw [←hd,hst]; rfl,by simp [Fr.only,hw],rfl⟩
    ·rw [show p x y=false by rw [←hp]; simp [hxy]] at hst
     repeat first|refine QG ?_|refine QY ?_ (r:=by conv=>lhs;simp[-List.map_set,QV,hkt,hkm,hx,hy,hxy])
     exact ja hwf (by rw [←hd,hst]; rfl) rfl
   ·have e:l.drop k=[]:=by rw [List.drop_eq_nil_iff]; omega
    have e':m.drop k=[]:=by rw [List.drop_eq_nil_iff]; omega
    rw [e,e'] at hd;have hkm : ¬ k<m.length:=by omega
    repeat first|refine QG ?_|refine QY ?_ (r:=by conv=>lhs;simp[-List.map_set,QV,hkt,hkm])
    exact ja hwf (by rw [←hd]; rfl) rfl
 ·have hlm' : ¬ (l.length:Int)=(m.length:Int):=by omega
  have e:eqF p l m=false:=eqF_len hlm;rw [e];refine jb (c:=jg Tryz.f106) Tryz.func106 rfl rfl (by simp [Tryz.ntmps106]) ?_;rw [Tryz.ntmps106];intro hwf
  repeat first|refine QG ?_|refine QY ?_ (r:=by conv=>lhs;simp[-List.map_set,QV,hlm,hlm'])
  exact ja hwf rfl rfl
end Go.Vw

namespace Ss
open Go.Vw in
/-- Are a function's blocks all reached, and is there no circle without a tick? -/
def shapeOk (f:Fn):Bool :=
 G.right (succs f.blocks)&&decide ((G.ordI (succs f.blocks)).length=f.blocks.length) && !rings f.blocks (G.nats (succs f.blocks))&&decide (typesOf f.types (f.blocks.getD 0 default).params=f.sig.inn) &&
  match (f.blocks.getD 0 default).code with
  | x::_=>decide (x.op=258)
  | []=>false
end Ss
namespace Go.Vw
open Go.Proofs Go.RowKit
set_option maxRecDepth 10000
set_option maxHeartbeats 4000000
theorem typesO_v (S:Store) (e:Ss.Env) (f:Ss.Fn) (dv nv:V) (ck:Nat) (l:List Int) (hc:S.get ck=some (11,ckC e f dv nv)) (hl:l.length≤1048576) (hv:Ss.InTs f.types.length l) :
  VCalls Tryz.prog 107 [.ptr ck 0,vl vint l] S (fun r T=>r=vl vint (Ss.typesOf f.types l)∧T=S):=by
 obtain ⟨⟨fi,fo⟩,ts,bs⟩:=f;simp only at hv ⊢;generalize hg:(fun v:Int=>ts.getD v.toNat 0)=g;have hX:Ss.typesOf ts l=l.map g:=by rw [Ss.typesOf,hg]
 rw [hX];refine jb (c:=jg Tryz.f107) Tryz.func107 rfl rfl (by simp [Tryz.ntmps107]) ?_;rw [Tryz.ntmps107];intro hwf;have hcn:=qd hwf hc;have oc:=fun u l => @jx S u l ck hcn
 have gp:=fun ks=>zW (n:=S.nx) ks hcn
 have gt:=fun ks=>zp (n:=S.nx) ks hcn
 repeat refine QS ?_
 refine QY ?_
 repeat refine QS ?_
 refine QY ?_;refine zr 5 1 rfl (by conv=>lhs; simp [Fr.set]) ?_
 repeat first|refine QG ?_|refine QY ?_
 repeat refine QS ?_
 refine je [0,5,8,9,10] rfl (fun c σ S' => ∃ (k:Nat) (out:List Int),k≤l.length∧c=l.length-k∧out=(l.take k).map g∧out.length=k∧σ=[(0, .ptr ck 0),(5, .slice (lid S.nx 0) 0 k),(8,vl vint l),(9,vnat l.length),(10,vnat k)]∧S'=St S [] [some (1,out.map vint)]) l.length ?_ ?_
 ·exact ⟨0,[],by omega,rfl,by simp,rfl,by simp [Fr.only],by simp⟩
 ·rintro c σ T ⟨k,out,hk,rfl,ho,hlen,rfl,rfl⟩
  by_cases hkt:k<l.length
  ·have hw:=jn hkt (by omega);obtain ⟨h0,h1⟩:=hv _ (List.getElem_mem hkt);obtain ⟨v,hx⟩ : ∃ v,l[k]=v:=⟨_,rfl⟩
   rw [hx] at h0 h1;obtain ⟨n,rfl⟩ : ∃ n:Nat,v=n:=⟨v.toNat,by omega⟩
   have hn:n<ts.length:=by omega
   have hgn:g (n:Int)=ts[n]:=by rw [←hg]; simp [hn]
   have htk:l.take (k+1)=l.take k++[(n:Int)]:=by rw [List.take_add_one,List.getElem?_eq_getElem hkt,hx]; rfl
   have hb:(k+1)*8≤140737488355328:=by omega
   have hb':k+1≤140737488355328:=by omega
   repeat first|refine QG ?_|refine QY ?_ (r:=by conv=>lhs;simp[-List.map_set,QV,hkt,hx,hn,hlen,hb,hb',oc,hc])
   refine jY [2] (by conv=>lhs; simp [Fr.only]) hwf (by decide) (by simp [-List.map_set,gp,gt]) (by conv=>lhs; simp [-List.map_set,gp,gt]) (by conv=>lhs; simp [-List.map_set,gp,gt]) (by conv=>lhs; simp [-List.map_set,gp,gt]) ⟨?_,k+1,out++[ts[n]],hkt,rfl,by rw [htk,List.map_append,ho]; simp [hgn],by simp [hlen],by simp [hw],by simp⟩;omega
  ·have hke:k=l.length:=by omega
   subst hke;rw [List.take_length] at ho
   repeat first|refine QG ?_|refine QY ?_ (r:=by conv=>lhs;simp[-List.map_set,QV,hkt])
   rw [←ho];exact ji hwf ((frz1 (by simp) (by rfl) (jL vint (fun _=>rfl) _) (by simpa using hlen)).toB _) rfl
theorem vcall_useZ {P:Program} {Z:Store} {σ:Fr} {S:Store} {K:Fr→Store→Prop} {d:Option Nat} {f:FuncId} {args:List Arg} {xs:List V} {r:List CO} {X:V} (h:jbu P Z f xs X) (ha:args.map (ev σ)=xs) (H:jQ P (some (ZZ.plain Z)) r K (σ.put d X) S):jQ P (some (ZZ.plain Z)) (⟨d,none, .call f args⟩::r) K σ S:=by
 rw [Yc,ha];have hw : ¬ wrcL (ZZ.plain Z).es d=true:=by cases d<;>simp [wrcL,ZZ.plain]
 show Jt P (some (ZZ.plain Z)) d f xs S _;simp only [Jt];rw [if_neg hw];refine ⟨X, ?_,H⟩;have e:(ZZ.plain Z).early d=false:=by cases d<;>simp [ZZ.early,ZZ.plain]
 rw [e];exact h
theorem shape_v (S:Store) (e:Ss.Env) (f:Ss.Fn) (ck od:Nat) (hf:f.Fits) (hsm:f.small=true) (hc:S.get ck=some (11,ckC e f (.slice od 0 f.types.length) .nils)) (hod:od<S.nx)
  (hps : ∀ b∈f.blocks,Ss.InTs f.types.length b.params) :
  VCalls Tryz.prog 70 [.ptr ck 0] S (fun r T => ∃ nv:V,nv.closed1=true∧r = .bool (Ss.shapeOk f)∧(Ss.shapeOk f=true→nv=vl vint (G.nearI (Ss.succs f.blocks)))∧T=S.upd ck (11,ckC e f (.slice od 0 f.types.length) nv)):=by
 have csu:=Succ_v f hf;rw [if_pos hsm] at csu;obtain ⟨hst,hsb,hsf,_⟩:=qx hsm;have hcode : ∀ b∈f.blocks,b.code.length<2^63:=fun b hb=>by have:=(hsf b hb).2.2.2; omega
 have hgf:Fits (Ss.succs f.blocks):=by
  refine ⟨by simp [Ss.succs]; omega,fun l hl => ?_⟩;obtain ⟨b,hb,rfl⟩:=List.mem_map.1 hl;have:=(hsf b hb).2.1;simp [Ss.rowOf]; omega
 have hgl:(Ss.succs f.blocks).length=f.blocks.length:=by simp [Ss.succs]
 have co:=OrderAll_v _ hgf;have cn:=KF _ hgf;have hol:=ordI_len (Ss.succs f.blocks);have cr:G.right (Ss.succs f.blocks)=true→VPure Tryz.prog 105 [qL f,vl (vl vint) (Ss.succs f.blocks)] (.bool (Ss.rings f.blocks (G.nats (Ss.succs f.blocks)))):=by
  intro hr;have hok:=G.right_ok hr;rw [G.right_enc hr];have hnl:(G.nats (Ss.succs f.blocks)).length=f.blocks.length:=by rw [←hgl]; simp [G.nats]
  exact rings_v f _ hnl (by have:=hok.max; omega) (fun r hr'=>⟨by have:=hok.row r hr'; omega,fun k hk=>hok.elt r hr' k hk⟩) hcode
 generalize hsu:Ss.succs f.blocks=g at *
 have hX:Ss.shapeOk f=(G.right g&&decide ((G.ordI g).length=f.blocks.length) && !Ss.rings f.blocks (G.nats g)&&decide (Ss.typesOf f.types (f.blocks.getD 0 default).params=f.sig.inn) &&
  match (f.blocks.getD 0 default).code with
  | x::_=>decide (x.op=258)
  | []=>false):=by rw [Ss.shapeOk,hsu]
 generalize Ss.shapeOk f=X at *
 generalize hrg:Ss.rings f.blocks (G.nats g)=rg at *
 have hil:f.sig.inn.length<2^63:=by have:=hf.1.1.1; omega
 obtain ⟨⟨fi,fo⟩,ts,bs⟩:=f;simp only at *
 have csu':VPure Tryz.prog 26 [.agg [vl vint fi,vl vint fo,vl vint ts,vl jd bs]] (vl (vl vint) g):=csu;obtain ⟨sg,im,gl,mu,me⟩:=e;refine jb (c:=jg Tryz.f70) Tryz.func70 rfl rfl (by simp [Tryz.ntmps70]) ?_;rw [Tryz.ntmps70];intro hwf;have hcn:=qd hwf hc;have oc:=fun u l => @jx S u l ck hcn
 have hupd:=fun u l c => @JD S u l c ck hcn
 have gp:=fun ks=>zW (n:=S.nx) ks hod
 have gt:=fun ks=>zp (n:=S.nx) ks hod
 rw [WW hc];have fin : ∀ (nv:V) (l:List (Option (Nat × List V))) (r:V),nv.closed1=true→r = .bool X→(X=true→nv=vl vint (G.nearI g)) →
   YX S.nx (fun r T => ∃ nv:V,nv.closed1=true∧r = .bool X∧(X=true→nv=vl vint (G.nearI g))∧T=S.upd ck (11,ckC ⟨sg,im,gl,mu,me⟩ ⟨⟨fi,fo⟩,ts,bs⟩ (.slice od 0 ts.length) nv)) r (St S [(ck,some (11,ckC ⟨sg,im,gl,mu,me⟩ ⟨⟨fi,fo⟩,ts,bs⟩ (.slice od 0 ts.length) nv))] l):=by
  rintro nv l r k1 rfl k2;have e1 : ∀ p,nv.ids p=true:=fun p=>by cases nv<;>first | rfl | (simp [V.closed1] at k1; done) | (simp [V.ids]; done)
  have e2 : ∀ q,nv.ren q=nv:=fun q=>by cases nv<;>first | rfl | (simp [V.closed1] at k1; done) | (simp [V.ren]; done)
  refine Kd (X := .bool X) (S':=S.upd ck (11,ckC ⟨sg,im,gl,mu,me⟩ ⟨⟨fi,fo⟩,ts,bs⟩ (.slice od 0 ts.length) nv)) hwf rfl rfl (by simp [Kz,jaJ,e1,gp]) ?_ ⟨nv,k1,rfl,k2,rfl⟩;simp only [gcU,gcE,Option.map_some];rw [jck hwf hcn];simp [e2,gt]
 repeat refine QS ?_
 refine QY ?_
 repeat refine QS ?_
 refine QP ?_ (r:=by conv=>lhs;simp[-List.map_set,QV,oc,hc]);refine jc (csu') (by rfl) ?_;refine QW ?_
 repeat refine QS ?_
 refine QP ?_;refine jc (co) (by rfl) ?_
 by_cases hr:G.right g=true
 case neg =>
  have he:G.err g=1:=by simp [G.err,hr]
  have hX0:X=false:=by rw [hX]; simp [hr]
  refine QM (by conv=>lhs;simp[-List.map_set,QV,he]) ?_;refine QN ?_
  repeat first|refine QG ?_|refine QY ?_ (r:=by conv=>lhs;simp[-List.map_set,QV,he])
  exact fin .nils _ _ rfl (by simp [hX0]) (by simp [hX0])
 have he:G.err g=0:=by simp [G.err,hr]
 have cr1:=cr hr;have cr':VPure Tryz.prog 105 [.agg [vl vint fi,vl vint fo,vl vint ts,vl jd bs],vl (vl vint) g] (.bool rg):=cr1
 by_cases hl:(G.ordI g).length=g.length
 case neg =>
  have hl' : ¬ ((G.ordI g).length:Int)=(g.length:Int):=by omega
  have hX0:X=false:=by
   rw [hX,show decide ((G.ordI g).length=bs.length)=false by simp; omega]; simp
  refine QM (by conv=>lhs;simp[-List.map_set,QV,he]) ?_;refine QN ?_
  repeat first|refine QG ?_|refine QY ?_ (r:=by conv=>lhs;simp[-List.map_set,QV,he,hl,hl'])
  exact fin .nils _ _ rfl (by simp [hX0]) (by simp [hX0])
 have hl':((G.ordI g).length:Int)=(g.length:Int):=by omega
 refine QM (by conv=>lhs;simp[-List.map_set,QV,he]) ?_;refine QN ?_
 repeat first|refine QG ?_|refine QY ?_ (r:=by conv=>lhs;simp[-List.map_set,QV,he,hl,hl',oc])
 repeat refine QS ?_
 refine QP ?_ (r:=by conv=>lhs;simp[-List.map_set,QV,he,hl,hl',oc]);refine jc (cr') (by rfl) ?_
 by_cases hrt:rg=true
 ·have hX0:X=false:=by rw [hX,hrt]; simp
  refine QM (by conv=>lhs;simp[-List.map_set,QV,hrt]) ?_;refine QN ?_
  repeat first|refine QG ?_|refine QY ?_
  exact fin .nils _ _ rfl (by simp [hX0]) (by simp [hX0])
 have hrt':rg=false:=by simpa using hrt
 rw [hr,hrt',show decide ((G.ordI g).length=bs.length)=true by simp; omega] at hX;simp only [Bool.true_and,Bool.not_false] at hX;refine QM (by conv=>lhs;simp[-List.map_set,QV,hrt']) ?_;refine QN ?_
 repeat first|refine QG ?_|refine QY ?_
 repeat refine QS ?_
 refine QP ?_;refine jc (cn) (by rfl) ?_;refine QM (by conv=>lhs;simp[-List.map_set,QV,oc,hupd]) ?_;refine QN ?_;have hbp:0<bs.length:=by
  have h1:=(G.right_ok hr).pos;simp only [G.nats_length] at h1;omega
 obtain ⟨⟨ps,code,⟨tk,ta,to,az⟩⟩,hb0⟩ : ∃ b,bs[0]? = some b:=⟨bs[0],List.getElem?_eq_getElem hbp⟩
 have hbm:=List.mem_of_getElem? hb0;have hbd:bs.getD 0 default=⟨ps,code,⟨tk,ta,to,az⟩⟩:=by rw [List.getD_eq_getElem?_getD,hb0]; rfl
 have hpl:=(hsf _ hbm).1;have hpi:=hps _ hbm;rw [hbd] at hX;simp only at hX hpl hpi
 repeat first|refine QG ?_|refine QY ?_ (r:=by conv=>lhs;simp[-List.map_set,QV,oc,hb0])
 have hcl:=(hsf _ hbm).2.2.2;simp only at hcl;have hZ:(St S [(ck,some (11,ckC ⟨sg,im,gl,mu,me⟩ ⟨⟨fi,fo⟩,ts,bs⟩ (.slice od 0 ts.length) (vl vint (G.nearI g))))] [some (6,[vl vint ps,vl jq code, .int .i64 tk, .int .i64 ta,vl jk to,vl vint az])]).get ck=some (11,ckC ⟨sg,im,gl,mu,me⟩ ⟨⟨fi,fo⟩,ts,bs⟩ (.slice od 0 ts.length) (vl vint (G.nearI g))):=by rw [oc]; simp [uGet]
 have ctz:jbu Tryz.prog (St S [(ck,some (11,ckC ⟨sg,im,gl,mu,me⟩ ⟨⟨fi,fo⟩,ts,bs⟩ (.slice od 0 ts.length) (vl vint (G.nearI g))))] [some (6,[vl vint ps,vl jq code, .int .i64 tk, .int .i64 ta,vl jk to,vl vint az])]) 107 [.ptr ck 0,vl vint ps] (vl vint (Ss.typesOf ts ps)):=fun T hT=>typesO_v T ⟨sg,im,gl,mu,me⟩ ⟨⟨fi,fo⟩,ts,bs⟩ _ _ ck ps (hT _ _ hZ) (by omega) hpi
 have ceq:=Equal_v (Ss.typesOf ts ps) fi (by simp [Ss.typesOf]; omega)
 repeat refine QS ?_
 refine QD (r:=by conv=>lhs;simp[-List.map_set,QV,oc]) (k:=?_);refine vcall_useZ ctz (by rfl) ?_;refine QM (by conv=>lhs;simp[-List.map_set,QV,oc]) ?_;refine jc (ceq) (by rfl) ?_
 by_cases ht:Ss.typesOf ts ps=fi
 case neg =>
  have hX0:X=false:=by rw [hX]; simp [ht]
  refine QM (by conv=>lhs;simp[-List.map_set,QV,ht]) ?_;refine QN ?_
  repeat first|refine QG ?_|refine QY ?_
  exact fin _ _ _ rfl (by simp [hX0]) (by simp [hX0])
 rw [decide_eq_true ht,Bool.true_and] at hX
 cases code with
 | nil =>
  have hX0:X=false:=by rw [hX]
  refine QM (by conv=>lhs;simp[-List.map_set,QV,ht]) ?_;refine QN ?_
  repeat first|refine QG ?_|refine QY ?_
  exact fin _ _ _ rfl (by simp [hX0]) (by simp [hX0])
 | cons x r =>
  obtain ⟨xo,xn,xa,xu⟩:=x;have hpos:(0:Int)<(r.length:Int)+1:=by omega
  by_cases h8:xo=258
  ·have hX0:X=true:=by rw [hX]; simp [h8]
   refine QM (by conv=>lhs;simp[-List.map_set,QV,ht,hpos,h8]) ?_;refine QN ?_
   repeat first|refine QG ?_|refine QY ?_
   exact fin _ _ _ rfl (by simp [hX0]) (by simp)
  ·have hX0:X=false:=by rw [hX]; simp [h8]
   refine QM (by conv=>lhs;simp[-List.map_set,QV,ht,hpos,h8]) ?_;refine QN ?_
   repeat first|refine QG ?_|refine QY ?_
   exact fin _ _ _ rfl (by simp [hX0]) (by simp [hX0])
end Go.Vw

namespace Ss
structure Grp where
 first:Int
 many:Int
 kind:Int
 ty:Int
deriving DecidableEq,Inhabited
def groups:List Grp:=[⟨69,1,0,127⟩,⟨70,10,1,127⟩,⟨80,1,0,126⟩,⟨81,10,1,126⟩,⟨103,3,2,127⟩,⟨106,15,3,127⟩,⟨121,3,2,126⟩,⟨124,15,3,126⟩,⟨167,1,4,126⟩,⟨172,2,5,127⟩,⟨192,2,6,127⟩,⟨194,3,6,126⟩]
def Grp.has (op:Int) (g:Grp):Bool:=decide (g.first≤op)&&decide (op-g.first<g.many)
def findIn (op:Int):List Grp→Option Grp
 | []=>none
 | g::gs=>if g.has op then some g else findIn op gs
def find (op:Int):Option Grp:=findIn op groups
theorem jbl {op:Int} {g:Grp} : ∀ {gs:List Grp},findIn op gs=some g→g∈gs∧g.has op=true
 | [],h=>by simp [findIn] at h
 | x::xs,h=>by
  simp only [findIn] at h;split at h
  ·rename_i hx; cases h; exact ⟨by simp,hx⟩
  ·obtain ⟨h1,h2⟩:=jbl h; exact ⟨by simp [h1],h2⟩
def division (k:Int):Bool:=decide (3≤k)&&decide (k≤6)
def total (op:Int):Bool:=match find op with
 | some g => !(decide (g.kind=3)&&division (op-g.first))
 | none=>false
def pure (op:Int):Bool:=decide (op=256)||decide (op=27)||total op
def Grp.ins (g:Grp):List Int:=if g.kind=1∨g.kind=3 then [g.ty,g.ty] else [g.ty]
def Grp.out (g:Grp):Int:=if g.kind=0∨g.kind=1∨g.kind=4 then 127 else if g.kind=5 then 126 else g.ty
def numSig (op:Int):List Int × Int × Bool:=match find op with
 | some g=>(g.ins,g.out,true)
 | none=>([],0,false)
end Ss
namespace Go.Vw
open Go.Proofs Go.RowKit
set_option maxRecDepth 10000
set_option maxHeartbeats 2000000
def YO (g:Ss.Grp):V := .agg [vint g.first,vint g.many,vint g.kind,vint g.ty]
theorem encGrp_eq (g:Ss.Grp):YO g = .agg [vint g.first,vint g.many,vint g.kind,vint g.ty]:=nr rfl
theorem encGrp_nc (g:Ss.Grp):(YO g).ncells=4:=nr rfl
theorem jcd (g:Ss.Grp):(YO g).closed=true:=rfl
attribute [simp] encGrp_eq encGrp_nc
theorem groups_v:VPure Tryz.prog 140 [] (vl YO Ss.groups):=by
 intro S;refine jb (c:=jg Tryz.f140) Tryz.func140 rfl rfl (by simp [Tryz.ntmps140]) ?_;rw [Tryz.ntmps140];intro hwf;have hr:rep0 [V.int .i64 0, .int .i64 0, .int .i64 0, .int .i64 0] 12=[.int .i64 0, .int .i64 0, .int .i64 0, .int .i64 0, .int .i64 0, .int .i64 0, .int .i64 0, .int .i64 0, .int .i64 0, .int .i64 0, .int .i64 0, .int .i64 0, .int .i64 0, .int .i64 0, .int .i64 0, .int .i64 0, .int .i64 0, .int .i64 0, .int .i64 0, .int .i64 0, .int .i64 0, .int .i64 0, .int .i64 0, .int .i64 0, .int .i64 0, .int .i64 0, .int .i64 0, .int .i64 0, .int .i64 0, .int .i64 0, .int .i64 0, .int .i64 0, .int .i64 0, .int .i64 0, .int .i64 0, .int .i64 0, .int .i64 0, .int .i64 0, .int .i64 0, .int .i64 0, .int .i64 0, .int .i64 0, .int .i64 0, .int .i64 0, .int .i64 0, .int .i64 0, .int .i64 0, .int .i64 0]:=rfl
 repeat first|refine QG ?_|refine QY ?_ (r:=by conv=>lhs;simp[-List.map_set,QV,hr])
 exact ji (l:=[none]) hwf (Ghost.toB (frzSt (k:=0) (enc:=YO) (s:=4) (fun _=>rfl) jcd Ss.groups (by simp) (by rfl)) _) rfl
def findV (op:Int):Option Ss.Grp→V
 | some g => .tuple [YO g,vint (op-g.first), .bool true]
 | none => .tuple [YO ⟨0,0,0,0⟩,vint 0, .bool false]
theorem find_v (op:Int) (ho:Ss.I64 op):VPure Tryz.prog 117 [vint op] (findV op (Ss.find op)):=by
 intro S;have hgs : ∀ g∈Ss.groups,0≤g.first∧g.first≤1000∧0≤g.many∧g.many≤1000:=by decide
 have hlen:Ss.groups.length=12:=rfl;have cg:=groups_v;unfold Ss.find;generalize Ss.groups=gs at *
 obtain ⟨ho1,ho2⟩:=ho;refine qY (c:=jg Tryz.f117) Tryz.func117 rfl (by conv=>lhs; reduce) (by simp [Tryz.ntmps117]) ?_;rw [Tryz.ntmps117];intro hwf
 repeat first|refine QG ?_|refine QY ?_
 repeat refine QS ?_
 refine QP ?_;refine jc (cg) (by rfl) ?_;refine QW ?_
 repeat first|refine QG ?_|refine QY ?_
 repeat refine QS ?_
 refine je [0,2,7,8,9] rfl (fun c σ S' => ∃ (k:Nat),k≤gs.length∧c=gs.length-k∧Ss.findIn op (gs.drop k)=Ss.findIn op gs∧σ=[(0,vint op),(2, .ptr (lid S.nx 0) 0),(7,vl YO gs),(8,vnat gs.length),(9,vnat k)]∧S'=St S [] [some (4,[.int .i64 0, .int .i64 0, .int .i64 0, .int .i64 0])]) gs.length ?_ ?_
 ·exact ⟨0,by omega,rfl,rfl,by simp [Fr.only],rfl⟩
 ·rintro c σ T ⟨k,hk,rfl,hd,rfl,rfl⟩
  by_cases hkt:k<gs.length
  ·have hw:=jn hkt (by omega);have hst:Ss.findIn op (gs.drop k)=if gs[k].has op then some gs[k] else Ss.findIn op (gs.drop (k+1)):=by rw [List.drop_eq_getElem_cons hkt,Ss.findIn]
   have hgk:=hgs _ (List.getElem_mem hkt);obtain ⟨⟨g1,g2,g3,g4⟩,hx⟩ : ∃ g,gs[k]=g:=⟨_,rfl⟩
   rw [hx] at hst hgk;simp only at hgk
   by_cases h1:g1≤op
   ·have hws:IntKind.i64.wrap (op-g1)=op-g1:=wrap_i64 (by omega) (by omega)
    by_cases h2:op-g1<g2
    ·have hst':Ss.findIn op gs=some ⟨g1,g2,g3,g4⟩:=by rw [←hd,hst]; simp [Ss.Grp.has,h1,h2]
     rw [hst']
     repeat first|refine QG ?_|refine QY ?_ (r:=by conv=>lhs;simp[-List.map_set,QV,hkt,hx,h1,h2,hws])
     repeat refine QS ?_
     refine jP (St S [] [none,some (4,[.int .i64 g1, .int .i64 g2, .int .i64 g3, .int .i64 g4])]) (St S [] [none,some (4,[.int .i64 g1, .int .i64 g2, .int .i64 g3, .int .i64 g4])]) [] rfl (by kernel_rfl) (by conv=>lhs; reduce) (by conv=>lhs; reduce) (by kernel_rfl) (by kernel_rfl) (jm (by simp [subU,shpU,subL,shpL])) (by conv=>lhs; simp [-List.map_set,QV,hws]) ?_;refine jf rfl (by conv=>lhs;simp[-List.map_set,QV]) (jm (by simp [subU,shpU,subL,shpL])) ?_;refine QM (by conv=>lhs;simp[-List.map_set,QV,hws]) ?_;refine QN ?_
     repeat first|refine QG ?_|refine QY ?_
     exact doneC (by simp; rfl) (ja hwf (by simp [findV]) rfl)
    ·rw [show Ss.Grp.has op ⟨g1,g2,g3,g4⟩=false by simp [Ss.Grp.has,h1,h2]] at hst
     repeat first|refine QG ?_|refine QY ?_ (r:=by conv=>lhs;simp[-List.map_set,QV,hkt,hx,h1,h2,hws])
     refine QA [0] (h:=⟨?_,k+1,hkt,rfl,by rw [←hd,hst]; rfl,by simp [hw],rfl⟩);omega
   ·rw [show Ss.Grp.has op ⟨g1,g2,g3,g4⟩=false by simp [Ss.Grp.has,h1]] at hst
    repeat first|refine QG ?_|refine QY ?_ (r:=by conv=>lhs;simp[-List.map_set,QV,hkt,hx,h1])
    refine QA [0] (h:=⟨?_,k+1,hkt,rfl,by rw [←hd,hst]; rfl,by simp [hw],rfl⟩);omega
  ·have e:gs.drop k=[]:=by rw [List.drop_eq_nil_iff]; omega
   rw [e] at hd;have hd':Ss.findIn op gs=none:=by rw [←hd]; rfl
   rw [hd']
   repeat first|refine QG ?_|refine QY ?_ (r:=by conv=>lhs;simp[-List.map_set,QV,hkt])
   exact doneC (by simp; rfl) (ja hwf (by simp [findV]) rfl)
end Go.Vw
