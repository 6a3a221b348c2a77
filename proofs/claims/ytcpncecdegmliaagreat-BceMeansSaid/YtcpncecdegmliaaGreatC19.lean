import Derived.Test.YtcpncecdegmliaaGreatC18
/- Part of the proof. -/
set_option linter.unusedVariables false
set_option linter.unusedSimpArgs false
set_option maxRecDepth 10000
set_option maxHeartbeats 8000000
namespace Go.Vw
open Go.Proofs Go.RowKit
attribute [-simp] List.map_set
theorem short1_v (l:List Int):VPure Tryz.prog 105 ([vl vint l]++[]) (.bool (decide (4096<l.length))):=by
 intro S;refine QB (c:=jc Tryz.f105) Tryz.func105 Tryz.ntmps105 fun hwf=>?_
 repeat first|refine QG ?_|refine QY ?_
 exact ja hwf (by simp; omega) rfl
theorem jbI (ls:List (List Int)) (hl:ls.length<2^63):VPure Tryz.prog 84 [vl (vl vint) ls] (.bool (Ss.shortL ls)):=by
 intro S;have e:(!ls.any fun l=>decide (4096<l.length))=Ss.shortL ls:=by
  rw [Ss.shortL,List.not_any_eq_all_not]
  congr 1; funext l; by_cases h:l.length≤4096<;>simp [h]<;>omega
 rw [←e];refine QB (c:=jc Tryz.f84) Tryz.func84 Tryz.ntmps84 fun hwf=>?_
 repeat first|refine QG ?_|refine QY ?_
 refine QT ?_;refine QP ?_;refine jb rfl (AnyL_v ls (fun l=>decide (4096<l.length)) _ [] rfl hl (fun l _=>short1_v l)) ?_;refine QW ?_
 repeat first|refine QG ?_|refine QY ?_
 exact ja hwf rfl rfl
theorem shortL_1 (a:List Int):Ss.shortL [a]=decide (a.length≤4096):=by simp [Ss.shortL]
theorem YW (a b:List Int):Ss.shortL [a,b]=(decide (a.length≤4096)&&decide (b.length≤4096)):=by simp [Ss.shortL]
theorem shortL_3 (a b c:List Int):Ss.shortL [a,b,c]=(decide (a.length≤4096)&&decide (b.length≤4096)&&decide (c.length≤4096)):=by simp [Ss.shortL,Bool.and_assoc]
theorem small_v (f:Ss.Fn) (hf:f.Fits):VPure Tryz.prog 51 [jJ f] (.bool f.small):=by
 intro S;obtain ⟨⟨fi,fo⟩,ts,bs⟩:=f;obtain ⟨_,_,hbl0,hbf⟩:=hf;simp only at hbl0 hbf;have hbl:bs.length<2^63:=by omega
 refine QB (c:=jc Tryz.f51) Tryz.func51 Tryz.ntmps51 fun hwf=>?_
 repeat first|refine QG ?_|refine QY ?_
 refine QT ?_;refine QP ?_;refine qY (xs':=[vl (vl vint) [ts,fi,fo]]) rfl (GhostArgs.one [] [] (frz1 (k:=1) (len:=3) (by simp) rfl rfl rfl)) (jbI _ (by simp)) ?_;simp only [List.set_cons_succ,List.set_cons_zero]
 cases h1:Ss.shortL [ts,fi,fo] with
 | false =>
  refine QM (by conv=>lhs;simp[QV,h1]) ?_;refine QN ?_
  repeat first|refine QG ?_|refine QY ?_
  refine ja hwf ?_ rfl;rw [shortL_3] at h1;simp [Ss.Fn.small,Ss.Fn.heads] at h1 ⊢;omega
 | true =>
 by_cases h2:(4096:Int)<(bs.length:Int)
 ·refine QM (by conv=>lhs;simp[QV,h1,h2]) ?_;refine QN ?_
  repeat first|refine QG ?_|refine QY ?_
  exact ja hwf (by simp [Ss.Fn.small,Ss.Fn.heads]; omega) rfl
 have hh:Ss.Fn.small ⟨⟨fi,fo⟩,ts,bs⟩=Ss.smallFrom 0 bs:=by
  have:Ss.Fn.heads ⟨⟨fi,fo⟩,ts,bs⟩=true:=by rw [shortL_3] at h1; simp [Ss.Fn.heads] at h1 ⊢; omega
  simp [Ss.Fn.small,this]
 rw [hh];refine QM (by conv=>lhs;simp[QV,h1,h2]) ?_;refine QN ?_
 repeat first|refine QG ?_|refine QY ?_
 refine QO [3,28,29,30] ?_;refine QK [0] ?_;refine QT ?_;refine jd [3,28,29,30] rfl (fun c σ S' => ∃ (k n:Nat),k≤bs.length∧n≤4096∧c=bs.length-k∧Ss.smallFrom n (bs.drop k)=Ss.smallFrom 0 bs∧σ=[(3,vint (4096-(n:Int))),(28,vl je bs),(29,vnat bs.length),(30,vnat k)]∧S'=St S [] [some (4,[vl vint fi,vl vint fo,vl vint ts,vl je bs])]) bs.length ?_ ?_
 ·exact ⟨0,0,by omega,by omega,rfl,rfl,by simp [Fr.only],rfl⟩
 ·rintro c σ T ⟨k,n,hk,hn,rfl,hd,rfl,rfl⟩
  by_cases hkt:k<bs.length
  ·have hw:=jh hkt hbl;have hbk:=hbf _ (List.getElem_mem hkt);have hst:=Ss.drop_small (n:=n) hkt;obtain ⟨⟨ps,code,⟨tk,ta,to,az⟩⟩,hb⟩ : ∃ b,bs[k]=b:=⟨_,rfl⟩
   rw [hb] at hst hbk;obtain ⟨_,⟨hcl0,_⟩,_,_,⟨htl0,_⟩,_⟩:=hbk;simp only at hcl0 htl0;have hcl:code.length<2^63:=by omega
   have htl:to.length<2^63:=by omega
   have hwn:IntKind.i64.wrap (4096-(n:Int)-(code.length:Int))=4096-(n:Int)-(code.length:Int):=wrap_i64 (by omega) (by omega);have hS:Ss.Block.small ⟨ps,code,⟨tk,ta,to,az⟩⟩=(decide (ps.length≤4096)&&decide (to.length≤4096)&&decide (az.length≤4096)&&code.all Ss.Ins.small&&to.all Ss.Edge.small):=rfl
   by_cases g1:4096-(n:Int)-(code.length:Int)<0
   ·have e:Ss.smallFrom n (bs.drop k)=false:=by rw [hst]; simp; omega
    rw [←hd,e]
    repeat first|refine QG ?_|refine QY ?_ (r:=by conv=>lhs;simp[QV,hkt,hb,hwn,g1])
    exact ja hwf rfl rfl
   repeat first|refine QG ?_|refine QY ?_ (r:=by conv=>lhs;simp[QV,hkt,hb,hwn,g1])
   refine QT ?_;refine QP ?_ (r:=by conv=>lhs;simp[QV,hkt,hb,hwn,g1]);refine qY (xs':=[vl (vl vint) [ps,az]]) rfl (GhostArgs.one [] [] (frz1 (k:=2) (len:=2) (by simp) rfl rfl rfl)) (jbI _ (by simp)) ?_;simp only [List.set_cons_succ,List.set_cons_zero]
   cases g2:Ss.shortL [ps,az] with
   | false =>
    have e:Ss.smallFrom n (bs.drop k)=false:=by rw [YW] at g2; rw [hst,hS]; simp at g2 ⊢; omega
    rw [←hd,e];refine QM (by conv=>lhs;simp[QV,g2]) ?_;refine QN ?_
    repeat first|refine QG ?_|refine QY ?_
    exact ja hwf rfl rfl
   | true =>
   by_cases g3:(4096:Int)<(to.length:Int)
   ·have e:Ss.smallFrom n (bs.drop k)=false:=by rw [hst,hS]; simp; omega
    rw [←hd,e];refine QM (by conv=>lhs;simp[QV,g2,g3]) ?_;refine QN ?_
    repeat first|refine QG ?_|refine QY ?_
    exact ja hwf rfl rfl
   rw [YW] at g2;have g2':ps.length≤4096∧az.length≤4096:=by simpa using g2
   rw [show decide (n+code.length≤4096)=true by simp; omega,hS,show decide (ps.length≤4096)=true by simp; omega,show decide (to.length≤4096)=true by simp; omega,show decide (az.length≤4096)=true by simp; omega,Bool.true_and,Bool.true_and,Bool.true_and,Bool.true_and] at hst;rw [←YW] at g2;refine QM (by conv=>lhs;simp[QV,g2,g3]) ?_;refine QN ?_
   repeat first|refine QG ?_|refine QY ?_
   refine QO [3,5,28,29,30,59,60,61] ?_;refine QK [0,1] ?_;refine QT ?_;refine jd [3,5,28,29,30,59,60,61] rfl (fun c σ S' => ∃ (j:Nat),j≤code.length∧c=code.length-j∧(code.drop j).all Ss.Ins.small=code.all Ss.Ins.small∧σ=[(3,vint (4096-(n:Int)-(code.length:Int))),(5, .ptr (lid S.nx 1) 0),(28,vl je bs),(29,vnat bs.length),(30,vnat k),(59,vl jp code),(60,vnat code.length),(61,vnat j)]∧S'=St S [] [some (4,[vl vint fi,vl vint fo,vl vint ts,vl je bs]),some (6,[vl vint ps,vl jp code, .int .i64 tk, .int .i64 ta,vl ji to,vl vint az])]) code.length ?_ ?_
   ·exact ⟨0,by omega,rfl,rfl,by simp [Fr.only],rfl⟩
   ·rintro c σ T ⟨j,hj,rfl,hdj,rfl,rfl⟩
    by_cases hjt:j<code.length
    ·have hwj:=jh hjt hcl;have hstj:=Ss.drop_all Ss.Ins.small hjt;obtain ⟨⟨io,iN,ia,iu⟩,hx⟩ : ∃ b,code[j]=b:=⟨_,rfl⟩
     rw [hx] at hstj;have hX:Ss.Ins.small ⟨io,iN,ia,iu⟩=Ss.shortL [ia,iu]:=(YW _ _).symm;rw [hX] at hstj
     repeat first|refine QG ?_|refine QY ?_ (r:=by conv=>lhs;simp[QV,hjt,hx])
     refine QT ?_;refine QP ?_ (r:=by conv=>lhs;simp[QV,hjt,hx]);refine qY (xs':=[vl (vl vint) [ia,iu]]) rfl (GhostArgs.one [] [] (frz1 (k:=3) (len:=2) (by simp) rfl rfl rfl)) (jbI _ (by simp)) ?_;simp only [List.set_cons_succ,List.set_cons_zero]
     cases q1:Ss.shortL [ia,iu] with
     | false =>
      rw [q1,Bool.false_and] at hstj;have e:code.all Ss.Ins.small=false:=by rw [←hdj,hstj]
      rw [←hd,hst,e];refine QM (by conv=>lhs;simp[QV,q1]) ?_;refine QN ?_
      repeat first|refine QG ?_|refine QY ?_
      exact ja hwf rfl rfl
     | true =>
      rw [q1,Bool.true_and] at hstj;refine QM (by conv=>lhs;simp[QV,q1]) ?_;refine QN ?_
      repeat first|refine QG ?_|refine QY ?_
      refine QA [0,1] (h:=⟨?_,j+1,hjt,rfl,by rw [←hdj,hstj],by simp [hwj],rfl⟩);omega
    ·rw [Ss.drop_all_end _ hjt] at hdj;rw [←hdj,Bool.true_and] at hst
     repeat first|refine QG ?_|refine QY ?_ (r:=by conv=>lhs;simp[QV,hjt])
     refine QT ?_;refine jd [3,28,29,30,75,76,77] rfl (fun c σ S' => ∃ (j:Nat),j≤to.length∧c=to.length-j∧(to.drop j).all Ss.Edge.small=to.all Ss.Edge.small∧σ=[(3,vint (4096-(n:Int)-(code.length:Int))),(28,vl je bs),(29,vnat bs.length),(30,vnat k),(75,vl ji to),(76,vnat to.length),(77,vnat j)]∧S'=St S [] [some (4,[vl vint fi,vl vint fo,vl vint ts,vl je bs]),some (6,[vl vint ps,vl jp code, .int .i64 tk, .int .i64 ta,vl ji to,vl vint az])]) to.length ?_ ?_
     ·exact ⟨0,by omega,rfl,rfl,by simp [Fr.only],rfl⟩
     ·rintro c σ T ⟨j,hj,rfl,hdj,rfl,rfl⟩
      by_cases hjt:j<to.length
      ·have hwj:=jh hjt htl;have hstj:=Ss.drop_all Ss.Edge.small hjt;obtain ⟨⟨io,ia⟩,hx⟩ : ∃ b,to[j]=b:=⟨_,rfl⟩
       rw [hx] at hstj;have hX:Ss.Edge.small ⟨io,ia⟩=Ss.shortL [ia]:=(shortL_1 _).symm;rw [hX] at hstj
       repeat first|refine QG ?_|refine QY ?_ (r:=by conv=>lhs;simp[QV,hjt,hx])
       refine QT ?_;refine QP ?_ (r:=by conv=>lhs;simp[QV,hjt,hx]);refine qY (xs':=[vl (vl vint) [ia]]) rfl (GhostArgs.one [] [] (frz1 (k:=3) (len:=1) (by simp) rfl rfl rfl)) (jbI _ (by simp)) ?_;simp only [List.set_cons_succ,List.set_cons_zero]
       cases q1:Ss.shortL [ia] with
       | false =>
        rw [q1,Bool.false_and] at hstj;have e:to.all Ss.Edge.small=false:=by rw [←hdj,hstj]
        rw [←hd,hst,e];refine QM (by conv=>lhs;simp[QV,q1]) ?_;refine QN ?_
        repeat first|refine QG ?_|refine QY ?_
        exact ja hwf rfl rfl
       | true =>
        rw [q1,Bool.true_and] at hstj;refine QM (by conv=>lhs;simp[QV,q1]) ?_;refine QN ?_
        repeat first|refine QG ?_|refine QY ?_
        refine QA [0,1] (h:=⟨?_,j+1,hjt,rfl,by rw [←hdj,hstj],by simp [hwj],rfl⟩);omega
      ·rw [Ss.drop_all_end _ hjt] at hdj;rw [←hdj] at hst
       repeat first|refine QG ?_|refine QY ?_ (r:=by conv=>lhs;simp[QV,hjt,hw])
       refine QA [0] (h:=⟨?_,k+1,n+code.length,hkt,by omega,rfl,by rw [←hd,hst,Bool.true_and],by simp; omega,rfl⟩);omega
  ·rw [Ss.drop_small_end hkt] at hd;rw [←hd]
   repeat first|refine QG ?_|refine QY ?_ (r:=by conv=>lhs;simp[QV,hkt])
   exact ja hwf rfl rfl
end Go.Vw
namespace Ss
def rowOf (b:Block):List Int:=b.term.to.map Edge.to
def succs (bs:List Block):List (List Int):=bs.map rowOf
end Ss
namespace Go.Vw
open Go.Proofs Go.RowKit
attribute [-simp] List.map_set
theorem count_mem : ∀ {bs:List Ss.Block} {b:Ss.Block},b∈bs→b.code.length≤Ss.count bs
 | x::bs,b,h=>by
  simp only [Ss.count,List.map_cons,List.sum_cons];rcases List.mem_cons.1 h with rfl | h
  ·omega
  ·have:=count_mem h;simp only [Ss.count] at this;omega
theorem zk {f:Ss.Fn} (h:f.small=true):f.types.length≤4096∧f.blocks.length≤4096∧(∀ b∈f.blocks,b.params.length≤4096∧b.term.to.length≤4096∧b.term.args.length≤4096∧b.code.length≤4096)∧Ss.count f.blocks≤4096:=by
 obtain ⟨h1,h2,h3⟩:=(Ss.small_iff f).1 h;simp only [Ss.Fn.heads,Bool.and_eq_true,decide_eq_true_eq] at h1;refine ⟨h1.1.1.1,h1.1.1.2,fun b hb => ?_,h3⟩;have:=h2 b hb;simp only [Ss.Block.small,Bool.and_eq_true,decide_eq_true_eq] at this;refine ⟨this.1.1.1.1,this.1.1.1.2,this.1.1.2, ?_⟩;exact Nat.le_trans (count_mem hb) h3
theorem Succ_v (f:Ss.Fn) (hf:f.Fits):VPure Tryz.prog 19 [jJ f] (vl (vl vint) (if f.small then Ss.succs f.blocks else [])):=by
 intro S;have cs:=small_v f hf;have hsb := @zk f;generalize f.small=sm at *
 obtain ⟨⟨fi,fo⟩,ts,bs⟩:=f;have cs':VPure Tryz.prog 51 [.agg [vl vint fi,vl vint fo,vl vint ts,vl je bs]] (.bool sm):=cs
 by_cases hs:sm=true
 case neg =>
  rw [if_neg hs];have hs':sm=false:=by simpa using hs
  refine QB (c:=jc Tryz.f19) Tryz.func19 Tryz.ntmps19 fun hwf=>?_
  repeat first|refine QG ?_|refine QY ?_
  refine QT ?_;refine QP ?_;refine QL (cs') ?_;refine QM (by conv=>lhs;simp[QV,hs']) ?_;refine QN ?_
  repeat first|refine QG ?_|refine QY ?_
  exact jf (l:=[_]) hwf (Ghost.toB (Ghost.nils_list _) _) rfl
 rw [if_pos hs];obtain ⟨_,hbl,hbf,_⟩:=hsb hs;simp only at hbl hbf ⊢;refine QB (c:=jc Tryz.f19) Tryz.func19 Tryz.ntmps19 fun hwf=>?_
 repeat first|refine QG ?_|refine QY ?_
 refine QT ?_;refine QP ?_;refine QL (cs') ?_;refine QM (by conv=>lhs;simp[QV,hs]) ?_;refine QN ?_;refine QT ?_;refine jH rfl rfl rfl ?_;refine QT ?_;refine jG rfl ?_;refine QT ?_;refine QY ?_;refine zy 3 1 rfl (by conv=>lhs; simp [Fr.set]) ?_
 repeat first|refine QG ?_|refine QY ?_
 refine QO [3,13,14,15] ?_;refine QK [1] ?_;refine QT ?_;refine jd [3,13,14,15] rfl (fun c σ S' => ∃ (k:Nat) (out:List (List Int)),k≤bs.length∧c=bs.length-k∧out.length=k∧out=(bs.take k).map Ss.rowOf∧σ=[(3, .slice (lid S.nx 0) 0 k),(13,vl je bs),(14,vnat bs.length),(15,vnat k)]∧S'=St S [] [some (1,out.map (vl vint))]) bs.length ?_ ?_
 ·exact ⟨0,[],by omega,rfl,rfl,by simp,by simp [Fr.only],by simp⟩
 ·rintro c σ T ⟨k,out,hk,rfl,hol,ho,rfl,rfl⟩
  by_cases hkt:k<bs.length
  ·have hw:=jh hkt (by omega);obtain ⟨_,htl,_,_⟩:=hbf _ (List.getElem_mem hkt);obtain ⟨⟨ps,code,⟨tk,ta,to,az⟩⟩,hx⟩ : ∃ b,bs[k]=b:=⟨_,rfl⟩
   rw [hx] at htl;simp only at htl;have htk:bs.take (k+1)=bs.take k++[⟨ps,code,⟨tk,ta,to,az⟩⟩]:=by rw [List.take_add_one,List.getElem?_eq_getElem hkt,hx]; rfl
   refine QT ?_;refine QY ?_ (r:=by conv=>lhs;simp[QV,hkt]);refine QT ?_;refine jI rfl rfl rfl ?_;refine QT ?_;refine jG rfl ?_;refine QT ?_;refine jR 1 rfl rfl ?_;refine QT ?_;refine QY ?_ (r:=by conv=>lhs;simp[QV,hkt,hx]);refine QT ?_;refine QY ?_;refine zy 6 1 rfl (by conv=>lhs; simp [Fr.set]) ?_
   repeat first|refine QG ?_|refine QY ?_
   refine QO [3,6,13,14,15,21,22,23] ?_;refine QK [0,2] ?_;refine QT ?_;refine jd [3,6,13,14,15,21,22,23] rfl (fun c σ S' => ∃ (j:Nat) (r:List Int),j≤to.length∧c=to.length-j∧r.length=j∧r=(to.take j).map Ss.Edge.to∧σ=[(3, .slice (lid S.nx 0) 0 k),(6, .slice (lid S.nx 1) 0 j),(13,vl je bs),(14,vnat bs.length),(15,vnat k),(21,vl ji to),(22,vnat to.length),(23,vnat j)]∧S'=St S [] [some (1,out.map (vl vint)),some (1,r.map vint)]) to.length ?_ ?_
   ·exact ⟨0,[],by omega,rfl,rfl,by simp,by simp [Fr.only],by simp⟩
   ·rintro c σ T ⟨j,r,hj,rfl,hrl,hr,rfl,rfl⟩
    by_cases hjt:j<to.length
    ·have hwj:=jh hjt (by omega);have hb:(j+1)*8≤140737488355328:=by omega
     have hb':j+1≤140737488355328:=by omega
     obtain ⟨⟨xt,xa⟩,hx2⟩ : ∃ b,to[j]=b:=⟨_,rfl⟩
     have htj:to.take (j+1)=to.take j++[⟨xt,xa⟩]:=by rw [List.take_add_one,List.getElem?_eq_getElem hjt,hx2]; rfl
     repeat first|refine QG ?_|refine QY ?_ (r:=by conv=>lhs;simp[QV,hjt,hx2,hb,hb',hrl])
     refine QA [0,4] (h:=⟨?_,j+1,r++[xt],hjt,rfl,by simp [hrl],by rw [htj,List.map_append,hr]; rfl,by simp [hwj],by simp⟩);omega
    ·have hje:j=to.length:=by omega
     subst hje;rw [List.take_length] at hr;have hb:(k+1)*24≤140737488355328:=by omega
     have hb':k+1≤140737488355328:=by omega
     refine QT ?_;refine QY ?_ (r:=by conv=>lhs;simp[QV,hjt]);refine QT ?_;refine jH rfl rfl rfl ?_;refine QT ?_;refine jW 2 rfl rfl ?_;refine jt 6 rfl ((frz1 (k:=1) (len:=to.length) (by simp) (by rfl) (jq vint (fun _=>rfl) _) (by simpa using hrl))) (by conv=>lhs; simp [Fr.set]) ?_;simp only [List.set_cons_succ,List.set_cons_zero]
     repeat first|refine QG ?_|refine QY ?_ (r:=by conv=>lhs;simp[QV,hb,hb',hol])
     refine QA [3] (h:=⟨?_,k+1,out++[r],hkt,rfl,by simp [hol],by rw [htk,List.map_append, ←ho,hr]; rfl,by simp [hw],by simp [vl]⟩);omega
  ·have hke:k=bs.length:=by omega
   subst hke;rw [List.take_length] at ho
   repeat first|refine QG ?_|refine QY ?_ (r:=by conv=>lhs;simp[QV,hkt])
   rw [Ss.succs, ←ho];exact jf hwf ((frz1 (by simp) (by rfl) (jq (vl vint) (fun _=>rfl) _) (by simpa using hol)).toB _) rfl
theorem RDominates_v (l:List Int) (a b:Int) (hl:l.length<2^63):VPure Tryz.prog 27 [vl vint l,vint a,vint b] (.bool (G.dominates l a b)):=by
 intro S;refine qE rfl ?_;refine qu (c:=jc Tryz.f27) Tryz.func27 rfl rfl (by simp [Tryz.ntmps27]) ?_;rw [Tryz.ntmps27];refine QT ?_;refine QY ?_
 by_cases ha:G.okIx l a
 ·by_cases hb:G.okIx l b
  ·obtain ⟨ha1,ha2⟩:=ha;obtain ⟨hb1,hb2⟩:=hb;have e1 : ¬ a<0:=by omega
   have e2 : ¬ (l.length:Int)≤a:=by omega
   have e3 : ¬ b<0:=by omega
   have e4 : ¬ (l.length:Int)≤b:=by omega
   refine QT ?_;refine QY ?_ (r:=by conv=>lhs;simp[QV,jz,e1,e2,e3,e4]);refine QT ?_;refine jH rfl rfl rfl ?_;refine QT ?_;refine jG rfl ?_;refine QT ?_;refine QY ?_;refine QT ?_;refine jR 0 rfl rfl ?_;refine QT ?_;refine jd [0,1,2,7] rfl (fun n σ S' => ∃ (k:Nat) (c:Int),k≤257∧n=257-k∧G.okIx l c∧G.dom1 l a (257-k) c=G.dom1 l a 257 b∧σ=[(0,vl vint l),(1,vint a),(2,vint c),(7,vnat k)]∧S'=S) 257 ?_ ?_
   ·exact ⟨0,b,by omega,rfl,⟨hb1,hb2⟩,rfl,by simp [Fr.only,Fr.look,vnat,vint],rfl⟩
   ·rintro n σ S' ⟨k,c,hk,rfl,hc,hd,rfl,rfl⟩;have hfin:G.dominates l a b=G.dom1 l a 257 b:=by simp [G.dominates,G.okIx,ha1,ha2]
    obtain ⟨hc1,hc2⟩:=hc;have hcn:c.toNat<l.length:=by omega
    refine QT ?_;refine QY ?_;refine QT ?_;refine WJ rfl rfl rfl (k≤256) (by first | (simp; done) | (simp; omega)) ?_ ?_
    ·intro hk6;have hst:G.dom1 l a (257-k) c=if a=c then true else G.dom1 l a (256-k) (l[c.toNat]):=by
      rw [show 257-k=(256-k)+1 from by omega,G.dom1,if_pos ⟨hc1,hc2⟩];simp [hcn]
     refine QT ?_;refine jG rfl ?_;refine QT ?_;refine jR 1 rfl rfl ?_;refine QT ?_;refine QY ?_;refine QT ?_;refine WJ rfl rfl rfl (a=c) (by first | (simp; done) | (simp; omega)) ?_ ?_
     ·intro hac;refine QT ?_;refine QY ?_;refine QT ?_;refine jC rfl ?_;rw [hfin, ←hd,hst,if_pos hac];exact Gives.same (Agree.refl S')
     ·intro hac;rw [if_neg hac] at hst;refine QT ?_;refine jG rfl ?_;refine QT ?_;refine QY ?_ (r:=by conv=>lhs;simp[QV,ZO,hc1,hcn]);have fls : ¬ G.okIx l l[c.toNat]→G.dom1 l a (256-k) l[c.toNat]=false:=by
       intro h
       cases 256-k<;>simp [G.dom1,h]
      by_cases hx:l[c.toNat]<0
      ·refine QT ?_;refine QY ?_ (r:=by conv=>lhs;simp[QV,jz,hx]);refine QT ?_;refine jI rfl rfl rfl ?_;refine QT ?_;refine QY ?_;refine QT ?_;refine jC rfl ?_;rw [hfin, ←hd,hst,fls (by simp [G.okIx]; omega)];exact Gives.same (Agree.refl S')
      ·by_cases hy:(l.length:Int)≤l[c.toNat]
       ·refine QT ?_;refine QY ?_ (r:=by conv=>lhs;simp[QV,jz,hx,hy]);refine QT ?_;refine jI rfl rfl rfl ?_;refine QT ?_;refine QY ?_;refine QT ?_;refine jC rfl ?_;rw [hfin, ←hd,hst,fls (by simp [G.okIx]; omega)];exact Gives.same (Agree.refl S')
       ·refine QT ?_;refine QY ?_ (r:=by conv=>lhs;simp[QV,jz,hx,hy]);refine QT ?_;refine jH rfl rfl rfl ?_;refine QT ?_;refine jG rfl ?_;have hw:IntKind.i64.wrap ((k:Int)+1)=(k:Int)+1:=wrap_i64 (by omega) (by omega);refine QT ?_;refine QY ?_ (r:=by conv=>lhs;simp[QV,hw]);exact again ⟨Nat.sub_lt_sub_left (by omega) (Nat.lt_succ_self k),k+1,l[c.toNat],by omega,rfl,⟨by omega,by omega⟩,by rw [←hd,hst]; congr 1; omega,by simp [Fr.only,Fr.look,vnat,vint],rfl⟩
    ·intro hk6;refine QT ?_;refine jW 0 rfl rfl ?_;refine QT ?_;refine QY ?_;refine QT ?_;refine jC rfl ?_;rw [hfin, ←hd,show 257-k=0 from by omega];exact Gives.same (Agree.refl S')
  ·have hfin:G.dominates l a b=false:=by simp [G.dominates,G.dom1,hb]
   obtain ⟨ha1,ha2⟩:=ha;have e1 : ¬ a<0:=by omega
   have e2 : ¬ (l.length:Int)≤a:=by omega
   rw [hfin]
   by_cases e3:b<0
   ·refine QT ?_;refine QY ?_ (r:=by conv=>lhs;simp[QV,jz,e1,e2,e3]);refine QT ?_;refine jI rfl rfl rfl ?_;refine QT ?_;refine QY ?_;refine QT ?_;refine jC rfl ?_;exact Gives.same (Agree.refl S)
   ·have e4:(l.length:Int)≤b:=by simp [G.okIx] at hb; omega
    refine QT ?_;refine QY ?_ (r:=by conv=>lhs;simp[QV,jz,e1,e2,e3,e4]);refine QT ?_;refine jI rfl rfl rfl ?_;refine QT ?_;refine QY ?_;refine QT ?_;refine jC rfl ?_;exact Gives.same (Agree.refl S)
 ·have hfin:G.dominates l a b=false:=by simp [G.dominates,ha]
  rw [hfin]
  by_cases e1:a<0
  ·refine QT ?_;refine QY ?_ (r:=by conv=>lhs;simp[QV,jz,e1]);refine QT ?_;refine jI rfl rfl rfl ?_;refine QT ?_;refine QY ?_;refine QT ?_;refine jC rfl ?_;exact Gives.same (Agree.refl S)
  ·have e2:(l.length:Int)≤a:=by simp [G.okIx] at ha; omega
   refine QT ?_;refine QY ?_ (r:=by conv=>lhs;simp[QV,jz,e1,e2]);refine QT ?_;refine jI rfl rfl rfl ?_;refine QT ?_;refine QY ?_;refine QT ?_;refine jC rfl ?_;exact Gives.same (Agree.refl S)
theorem there_v (l:List Int) (n:Int):VPure Tryz.prog 125 [vint n, .ref (vl vint l)] (.bool (decide (G.okIx l n))):=by
 intro S;refine qE rfl ?_;refine qu (c:=jc Tryz.f125) Tryz.func125 rfl rfl (by simp [Tryz.ntmps125]) ?_;rw [Tryz.ntmps125];refine QT ?_;refine QY ?_
 by_cases h0:0≤n
 ·refine QT ?_;refine QY ?_ (r:=by conv=>lhs;simp[QV,jz,h0]);refine QT ?_;refine jC rfl ?_;have:decide (G.okIx l n)=decide (n<(l.length:Int)):=by simp [G.okIx,h0]
  rw [this];exact Gives.same (Agree.refl S)
 ·refine QT ?_;refine QY ?_ (r:=by conv=>lhs;simp[QV,jz,h0]);refine QT ?_;refine jC rfl ?_;have:decide (G.okIx l n)=false:=by simp [G.okIx,h0]
  rw [this];exact Gives.same (Agree.refl S)
theorem Dominates_v (l:List Int) (a b:Int) (hl:l.length<2^63):VPure Tryz.prog 114 [vl vint l,vint a,vint b] (.bool (G.dominates l a b)):=by
 intro S;refine qE rfl ?_;refine qu (c:=jc Tryz.f114) Tryz.func114 rfl rfl (by simp [Tryz.ntmps114]) ?_;rw [Tryz.ntmps114];refine QT ?_;refine QY ?_;refine jt 3 rfl (Ghost.box (get_add _ _) (jbt _ _)) (by conv=>lhs; simp [Fr.set]) ?_;have hag:Agree S ((S.add (1,[vl vint l])).del S.nx):=((Agree.refl S).add _).del (Nat.le_refl _);generalize (S.add (1,[vl vint l])).del S.nx=S1 at hag ⊢;refine QT ?_;refine QY ?_;refine QT ?_;refine QP ?_;refine qQ rfl rfl rfl (there_v l a) ?_;refine QW ?_
 by_cases ha:G.okIx l a
 ·have hfin:G.dominates l a b=G.dom1 l a 257 b:=by simp [G.dominates,ha]
  rw [hfin];refine jH rfl rfl (by simp [ev,Fr.look,ha]) ?_;refine QT ?_;refine jG rfl ?_;refine QT ?_;refine QY ?_;refine QT ?_;refine jR 0 rfl rfl ?_;refine QT ?_;refine jd [0,1,2,3,7,8] rfl (fun n σ S' => ∃ (k:Nat) (c:Int),k≤257∧n=257-k∧G.dom1 l a (257-k) c=G.dom1 l a 257 b∧σ=[(0,vl vint l),(1,vint a),(2,vint c),(3, .ref (vl vint l)),(7, .func 125 [.ref (vl vint l)]),(8,vnat k)]∧S'=S1) 257 ?_ ?_
  ·exact ⟨0,b,by omega,rfl,rfl,by simp [Fr.only,Fr.look,vnat,vint],rfl⟩
  ·rintro n σ S' ⟨k,c,hk,rfl,hd,rfl,rfl⟩
   by_cases hk6:k≤256
   ·have hst:G.dom1 l a (257-k) c=if G.okIx l c then (if a=c then true else G.dom1 l a (256-k) (l.getD c.toNat 0)) else false:=by
     rw [show 257-k=(256-k)+1 from by omega,G.dom1]
    have h7:(k:Int)≤256:=by omega
    refine QT ?_;refine QP ?_ (r:=by conv=>lhs;simp[QV,h7]);refine qQ rfl rfl rfl (there_v l c) ?_;refine QW ?_
    by_cases hc:G.okIx l c
    ·refine jI rfl rfl (by simp [ev,Fr.look,hc]) ?_;rw [if_pos hc] at hst;obtain ⟨hc1,hc2⟩:=hc;have hcn:c.toNat<l.length:=by omega
     refine QT ?_;refine jG rfl ?_;refine QT ?_;refine jR 1 rfl rfl ?_;refine QT ?_;refine QY ?_;refine QT ?_;refine WJ rfl rfl rfl (a=c) (by first | (simp; done) | (simp; omega)) ?_ ?_
     ·intro hac;refine QT ?_;refine QY ?_;refine QT ?_;refine jC rfl ?_;rw [←hd,hst,if_pos hac];exact Gives.same hag
     ·intro hac;rw [if_neg hac] at hst;have hw:IntKind.i64.wrap ((k:Int)+1)=(k:Int)+1:=wrap_i64 (by omega) (by omega);refine QT ?_;refine jG rfl ?_;refine QT ?_;refine QY ?_ (r:=by conv=>lhs;simp[QV,ZO,hc1,hcn]);refine QT ?_;refine QY ?_ (r:=by conv=>lhs;simp[QV,hw]);exact again ⟨Nat.sub_lt_sub_left (by omega) (Nat.lt_succ_self k),k+1,l[c.toNat],by omega,rfl,by rw [←hd,hst,show 257-(k+1)=256-k from by omega]; simp [hcn],by simp [Fr.only,Fr.look,vnat,vint],rfl⟩
    ·refine jH rfl rfl (by simp [ev,Fr.look,hc]) ?_;refine QT ?_;refine jW 0 rfl rfl ?_;refine QT ?_;refine QY ?_;refine QT ?_;refine jC rfl ?_;rw [←hd,hst,if_neg hc];exact Gives.same hag
   ·have h7 : ¬ (k:Int)≤256:=by omega
    refine QT ?_;refine QY ?_ (r:=by conv=>lhs;simp[QV,h7]);refine QT ?_;refine jH rfl rfl rfl ?_;refine QT ?_;refine jW 0 rfl rfl ?_;refine QT ?_;refine QY ?_;refine QT ?_;refine jC rfl ?_;rw [←hd,show 257-k=0 from by omega];exact Gives.same hag
 ·have hfin:G.dominates l a b=false:=by simp [G.dominates,ha]
  rw [hfin];refine jI rfl rfl (by simp [ev,Fr.look,ha]) ?_;refine QT ?_;refine QY ?_;refine QT ?_;refine jC rfl ?_;exact Gives.same hag
end Go.Vw
/-
 Graphs that may be: lists of lists of numbers of nodes.
-/
namespace Go.Vw.G
open Go.Vw
structure Ok (g:List (List Nat)):Prop where
 pos:1≤g.length
 max:g.length≤256
 row : ∀ l∈g,l.length≤128
 elt : ∀ l∈g, ∀ n∈l,n<g.length
def nats (g:List (List Int)):List (List Nat):=g.map (·.map Int.toNat)
theorem nats_length (g:List (List Int)):(nats g).length=g.length:=by simp [nats]
theorem rowOk_iff {n:Nat} {l:List Int}:rowOk n l=true↔l.length≤128 ∧ ∀ x∈l,0≤x∧x<n:=by
 simp only [rowOk,Bool.and_eq_true,decide_eq_true_eq,Bool.not_eq_true',List.any_eq_false,wild,Bool.or_eq_true,not_or,decide_eq_true_eq];constructor
 ·rintro ⟨h1,h2⟩; exact ⟨h1,fun x hx=>by have:=h2 x hx; omega⟩
 ·rintro ⟨h1,h2⟩; exact ⟨h1,fun x hx=>by have:=h2 x hx; omega⟩
theorem right_ok {g:List (List Int)} (h:right g=true):Ok (nats g):=by
 simp only [right,Bool.and_eq_true,decide_eq_true_eq,List.all_eq_true,rowOk_iff] at h;obtain ⟨⟨h1,h2⟩,h3⟩:=h;refine ⟨by rw [nats_length]; exact h1,by rw [nats_length]; exact h2, ?_, ?_⟩
 ·intro l hl;obtain ⟨r,hr,rfl⟩:=List.mem_map.1 hl;rw [List.length_map]; exact (h3 r hr).1
 ·intro l hl n hn;obtain ⟨r,hr,rfl⟩:=List.mem_map.1 hl;obtain ⟨x,hx,rfl⟩:=List.mem_map.1 hn;have:=(h3 r hr).2 x hx;rw [nats_length]; omega
theorem right_enc {g:List (List Int)} (h:right g=true):vl (vl vint) g=vl (vl vnat) (nats g):=by
 simp only [right,Bool.and_eq_true,decide_eq_true_eq,List.all_eq_true,rowOk_iff] at h;obtain ⟨_,h3⟩:=h;unfold vl nats;simp only [V.list.injEq,List.map_map];refine List.map_congr_left fun r hr => ?_
 simp only [Function.comp,List.map_map,V.list.injEq];refine List.map_congr_left fun x hx => ?_
 have:=(h3 r hr).2 x hx;simp only [Function.comp,vint,vnat,V.int.injEq,true_and];omega
abbrev WS:=List Bool × List Nat
def walk (g:List (List Nat)):Nat→Nat→WS→Option WS
 | 0,_,_=>none
 | f+1,n,s=>((g.getD n []).foldlM (fun (s:WS) k=>if s.1.getD k false then some s else walk g f k s) ((s.1.set n true,s.2):WS)).map fun (s:WS)=>((s.1,s.2++[n]):WS)
def kids (g:List (List Nat)) (f:Nat) (l:List Nat) (s:WS):Option WS:=l.foldlM (fun (s:WS) k=>if s.1.getD k false then some s else walk g f k s) s
theorem walk_succ (g:List (List Nat)) (f n:Nat) (s:WS):walk g (f+1) n s=(kids g f (g.getD n []) (s.1.set n true,s.2)).map fun s=>(s.1,s.2++[n]):=rfl
theorem kids_nil (g:List (List Nat)) (f:Nat) (s:WS):kids g f [] s=some s:=rfl
theorem kids_cons (g:List (List Nat)) (f k:Nat) (l:List Nat) (s:WS):kids g f (k::l) s=if s.1.getD k false then kids g f l s else (walk g f k s).bind (kids g f l):=by
 simp only [kids,List.foldlM_cons]
 cases s.1.getD k false
 ·simp; rfl
 ·simp
theorem kids_len {g:List (List Nat)} {f:Nat} (ih : ∀ n s s',walk g f n s=some s'→s.2.length≤s'.2.length∧s'.1.length=s.1.length) : ∀ (l:List Nat) (s s':WS),kids g f l s=some s'→s.2.length≤s'.2.length∧s'.1.length=s.1.length
 | [],s,s',h=>by cases h; exact ⟨Nat.le_refl _,rfl⟩
 | k::l,s,s',h=>by
  rw [kids_cons] at h;split at h
  ·exact kids_len ih l s s' h
  ·obtain ⟨t,h1,h2⟩:=Option.bind_eq_some_iff.1 h;have a:=ih _ _ _ h1;have b:=kids_len ih l t s' h2;omega
theorem walk_len (g:List (List Nat)) : ∀ (f n:Nat) (s s':WS),walk g f n s=some s'→s.2.length≤s'.2.length∧s'.1.length=s.1.length
 | 0,n,s,s',h=>by cases h
 | f+1,n,s,s',h=>by
  rw [walk_succ] at h;obtain ⟨t,h1,rfl⟩:=Option.map_eq_some_iff.1 h;have:=kids_len (walk_len g f) _ _ _ h1;simp at this ⊢;omega
end Go.Vw.G
