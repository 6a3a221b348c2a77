import Derived.Test.YtkfllaokjaldnaaGreatC18
import Derived.Test.YtkfllaokjaldnaaGreatC16
import Derived.Test.YtkfllaokjaldnaaGreatProg
import Derived.Test.YtkfllaokjaldnaaGreatC17
/-
  Part of the proof (texts SRing2, SRSmall, SSmall, SSucc, SSame).
-/
set_option linter.unusedVariables false
set_option linter.unusedSimpArgs false
namespace Go.Vw
open Go.Proofs Go.RowKit
set_option maxRecDepth 10000
set_option maxHeartbeats 4000000
theorem Wj (f:Nat→Nat) (n:Nat) (k:IntKind) (x:Int):V.renL f (List.replicate n (V.int k x))=List.replicate n (V.int k x):=by
 rw [qB]; simp [V.ren]
theorem Wt (p:Nat→Bool) (n:Nat) (k:IntKind) (x:Int):V.idsL p (List.replicate n (V.int k x))=true:=by
 rw [qR]; simp [V.ids]
theorem rings_v (f:Ss.Fn) (g:List (List Nat)) (hgl:g.length=f.blocks.length) (hgb:g.length≤4096) (hrow : ∀ r∈g,r.length<2^62 ∧ ∀ k∈r,k<g.length) (hcode : ∀ b∈f.blocks,b.code.length<2^63) :
  VPure Tryz.prog 105 [qW f,vl (vl vnat) g] (.bool (Ss.rings f.blocks g)):=by
 intro S
 have hg0 : ∀ n, ∀ k∈g.getD n [],k<g.length:=by
  intro n k hk
  by_cases h:n<g.length
  ·rw [List.getD_eq_getElem?_getD,List.getElem?_eq_getElem h] at hk
   exact (hrow _ (List.getElem_mem h)).2 k hk
  ·rw [List.getD_eq_getElem?_getD,List.getElem?_eq_none (by omega)] at hk
   simp at hk
 obtain ⟨q,hq⟩:=Ss.ringM_ends (tick:=f.blocks.map Ss.tickB) (fuel:=g.length+1) hg0 (by omega) (List.range g.length) (List.replicate g.length 0) (by simp) (by simp)
 have hX:Ss.rings f.blocks g=q:=by simp [Ss.rings,hq]
 rw [hX]
 have cw:=rings1_v f g hgl (by omega) hrow hcode
 obtain ⟨⟨fi,fo⟩,ts,bs⟩:=f
 simp only at hq cw
 have hb8:g.length*8≤140737488355328:=by omega
 have hb0:g.length≤140737488355328:=by omega
 refine jb (c:=jf Tryz.f105) Tryz.func105 rfl rfl (by simp [Tryz.ntmps105]) ?_
 rw [Tryz.ntmps105]
 intro hwf
 repeat refine QS ?_
 refine QP ?_
 refine QN ?_
 refine ji 2 rfl ((zP (k:=0) (by simp) (by rfl) (by rfl) (by simp))) (by conv=>lhs; simp [Fr.set]) ?_
 simp only [List.set_cons_succ,List.set_cons_zero]
 refine ji 3 rfl ((boxSt (k:=1) (by simp) (by rfl) (by rfl))) (by conv=>lhs; simp [Fr.set]) ?_
 simp only [List.set_cons_succ,List.set_cons_zero]
 repeat (first|refine QG ?_|refine QY ?_ (r:=by conv=>lhs;simp[-List.map_set,QV,hb8,hb0]))
 refine jK [5,6,13,14] (by conv=>lhs; simp [Fr.only,Fr.look]) ?_
 refine zo [2,3,4] hwf (by decide) (by simp [-List.map_set,Wt,Wj]) (by conv=>lhs; simp [-List.map_set,Wt,Wj]) (by conv=>lhs; simp [-List.map_set,Wt,Wj]) (by conv=>lhs; simp [-List.map_set,Wt,Wj]) ?_
 repeat refine QS ?_
 refine jd [5,6,13,14] rfl (fun c σ S' => ∃ (k:Nat) (st:List Nat),k≤g.length∧c=g.length-k∧st.length=g.length∧Ss.ringM (bs.map Ss.tickB) g (g.length+1) ((List.range g.length).drop k) st=some q∧σ=[(5, .ptr (lid S.nx 1) 0),(6, .ptr (lid S.nx 2) 0),(13,vnat g.length),(14,vnat k)]∧S'=St S [] [some (1,st.map vnat),some (1,[.slice (lid S.nx 0) 0 g.length]),some (1,[.func 130 [.ref (.agg [vl vint fi,vl vint fo,vl vint ts,vl je bs]), .ptr (lid S.nx 1) 0, .ref (vl (vl vnat) g), .ptr (lid S.nx 2) 0]])]) g.length ?_ ?_
 ·exact ⟨0,List.replicate g.length 0,by omega,rfl,by simp,hq,by simp [Fr.only],by simp [vnat]⟩
 ·rintro c σ T ⟨k,st,hk,rfl,hsl,hm,rfl,rfl⟩
  by_cases hkt:k<g.length
  ·have hw:=jn hkt (by omega)
   rw [List.drop_eq_getElem_cons (by simpa using hkt),List.getElem_range,Ss.ringM] at hm
   have hks:k<st.length:=by omega
   obtain ⟨x,hx⟩ : ∃ x,st[k]=x:=⟨_,rfl⟩
   have hgd:st.getD k 0=x:=by simp [hks,hx]
   rw [hgd] at hm
   by_cases x0:x=0
   ·rw [if_pos x0] at hm
    have x0':(x:Int)=0:=by omega
    obtain ⟨⟨b,s⟩,hwk⟩ : ∃ p,Ss.ringW (bs.map Ss.tickB) g (g.length+1) k st=some p:=by
     cases hz:Ss.ringW (bs.map Ss.tickB) g (g.length+1) k st with
     | none=>rw [hz] at hm; cases hm
     | some p=>exact ⟨p,rfl⟩
    rw [hwk] at hm
    have hs2:=Ss.ringW_len _ _ _ _ _ hwk
    repeat (first|refine QG ?_|refine QY ?_ (r:=by conv=>lhs;simp[-List.map_set,QV,hkt,hks,hx,x0,x0']))
    repeat refine QS ?_
    refine QP ?_ (r:=by conv=>lhs;simp[-List.map_set,QV,hkt,hks,hx,x0,x0'])
    refine zz rfl rfl rfl (cw (g.length+1) k st b s _ (lid S.nx 1) (lid S.nx 0) (lid S.nx 2) hkt hsl (by simp) (by simp) (by simp) (by simp [lid]) (by simp [lid]) hwk) ?_
    rintro X S2 ⟨rfl,rfl⟩
    rw [JF (by simp)]
    simp only [List.set_cons_succ,List.set_cons_zero]
    by_cases hb:b=true
    ·rw [hb] at hm
     simp only [Option.some.injEq] at hm
     refine QM (by conv=>lhs;simp[-List.map_set,QV,hb]) ?_
     refine QN ?_
     repeat (first|refine QG ?_|refine QY ?_)
     exact ja hwf (by simp [←hm]) rfl
    ·have hb':b=false:=by simpa using hb
     rw [hb'] at hm
     simp only at hm
     refine QM (by conv=>lhs;simp[-List.map_set,QV,hb']) ?_
     refine QN ?_
     repeat (first|refine QG ?_|refine QY ?_)
     show jv _ _ _ _ _ _ _
     exact again ⟨Nat.sub_lt_sub_left hkt (Nat.lt_succ_self k),k+1,s,hkt,rfl,by omega,hm,by simp [Fr.only,hw],rfl⟩
   ·rw [if_neg x0] at hm
    have x0' : ¬ (x:Int)=0:=by omega
    repeat (first|refine QG ?_|refine QY ?_ (r:=by conv=>lhs;simp[-List.map_set,QV,hkt,hks,hx,x0,x0']))
    show jv _ _ _ _ _ _ _
    exact again ⟨Nat.sub_lt_sub_left hkt (Nat.lt_succ_self k),k+1,st,hkt,rfl,hsl,hm,by simp [Fr.only,hw],rfl⟩
  ·have e1:(List.range g.length).drop k=[]:=by rw [List.drop_eq_nil_iff]; simp; omega
   rw [e1,Ss.ringM] at hm
   cases hm
   repeat (first|refine QG ?_|refine QY ?_ (r:=by conv=>lhs;simp[-List.map_set,QV,hkt]))
   exact ja hwf rfl rfl
end Go.Vw

namespace Go.Vw
open Go.Proofs Go.RowKit
set_option maxRecDepth 10000
set_option maxHeartbeats 8000000
theorem jca (f:Ss.Fn) (hf:f.Fits):VPure Tryz.prog 35 [qW f] (.bool f.small):=by
 intro S
 obtain ⟨⟨fi,fo⟩,ts,bs⟩:=f
 obtain ⟨_,_,hbl0,hbf⟩:=hf
 simp only at hbl0 hbf
 have hbl:bs.length<2^63:=by omega
 refine jb (c:=jf Tryz.f35) Tryz.func35 rfl rfl (by simp [Tryz.ntmps35]) ?_
 rw [Tryz.ntmps35]
 intro hwf
 by_cases h1:(4096:Int)<(ts.length:Int)
 ·repeat (first|refine QG ?_|refine QY ?_ (r:=by conv=>lhs;simp[-List.map_set,QV,h1]))
  exact ja hwf (by simp [Ss.Fn.small,Ss.Fn.heads]; omega) rfl
 by_cases h2:(4096:Int)<(bs.length:Int)
 ·repeat (first|refine QG ?_|refine QY ?_ (r:=by conv=>lhs;simp[-List.map_set,QV,h1,h2]))
  exact ja hwf (by simp [Ss.Fn.small,Ss.Fn.heads]; omega) rfl
 by_cases h3:(4096:Int)<(fi.length:Int)
 ·repeat (first|refine QG ?_|refine QY ?_ (r:=by conv=>lhs;simp[-List.map_set,QV,h1,h2,h3]))
  exact ja hwf (by simp [Ss.Fn.small,Ss.Fn.heads]; omega) rfl
 by_cases h4:(4096:Int)<(fo.length:Int)
 ·repeat (first|refine QG ?_|refine QY ?_ (r:=by conv=>lhs;simp[-List.map_set,QV,h1,h2,h3,h4]))
  exact ja hwf (by simp [Ss.Fn.small,Ss.Fn.heads]; omega) rfl
 have hh:Ss.Fn.small ⟨⟨fi,fo⟩,ts,bs⟩=Ss.smallFrom 0 bs:=by
  have:Ss.Fn.heads ⟨⟨fi,fo⟩,ts,bs⟩=true:=by simp [Ss.Fn.heads]; omega
  simp [Ss.Fn.small,this]
 rw [hh]
 repeat (first|refine QG ?_|refine QY ?_ (r:=by conv=>lhs;simp[-List.map_set,QV,h1,h2,h3,h4]))
 repeat refine QS ?_
 refine jd [1,3,4] rfl (fun c σ S' => ∃ (k n:Nat),k≤bs.length∧n≤4096∧c=bs.length-k∧Ss.smallFrom n (bs.drop k)=Ss.smallFrom 0 bs∧σ=[(1, .ptr (lid S.nx 0) 0),(3,vnat n),(4,vnat k)]∧S'=St S [] [some (4,[vl vint fi,vl vint fo,vl vint ts,vl je bs])]) bs.length ?_ ?_
 ·exact ⟨0,0,by omega,by omega,rfl,rfl,by simp [Fr.only],rfl⟩
 ·rintro c σ T ⟨k,n,hk,hn,rfl,hd,rfl,rfl⟩
  by_cases hkt:k<bs.length
  ·have hw:=jn hkt hbl
   have hbk:=hbf _ (List.getElem_mem hkt)
   have hst:=Ss.drop_small (n:=n) hkt
   obtain ⟨⟨ps,code,⟨tk,ta,to,az⟩⟩,hb⟩ : ∃ b,bs[k]=b:=⟨_,rfl⟩
   rw [hb] at hst hbk
   obtain ⟨_,⟨hcl0,_⟩,_,_,⟨htl0,_⟩,_⟩:=hbk
   simp only at hcl0 htl0
   have hcl:code.length<2^63:=by omega
   have htl:to.length<2^63:=by omega
   have hwn:IntKind.i64.wrap ((n:Int)+(code.length:Int))=(n:Int)+(code.length:Int):=wrap_i64 (by omega) (by omega)
   have hS:Ss.Block.small ⟨ps,code,⟨tk,ta,to,az⟩⟩=(decide (ps.length≤4096)&&decide (to.length≤4096)&&decide (az.length≤4096)&&code.all Ss.Ins.small&&to.all Ss.Edge.small):=rfl
   by_cases g1:(4096:Int)<(n:Int)+(code.length:Int)
   ·have e:Ss.smallFrom n (bs.drop k)=false:=by rw [hst]; simp; omega
    rw [←hd,e]
    repeat (first|refine QG ?_|refine QY ?_ (r:=by conv=>lhs;simp[-List.map_set,QV,hkt,hb,hwn,g1]))
    exact ja hwf rfl rfl
   by_cases g2:(4096:Int)<(ps.length:Int)
   ·have e:Ss.smallFrom n (bs.drop k)=false:=by rw [hst,hS]; simp; omega
    rw [←hd,e]
    repeat (first|refine QG ?_|refine QY ?_ (r:=by conv=>lhs;simp[-List.map_set,QV,hkt,hb,hwn,g1,g2]))
    exact ja hwf rfl rfl
   by_cases g3:(4096:Int)<(to.length:Int)
   ·have e:Ss.smallFrom n (bs.drop k)=false:=by rw [hst,hS]; simp; omega
    rw [←hd,e]
    repeat (first|refine QG ?_|refine QY ?_ (r:=by conv=>lhs;simp[-List.map_set,QV,hkt,hb,hwn,g1,g2,g3]))
    exact ja hwf rfl rfl
   by_cases g4:(4096:Int)<(az.length:Int)
   ·have e:Ss.smallFrom n (bs.drop k)=false:=by rw [hst,hS]; simp; omega
    rw [←hd,e]
    repeat (first|refine QG ?_|refine QY ?_ (r:=by conv=>lhs;simp[-List.map_set,QV,hkt,hb,hwn,g1,g2,g3,g4]))
    exact ja hwf rfl rfl
   rw [show decide (n+code.length≤4096)=true by simp; omega,hS,show decide (ps.length≤4096)=true by simp; omega,show decide (to.length≤4096)=true by simp; omega,show decide (az.length≤4096)=true by simp; omega,Bool.true_and,Bool.true_and,Bool.true_and,Bool.true_and] at hst
   repeat (first|refine QG ?_|refine QY ?_ (r:=by conv=>lhs;simp[-List.map_set,QV,hkt,hb,hwn,g1,g2,g3,g4]))
   repeat refine QS ?_
   refine jd [1,3,4,5,6] rfl (fun c σ S' => ∃ (j:Nat),j≤code.length∧c=code.length-j∧(code.drop j).all Ss.Ins.small=code.all Ss.Ins.small∧σ=[(1, .ptr (lid S.nx 0) 0),(3,vnat (n+code.length)),(4,vnat k),(5, .ptr (lid S.nx 1) 0),(6,vnat j)]∧S'=St S [] [some (4,[vl vint fi,vl vint fo,vl vint ts,vl je bs]),some (6,[vl vint ps,vl jt code,vint tk,vint ta,vl jq to,vl vint az])]) code.length ?_ ?_
   ·exact ⟨0,by omega,rfl,rfl,by simp [Fr.only],rfl⟩
   ·rintro c σ T ⟨j,hj,rfl,hdj,rfl,rfl⟩
    by_cases hjt:j<code.length
    ·have hwj:=jn hjt hcl
     have hstj:=Ss.drop_all Ss.Ins.small hjt
     obtain ⟨⟨io,iN,ia,iu⟩,hx⟩ : ∃ b,code[j]=b:=⟨_,rfl⟩
     rw [hx] at hstj
     have hX:Ss.Ins.small ⟨io,iN,ia,iu⟩=(decide (ia.length≤4096)&&decide (iu.length≤4096)):=rfl
     by_cases q1:(4096:Int)<(ia.length:Int)
     ·have e:code.all Ss.Ins.small=false:=by rw [←hdj,hstj,hX]; simp; omega
      rw [←hd,hst,e]
      repeat (first|refine QG ?_|refine QY ?_ (r:=by conv=>lhs;simp[-List.map_set,QV,hjt,hx,q1]))
      exact ja hwf rfl rfl
     by_cases q2:(4096:Int)<(iu.length:Int)
     ·have e:code.all Ss.Ins.small=false:=by rw [←hdj,hstj,hX]; simp; omega
      rw [←hd,hst,e]
      repeat (first|refine QG ?_|refine QY ?_ (r:=by conv=>lhs;simp[-List.map_set,QV,hjt,hx,q1,q2]))
      exact ja hwf rfl rfl
     rw [hX,show decide (ia.length≤4096)=true by simp; omega,show decide (iu.length≤4096)=true by simp; omega,Bool.true_and,Bool.true_and] at hstj
     repeat (first|refine QG ?_|refine QY ?_ (r:=by conv=>lhs;simp[-List.map_set,QV,hjt,hx,q1,q2]))
     show jv _ _ _ _ _ _ _
     exact again ⟨Nat.sub_lt_sub_left hjt (Nat.lt_succ_self j),j+1,hjt,rfl,by rw [←hdj,hstj],by simp [Fr.only,hwj],rfl⟩
    ·rw [Ss.drop_all_end _ hjt] at hdj
     rw [←hdj,Bool.true_and] at hst
     repeat (first|refine QG ?_|refine QY ?_ (r:=by conv=>lhs;simp[-List.map_set,QV,hjt]))
     repeat refine QS ?_
     refine jd [1,3,4,5,7] rfl (fun c σ S' => ∃ (j:Nat),j≤to.length∧c=to.length-j∧(to.drop j).all Ss.Edge.small=to.all Ss.Edge.small∧σ=[(1, .ptr (lid S.nx 0) 0),(3,vnat (n+code.length)),(4,vnat k),(5, .ptr (lid S.nx 1) 0),(7,vnat j)]∧S'=St S [] [some (4,[vl vint fi,vl vint fo,vl vint ts,vl je bs]),some (6,[vl vint ps,vl jt code,vint tk,vint ta,vl jq to,vl vint az])]) to.length ?_ ?_
     ·exact ⟨0,by omega,rfl,rfl,by simp [Fr.only],rfl⟩
     ·rintro c σ T ⟨j,hj,rfl,hdj,rfl,rfl⟩
      by_cases hjt:j<to.length
      ·have hwj:=jn hjt htl
       have hstj:=Ss.drop_all Ss.Edge.small hjt
       obtain ⟨⟨io,ia⟩,hx⟩ : ∃ b,to[j]=b:=⟨_,rfl⟩
       rw [hx] at hstj
       have hX:Ss.Edge.small ⟨io,ia⟩=decide (ia.length≤4096):=rfl
       by_cases q1:(4096:Int)<(ia.length:Int)
       ·have e:to.all Ss.Edge.small=false:=by rw [←hdj,hstj,hX]; simp; omega
        rw [←hd,hst,e]
        repeat (first|refine QG ?_|refine QY ?_ (r:=by conv=>lhs;simp[-List.map_set,QV,hjt,hx,q1]))
        exact ja hwf rfl rfl
       rw [hX,show decide (ia.length≤4096)=true by simp; omega,Bool.true_and] at hstj
       repeat (first|refine QG ?_|refine QY ?_ (r:=by conv=>lhs;simp[-List.map_set,QV,hjt,hx,q1]))
       show jv _ _ _ _ _ _ _
       exact again ⟨Nat.sub_lt_sub_left hjt (Nat.lt_succ_self j),j+1,hjt,rfl,by rw [←hdj,hstj],by simp [Fr.only,hwj],rfl⟩
      ·rw [Ss.drop_all_end _ hjt] at hdj
       rw [←hdj,Bool.true_and] at hst
       repeat (first|refine QG ?_|refine QY ?_ (r:=by conv=>lhs;simp[-List.map_set,QV,hjt,hw]))
       refine QA [0] (h:=⟨?_,k+1,n+code.length,hkt,by omega,rfl,by rw [←hd,hst],by simp,rfl⟩)
       omega
  ·rw [Ss.drop_small_end hkt] at hd
   rw [←hd]
   repeat (first|refine QG ?_|refine QY ?_ (r:=by conv=>lhs;simp[-List.map_set,QV,hkt]))
   exact ja hwf rfl rfl
end Go.Vw

namespace Go.Vw
open Go.Proofs Go.RowKit
set_option maxRecDepth 10000
set_option maxHeartbeats 8000000
theorem short1_v (l:List Int):VPure Tryz.prog 129 ([vl vint l]++[]) (.bool (decide (4096<l.length))):=by
 intro S
 refine jb (c:=jf Tryz.f129) Tryz.func129 rfl rfl (by simp [Tryz.ntmps129]) ?_
 rw [Tryz.ntmps129]
 intro hwf
 repeat (first|refine QG ?_|refine QY ?_)
 exact ja hwf (by simp; omega) rfl
theorem jbr (ls:List (List Int)) (hl:ls.length<2^63):VPure Tryz.prog 99 [vl (vl vint) ls] (.bool (Ss.shortL ls)):=by
 intro S
 have e:(!ls.any fun l=>decide (4096<l.length))=Ss.shortL ls:=by
  rw [Ss.shortL,List.not_any_eq_all_not]
  congr 1; funext l; by_cases h:l.length≤4096<;>simp [h]<;>omega
 rw [←e]
 refine jb (c:=jf Tryz.f99) Tryz.func99 rfl rfl (by simp [Tryz.ntmps99]) ?_
 rw [Tryz.ntmps99]
 intro hwf
 repeat (first|refine QG ?_|refine QY ?_)
 repeat refine QS ?_
 refine QP ?_
 refine jo rfl (AnyL_v ls (fun l=>decide (4096<l.length)) _ [] rfl hl (fun l _=>short1_v l)) ?_
 refine QM (by conv=>lhs;simp[-List.map_set,QV]) ?_
 refine QN ?_
 repeat (first|refine QG ?_|refine QY ?_)
 exact ja hwf rfl rfl
theorem shortL_1 (a:List Int):Ss.shortL [a]=decide (a.length≤4096):=by simp [Ss.shortL]
theorem YT (a b:List Int):Ss.shortL [a,b]=(decide (a.length≤4096)&&decide (b.length≤4096)):=by simp [Ss.shortL]
theorem shortL_3 (a b c:List Int):Ss.shortL [a,b,c]=(decide (a.length≤4096)&&decide (b.length≤4096)&&decide (c.length≤4096)):=by simp [Ss.shortL,Bool.and_assoc]
theorem jbo (f:Ss.Fn) (hf:f.Fits):VPure Tryz.prog 64 [qW f] (.bool f.small):=by
 intro S
 obtain ⟨⟨fi,fo⟩,ts,bs⟩:=f
 obtain ⟨_,_,hbl0,hbf⟩:=hf
 simp only at hbl0 hbf
 have hbl:bs.length<2^63:=by omega
 refine jb (c:=jf Tryz.f64) Tryz.func64 rfl rfl (by simp [Tryz.ntmps64]) ?_
 rw [Tryz.ntmps64]
 intro hwf
 repeat (first|refine QG ?_|refine QY ?_)
 repeat refine QS ?_
 refine QP ?_
 refine zb (xs':=[vl (vl vint) [ts,fi,fo]]) rfl (GhostArgs.one [] [] (frz1 (k:=1) (len:=3) (by simp) rfl rfl rfl)) (jbr _ (by simp)) ?_
 simp only [List.set_cons_succ,List.set_cons_zero]
 cases h1:Ss.shortL [ts,fi,fo] with
 | false =>
  refine QM (by conv=>lhs;simp[-List.map_set,QV,h1]) ?_
  refine QN ?_
  repeat (first|refine QG ?_|refine QY ?_)
  refine ja hwf ?_ rfl
  rw [shortL_3] at h1
  simp [Ss.Fn.small,Ss.Fn.heads] at h1 ⊢
  omega
 | true =>
 by_cases h2:(4096:Int)<(bs.length:Int)
 ·refine QM (by conv=>lhs;simp[-List.map_set,QV,h1,h2]) ?_
  refine QN ?_
  repeat (first|refine QG ?_|refine QY ?_)
  exact ja hwf (by simp [Ss.Fn.small,Ss.Fn.heads]; omega) rfl
 have hh:Ss.Fn.small ⟨⟨fi,fo⟩,ts,bs⟩=Ss.smallFrom 0 bs:=by
  have:Ss.Fn.heads ⟨⟨fi,fo⟩,ts,bs⟩=true:=by rw [shortL_3] at h1; simp [Ss.Fn.heads] at h1 ⊢; omega
  simp [Ss.Fn.small,this]
 rw [hh]
 refine QM (by conv=>lhs;simp[-List.map_set,QV,h1,h2]) ?_
 refine QN ?_
 repeat (first|refine QG ?_|refine QY ?_)
 refine jK [3,28,29,30] (by conv=>lhs; simp [Fr.only,Fr.look]) ?_
 refine zo [0] hwf (by decide) (by simp [-List.map_set]) (by conv=>lhs; simp [-List.map_set]) (by conv=>lhs; simp [-List.map_set]) (by conv=>lhs; simp [-List.map_set]) ?_
 repeat refine QS ?_
 refine jd [3,28,29,30] rfl (fun c σ S' => ∃ (k n:Nat),k≤bs.length∧n≤4096∧c=bs.length-k∧Ss.smallFrom n (bs.drop k)=Ss.smallFrom 0 bs∧σ=[(3,vint (4096-(n:Int))),(28,vl je bs),(29,vnat bs.length),(30,vnat k)]∧S'=St S [] [some (4,[vl vint fi,vl vint fo,vl vint ts,vl je bs])]) bs.length ?_ ?_
 ·exact ⟨0,0,by omega,by omega,rfl,rfl,by simp [Fr.only],rfl⟩
 ·rintro c σ T ⟨k,n,hk,hn,rfl,hd,rfl,rfl⟩
  by_cases hkt:k<bs.length
  ·have hw:=jn hkt hbl
   have hbk:=hbf _ (List.getElem_mem hkt)
   have hst:=Ss.drop_small (n:=n) hkt
   obtain ⟨⟨ps,code,⟨tk,ta,to,az⟩⟩,hb⟩ : ∃ b,bs[k]=b:=⟨_,rfl⟩
   rw [hb] at hst hbk
   obtain ⟨_,⟨hcl0,_⟩,_,_,⟨htl0,_⟩,_⟩:=hbk
   simp only at hcl0 htl0
   have hcl:code.length<2^63:=by omega
   have htl:to.length<2^63:=by omega
   have hwn:IntKind.i64.wrap (4096-(n:Int)-(code.length:Int))=4096-(n:Int)-(code.length:Int):=wrap_i64 (by omega) (by omega)
   have hS:Ss.Block.small ⟨ps,code,⟨tk,ta,to,az⟩⟩=(decide (ps.length≤4096)&&decide (to.length≤4096)&&decide (az.length≤4096)&&code.all Ss.Ins.small&&to.all Ss.Edge.small):=rfl
   by_cases g1:4096-(n:Int)-(code.length:Int)<0
   ·have e:Ss.smallFrom n (bs.drop k)=false:=by rw [hst]; simp; omega
    rw [←hd,e]
    repeat (first|refine QG ?_|refine QY ?_ (r:=by conv=>lhs;simp[-List.map_set,QV,hkt,hb,hwn,g1]))
    exact ja hwf rfl rfl
   repeat (first|refine QG ?_|refine QY ?_ (r:=by conv=>lhs;simp[-List.map_set,QV,hkt,hb,hwn,g1]))
   repeat refine QS ?_
   refine QP ?_ (r:=by conv=>lhs;simp[-List.map_set,QV,hkt,hb,hwn,g1])
   refine zb (xs':=[vl (vl vint) [ps,az]]) rfl (GhostArgs.one [] [] (frz1 (k:=2) (len:=2) (by simp) rfl rfl rfl)) (jbr _ (by simp)) ?_
   simp only [List.set_cons_succ,List.set_cons_zero]
   cases g2:Ss.shortL [ps,az] with
   | false =>
    have e:Ss.smallFrom n (bs.drop k)=false:=by rw [YT] at g2; rw [hst,hS]; simp at g2 ⊢; omega
    rw [←hd,e]
    refine QM (by conv=>lhs;simp[-List.map_set,QV,g2]) ?_
    refine QN ?_
    repeat (first|refine QG ?_|refine QY ?_)
    exact ja hwf rfl rfl
   | true =>
   by_cases g3:(4096:Int)<(to.length:Int)
   ·have e:Ss.smallFrom n (bs.drop k)=false:=by rw [hst,hS]; simp; omega
    rw [←hd,e]
    refine QM (by conv=>lhs;simp[-List.map_set,QV,g2,g3]) ?_
    refine QN ?_
    repeat (first|refine QG ?_|refine QY ?_)
    exact ja hwf rfl rfl
   rw [YT] at g2
   have g2':ps.length≤4096∧az.length≤4096:=by simpa using g2
   rw [show decide (n+code.length≤4096)=true by simp; omega,hS,show decide (ps.length≤4096)=true by simp; omega,show decide (to.length≤4096)=true by simp; omega,show decide (az.length≤4096)=true by simp; omega,Bool.true_and,Bool.true_and,Bool.true_and,Bool.true_and] at hst
   rw [←YT] at g2
   refine QM (by conv=>lhs;simp[-List.map_set,QV,g2,g3]) ?_
   refine QN ?_
   repeat (first|refine QG ?_|refine QY ?_)
   refine jK [3,5,28,29,30,59,60,61] (by conv=>lhs; simp [Fr.only,Fr.look]) ?_
   refine zo [0,1] hwf (by decide) (by simp [-List.map_set]) (by conv=>lhs; simp [-List.map_set]) (by conv=>lhs; simp [-List.map_set]) (by conv=>lhs; simp [-List.map_set]) ?_
   repeat refine QS ?_
   refine jd [3,5,28,29,30,59,60,61] rfl (fun c σ S' => ∃ (j:Nat),j≤code.length∧c=code.length-j∧(code.drop j).all Ss.Ins.small=code.all Ss.Ins.small∧σ=[(3,vint (4096-(n:Int)-(code.length:Int))),(5, .ptr (lid S.nx 1) 0),(28,vl je bs),(29,vnat bs.length),(30,vnat k),(59,vl jt code),(60,vnat code.length),(61,vnat j)]∧S'=St S [] [some (4,[vl vint fi,vl vint fo,vl vint ts,vl je bs]),some (6,[vl vint ps,vl jt code, .int .i64 tk, .int .i64 ta,vl jq to,vl vint az])]) code.length ?_ ?_
   ·exact ⟨0,by omega,rfl,rfl,by simp [Fr.only],rfl⟩
   ·rintro c σ T ⟨j,hj,rfl,hdj,rfl,rfl⟩
    by_cases hjt:j<code.length
    ·have hwj:=jn hjt hcl
     have hstj:=Ss.drop_all Ss.Ins.small hjt
     obtain ⟨⟨io,iN,ia,iu⟩,hx⟩ : ∃ b,code[j]=b:=⟨_,rfl⟩
     rw [hx] at hstj
     have hX:Ss.Ins.small ⟨io,iN,ia,iu⟩=Ss.shortL [ia,iu]:=(YT _ _).symm
     rw [hX] at hstj
     repeat (first|refine QG ?_|refine QY ?_ (r:=by conv=>lhs;simp[-List.map_set,QV,hjt,hx]))
     repeat refine QS ?_
     refine QP ?_ (r:=by conv=>lhs;simp[-List.map_set,QV,hjt,hx])
     refine zb (xs':=[vl (vl vint) [ia,iu]]) rfl (GhostArgs.one [] [] (frz1 (k:=3) (len:=2) (by simp) rfl rfl rfl)) (jbr _ (by simp)) ?_
     simp only [List.set_cons_succ,List.set_cons_zero]
     cases q1:Ss.shortL [ia,iu] with
     | false =>
      rw [q1,Bool.false_and] at hstj
      have e:code.all Ss.Ins.small=false:=by rw [←hdj,hstj]
      rw [←hd,hst,e]
      refine QM (by conv=>lhs;simp[-List.map_set,QV,q1]) ?_
      refine QN ?_
      repeat (first|refine QG ?_|refine QY ?_)
      exact ja hwf rfl rfl
     | true =>
      rw [q1,Bool.true_and] at hstj
      refine QM (by conv=>lhs;simp[-List.map_set,QV,q1]) ?_
      refine QN ?_
      repeat (first|refine QG ?_|refine QY ?_)
      refine QA [0,1] (h:=⟨?_,j+1,hjt,rfl,by rw [←hdj,hstj],by simp [hwj],rfl⟩)
      omega
    ·rw [Ss.drop_all_end _ hjt] at hdj
     rw [←hdj,Bool.true_and] at hst
     repeat (first|refine QG ?_|refine QY ?_ (r:=by conv=>lhs;simp[-List.map_set,QV,hjt]))
     repeat refine QS ?_
     refine jd [3,28,29,30,75,76,77] rfl (fun c σ S' => ∃ (j:Nat),j≤to.length∧c=to.length-j∧(to.drop j).all Ss.Edge.small=to.all Ss.Edge.small∧σ=[(3,vint (4096-(n:Int)-(code.length:Int))),(28,vl je bs),(29,vnat bs.length),(30,vnat k),(75,vl jq to),(76,vnat to.length),(77,vnat j)]∧S'=St S [] [some (4,[vl vint fi,vl vint fo,vl vint ts,vl je bs]),some (6,[vl vint ps,vl jt code, .int .i64 tk, .int .i64 ta,vl jq to,vl vint az])]) to.length ?_ ?_
     ·exact ⟨0,by omega,rfl,rfl,by simp [Fr.only],rfl⟩
     ·rintro c σ T ⟨j,hj,rfl,hdj,rfl,rfl⟩
      by_cases hjt:j<to.length
      ·have hwj:=jn hjt htl
       have hstj:=Ss.drop_all Ss.Edge.small hjt
       obtain ⟨⟨io,ia⟩,hx⟩ : ∃ b,to[j]=b:=⟨_,rfl⟩
       rw [hx] at hstj
       have hX:Ss.Edge.small ⟨io,ia⟩=Ss.shortL [ia]:=(shortL_1 _).symm
       rw [hX] at hstj
       repeat (first|refine QG ?_|refine QY ?_ (r:=by conv=>lhs;simp[-List.map_set,QV,hjt,hx]))
       repeat refine QS ?_
       refine QP ?_ (r:=by conv=>lhs;simp[-List.map_set,QV,hjt,hx])
       refine zb (xs':=[vl (vl vint) [ia]]) rfl (GhostArgs.one [] [] (frz1 (k:=3) (len:=1) (by simp) rfl rfl rfl)) (jbr _ (by simp)) ?_
       simp only [List.set_cons_succ,List.set_cons_zero]
       cases q1:Ss.shortL [ia] with
       | false =>
        rw [q1,Bool.false_and] at hstj
        have e:to.all Ss.Edge.small=false:=by rw [←hdj,hstj]
        rw [←hd,hst,e]
        refine QM (by conv=>lhs;simp[-List.map_set,QV,q1]) ?_
        refine QN ?_
        repeat (first|refine QG ?_|refine QY ?_)
        exact ja hwf rfl rfl
       | true =>
        rw [q1,Bool.true_and] at hstj
        refine QM (by conv=>lhs;simp[-List.map_set,QV,q1]) ?_
        refine QN ?_
        repeat (first|refine QG ?_|refine QY ?_)
        refine QA [0,1] (h:=⟨?_,j+1,hjt,rfl,by rw [←hdj,hstj],by simp [hwj],rfl⟩)
        omega
      ·rw [Ss.drop_all_end _ hjt] at hdj
       rw [←hdj] at hst
       repeat (first|refine QG ?_|refine QY ?_ (r:=by conv=>lhs;simp[-List.map_set,QV,hjt,hw]))
       refine QA [0] (h:=⟨?_,k+1,n+code.length,hkt,by omega,rfl,by rw [←hd,hst,Bool.true_and],by simp; omega,rfl⟩)
       omega
  ·rw [Ss.drop_small_end hkt] at hd
   rw [←hd]
   repeat (first|refine QG ?_|refine QY ?_ (r:=by conv=>lhs;simp[-List.map_set,QV,hkt]))
   exact ja hwf rfl rfl
end Go.Vw

namespace Ss
def rowOf (b:Block):List Int:=b.term.to.map Edge.to
def succs (bs:List Block):List (List Int):=bs.map rowOf
end Ss
namespace Go.Vw
open Go.Proofs Go.RowKit
set_option maxRecDepth 10000
set_option maxHeartbeats 4000000
theorem count_mem : ∀ {bs:List Ss.Block} {b:Ss.Block},b∈bs→b.code.length≤Ss.count bs
 | x::bs,b,h=>by
  simp only [Ss.count,List.map_cons,List.sum_cons]
  rcases List.mem_cons.1 h with rfl | h
  ·omega
  ·have:=count_mem h
   simp only [Ss.count] at this
   omega
theorem jZ {f:Ss.Fn} (h:f.small=true):f.types.length≤4096∧f.blocks.length≤4096∧(∀ b∈f.blocks,b.params.length≤4096∧b.term.to.length≤4096∧b.term.args.length≤4096∧b.code.length≤4096)∧Ss.count f.blocks≤4096:=by
 obtain ⟨h1,h2,h3⟩:=(Ss.small_iff f).1 h
 simp only [Ss.Fn.heads,Bool.and_eq_true,decide_eq_true_eq] at h1
 refine ⟨h1.1.1.1,h1.1.1.2,fun b hb => ?_,h3⟩
 have:=h2 b hb
 simp only [Ss.Block.small,Bool.and_eq_true,decide_eq_true_eq] at this
 refine ⟨this.1.1.1.1,this.1.1.1.2,this.1.1.2, ?_⟩
 exact Nat.le_trans (count_mem hb) h3
theorem Succ_v (f:Ss.Fn) (hf:f.Fits):VPure Tryz.prog 26 [qW f] (vl (vl vint) (if f.small then Ss.succs f.blocks else [])):=by
 intro S
 have cs:=jbo f hf
 have hsb := @jZ f
 generalize f.small=sm at *
 obtain ⟨⟨fi,fo⟩,ts,bs⟩:=f
 have cs':VPure Tryz.prog 64 [.agg [vl vint fi,vl vint fo,vl vint ts,vl je bs]] (.bool sm):=cs
 by_cases hs:sm=true
 case neg =>
  rw [if_neg hs]
  have hs':sm=false:=by simpa using hs
  refine jb (c:=jf Tryz.f26) Tryz.func26 rfl rfl (by simp [Tryz.ntmps26]) ?_
  rw [Tryz.ntmps26]
  intro hwf
  repeat (first|refine QG ?_|refine QY ?_)
  repeat refine QS ?_
  refine QP ?_
  refine jc (cs') (by rfl) ?_
  refine QM (by conv=>lhs;simp[-List.map_set,QV,hs']) ?_
  refine QN ?_
  repeat (first|refine QG ?_|refine QY ?_)
  exact jh (l:=[_]) hwf (Ghost.toB (Ghost.nils_list _) _) rfl
 rw [if_pos hs]
 obtain ⟨_,hbl,hbf,_⟩:=hsb hs
 simp only at hbl hbf ⊢
 refine jb (c:=jf Tryz.f26) Tryz.func26 rfl rfl (by simp [Tryz.ntmps26]) ?_
 rw [Tryz.ntmps26]
 intro hwf
 repeat (first|refine QG ?_|refine QY ?_)
 repeat refine QS ?_
 refine QP ?_
 refine jc (cs') (by rfl) ?_
 refine QM (by conv=>lhs;simp[-List.map_set,QV,hs]) ?_
 refine QN ?_
 repeat refine QS ?_
 refine jD rfl rfl rfl ?_
 repeat refine QS ?_
 refine jz rfl ?_
 repeat refine QS ?_
 refine QP ?_
 refine QN ?_
 refine qP 3 1 rfl (by conv=>lhs; simp [Fr.set]) ?_
 repeat (first|refine QG ?_|refine QY ?_)
 refine jK [3,13,14,15] (by conv=>lhs; simp [Fr.only,Fr.look]) ?_
 refine zo [1] hwf (by decide) (by simp [-List.map_set]) (by conv=>lhs; simp [-List.map_set]) (by conv=>lhs; simp [-List.map_set]) (by conv=>lhs; simp [-List.map_set]) ?_
 repeat refine QS ?_
 refine jd [3,13,14,15] rfl (fun c σ S' => ∃ (k:Nat) (out:List (List Int)),k≤bs.length∧c=bs.length-k∧out.length=k∧out=(bs.take k).map Ss.rowOf∧σ=[(3, .slice (lid S.nx 0) 0 k),(13,vl je bs),(14,vnat bs.length),(15,vnat k)]∧S'=St S [] [some (1,out.map (vl vint))]) bs.length ?_ ?_
 ·exact ⟨0,[],by omega,rfl,rfl,by simp,by simp [Fr.only],by simp⟩
 ·rintro c σ T ⟨k,out,hk,rfl,hol,ho,rfl,rfl⟩
  by_cases hkt:k<bs.length
  ·have hw:=jn hkt (by omega)
   obtain ⟨_,htl,_,_⟩:=hbf _ (List.getElem_mem hkt)
   obtain ⟨⟨ps,code,⟨tk,ta,to,az⟩⟩,hx⟩ : ∃ b,bs[k]=b:=⟨_,rfl⟩
   rw [hx] at htl
   simp only at htl
   have htk:bs.take (k+1)=bs.take k++[⟨ps,code,⟨tk,ta,to,az⟩⟩]:=by rw [List.take_add_one,List.getElem?_eq_getElem hkt,hx]; rfl
   repeat refine QS ?_
   refine QP ?_ (r:=by conv=>lhs;simp[-List.map_set,QV,hkt])
   refine QN ?_
   repeat refine QS ?_
   refine jC rfl rfl rfl ?_
   repeat refine QS ?_
   refine jz rfl ?_
   repeat refine QS ?_
   refine jH 1 rfl rfl ?_
   repeat refine QS ?_
   refine QP ?_ (r:=by conv=>lhs;simp[-List.map_set,QV,hkt,hx])
   refine QN ?_
   repeat refine QS ?_
   refine QP ?_
   refine QN ?_
   refine qP 6 1 rfl (by conv=>lhs; simp [Fr.set]) ?_
   repeat (first|refine QG ?_|refine QY ?_)
   refine jK [3,6,13,14,15,21,22,23] (by conv=>lhs; simp [Fr.only,Fr.look]) ?_
   refine zo [0,2] hwf (by decide) (by simp [-List.map_set]) (by conv=>lhs; simp [-List.map_set]) (by conv=>lhs; simp [-List.map_set]) (by conv=>lhs; simp [-List.map_set]) ?_
   repeat refine QS ?_
   refine jd [3,6,13,14,15,21,22,23] rfl (fun c σ S' => ∃ (j:Nat) (r:List Int),j≤to.length∧c=to.length-j∧r.length=j∧r=(to.take j).map Ss.Edge.to∧σ=[(3, .slice (lid S.nx 0) 0 k),(6, .slice (lid S.nx 1) 0 j),(13,vl je bs),(14,vnat bs.length),(15,vnat k),(21,vl jq to),(22,vnat to.length),(23,vnat j)]∧S'=St S [] [some (1,out.map (vl vint)),some (1,r.map vint)]) to.length ?_ ?_
   ·exact ⟨0,[],by omega,rfl,rfl,by simp,by simp [Fr.only],by simp⟩
   ·rintro c σ T ⟨j,r,hj,rfl,hrl,hr,rfl,rfl⟩
    by_cases hjt:j<to.length
    ·have hwj:=jn hjt (by omega)
     have hb:(j+1)*8≤140737488355328:=by omega
     have hb':j+1≤140737488355328:=by omega
     obtain ⟨⟨xt,xa⟩,hx2⟩ : ∃ b,to[j]=b:=⟨_,rfl⟩
     have htj:to.take (j+1)=to.take j++[⟨xt,xa⟩]:=by rw [List.take_add_one,List.getElem?_eq_getElem hjt,hx2]; rfl
     repeat (first|refine QG ?_|refine QY ?_ (r:=by conv=>lhs;simp[-List.map_set,QV,hjt,hx2,hb,hb',hrl]))
     refine QA [0,4] (h:=⟨?_,j+1,r++[xt],hjt,rfl,by simp [hrl],by rw [htj,List.map_append,hr]; rfl,by simp [hwj],by simp⟩)
     omega
    ·have hje:j=to.length:=by omega
     subst hje
     rw [List.take_length] at hr
     have hb:(k+1)*24≤140737488355328:=by omega
     have hb':k+1≤140737488355328:=by omega
     repeat refine QS ?_
     refine QP ?_ (r:=by conv=>lhs;simp[-List.map_set,QV,hjt])
     refine QN ?_
     repeat refine QS ?_
     refine jD rfl rfl rfl ?_
     repeat refine QS ?_
     refine jL 2 rfl rfl ?_
     refine ji 6 rfl ((frz1 (k:=1) (len:=to.length) (by simp) (by rfl) (jF vint (fun _=>rfl) _) (by simpa using hrl))) (by conv=>lhs; simp [Fr.set]) ?_
     simp only [List.set_cons_succ,List.set_cons_zero]
     repeat (first|refine QG ?_|refine QY ?_ (r:=by conv=>lhs;simp[-List.map_set,QV,hb,hb',hol]))
     refine QA [3] (h:=⟨?_,k+1,out++[r],hkt,rfl,by simp [hol],by rw [htk,List.map_append, ←ho,hr]; rfl,by simp [hw],by simp [vl]⟩)
     omega
  ·have hke:k=bs.length:=by omega
   subst hke
   rw [List.take_length] at ho
   repeat (first|refine QG ?_|refine QY ?_ (r:=by conv=>lhs;simp[-List.map_set,QV,hkt]))
   rw [Ss.succs, ←ho]
   exact jh hwf ((frz1 (by simp) (by rfl) (jF (vl vint) (fun _=>rfl) _) (by simpa using hol)).toB _) rfl
end Go.Vw

namespace Go.Vw
open Go.Proofs Go.RowKit
set_option maxRecDepth 10000
set_option maxHeartbeats 4000000
theorem eqF_dec {α:Type} [DecidableEq α] (l m:List α):eqF (fun x y=>decide (x=y)) l m=decide (l=m):=eqF_eq (fun _ _=>rfl) l m
theorem Equal_v (l m:List Int) (hl:l.length<2^63):VPure Tryz.prog 106 [vl vint l,vl vint m] (.bool (decide (l=m))):=by
 intro S
 rw [←eqF_dec]
 generalize hp:(fun x y:Int=>decide (x=y))=p
 by_cases hlm:l.length=m.length
 ·have hlm':(l.length:Int)=(m.length:Int):=by omega
  refine jb (c:=jf Tryz.f106) Tryz.func106 rfl rfl (by simp [Tryz.ntmps106]) ?_
  rw [Tryz.ntmps106]
  intro hwf
  repeat (first|refine QG ?_|refine QY ?_ (r:=by conv=>lhs;simp[-List.map_set,QV,hlm,hlm']))
  repeat refine QS ?_
  refine jd [0,1,12,13] rfl (fun c σ S' => ∃ (k:Nat),k≤l.length∧c=l.length-k∧eqF p (l.drop k) (m.drop k)=eqF p l m∧σ=[(0,vl vint l),(1,vl vint m),(12,vnat m.length),(13,vnat k)]∧S'=St S [] []) l.length ?_ ?_
  ·exact ⟨0,by omega,rfl,rfl,by simp [Fr.only,hlm],rfl⟩
  ·rintro c σ T ⟨k,hk,rfl,hd,rfl,rfl⟩
   by_cases hkt:k<l.length
   ·have hkm:k<m.length:=by omega
    have hw:=jn hkt hl
    have hst:eqF p (l.drop k) (m.drop k)=(p l[k] m[k]&&eqF p (l.drop (k+1)) (m.drop (k+1))):=by rw [List.drop_eq_getElem_cons hkt,List.drop_eq_getElem_cons hkm,eqF]
    obtain ⟨x,hx⟩ : ∃ x,l[k]=x:=⟨_,rfl⟩
    obtain ⟨y,hy⟩ : ∃ y,m[k]=y:=⟨_,rfl⟩
    rw [hx,hy] at hst
    by_cases hxy:x=y
    ·rw [show p x y=true by rw [←hp]; simp [hxy]] at hst
     repeat (first|refine QG ?_|refine QY ?_ (r:=by conv=>lhs;simp[-List.map_set,QV,hkt,hkm,hx,hy,hxy]))
     show jv _ _ _ _ _ _ _
     exact again ⟨Nat.sub_lt_sub_left hkt (Nat.lt_succ_self k),k+1,hkt,rfl,by rw [←hd,hst]; rfl,by simp [Fr.only,hw],rfl⟩
    ·rw [show p x y=false by rw [←hp]; simp [hxy]] at hst
     repeat (first|refine QG ?_|refine QY ?_ (r:=by conv=>lhs;simp[-List.map_set,QV,hkt,hkm,hx,hy,hxy]))
     exact ja hwf (by rw [←hd,hst]; rfl) rfl
   ·have e:l.drop k=[]:=by rw [List.drop_eq_nil_iff]; omega
    have e':m.drop k=[]:=by rw [List.drop_eq_nil_iff]; omega
    rw [e,e'] at hd
    have hkm : ¬ k<m.length:=by omega
    repeat (first|refine QG ?_|refine QY ?_ (r:=by conv=>lhs;simp[-List.map_set,QV,hkt,hkm]))
    exact ja hwf (by rw [←hd]; rfl) rfl
 ·have hlm' : ¬ (l.length:Int)=(m.length:Int):=by omega
  have e:eqF p l m=false:=eqF_len hlm
  rw [e]
  refine jb (c:=jf Tryz.f106) Tryz.func106 rfl rfl (by simp [Tryz.ntmps106]) ?_
  rw [Tryz.ntmps106]
  intro hwf
  repeat (first|refine QG ?_|refine QY ?_ (r:=by conv=>lhs;simp[-List.map_set,QV,hlm,hlm']))
  exact ja hwf rfl rfl
end Go.Vw
