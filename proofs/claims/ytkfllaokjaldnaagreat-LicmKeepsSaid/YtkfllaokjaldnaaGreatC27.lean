import Derived.Test.YtkfllaokjaldnaaGreatC19
import Derived.Test.YtkfllaokjaldnaaGreatC18
import Derived.Test.YtkfllaokjaldnaaGreatC16
import Derived.Test.YtkfllaokjaldnaaGreatC25
import Derived.Test.YtkfllaokjaldnaaGreatC26
/-
  Part of the proof (texts SRSame, SRSame2, SLItself, BPure, BThin, BChkP, DChk, LMove).
-/
set_option linter.unusedVariables false
set_option linter.unusedSimpArgs false
namespace Go.Vw
open Go.Proofs Go.RowKit
set_option maxRecDepth 10000
set_option maxHeartbeats 8000000
theorem JC (l m:List Int) (hl:l.length<2^63):VPure Tryz.prog 37 [vl vint l,vl vint m] (.bool (decide (l=m))):=by
 intro S;rw [←jam];generalize hp:(fun x y:Int=>decide (x=y))=p
 by_cases hlm:l.length=m.length
 ·have hlm':(l.length:Int)=(m.length:Int):=by omega
  refine jb (c:=jg Tryz.f37) Tryz.func37 rfl rfl (by simp [Tryz.ntmps37]) ?_;rw [Tryz.ntmps37];intro hwf
  repeat first|refine QG ?_|refine QY ?_ (r:=by conv=>lhs;simp[-List.map_set,QV,hlm,hlm'])
  repeat refine QS ?_
  refine je [0,1,5] rfl (fun c σ S' => ∃ (k:Nat),k≤l.length∧c=l.length-k∧eqF p (l.drop k) (m.drop k)=eqF p l m∧σ=[(0,vl vint l),(1,vl vint m),(5,vnat k)]∧S'=St S [] []) l.length ?_ ?_
  ·exact ⟨0,by omega,rfl,rfl,by simp [Fr.only],rfl⟩
  ·rintro c σ T ⟨k,hk,rfl,hd,rfl,rfl⟩
   by_cases hkt:k<l.length
   ·have hkm:k<m.length:=by omega
    have hw:=jn hkt hl;have hst:eqF p (l.drop k) (m.drop k)=(p l[k] m[k]&&eqF p (l.drop (k+1)) (m.drop (k+1))):=by rw [List.drop_eq_getElem_cons hkt,List.drop_eq_getElem_cons hkm,eqF]
    obtain ⟨x,hx⟩ : ∃ x,l[k]=x:=⟨_,rfl⟩
    obtain ⟨y,hy⟩ : ∃ y,m[k]=y:=⟨_,rfl⟩
    rw [hx,hy] at hst
    by_cases hxy:x=y
    ·rw [show p x y=true by rw [←hp]; simp [hxy]] at hst
     repeat first|refine QG ?_|refine QY ?_ (r:=by conv=>lhs;simp[-List.map_set,QV,hkt,hkm,hx,hy,hxy])
     show jz _ _ _ _ _ _ _;exact again ⟨Nat.sub_lt_sub_left hkt (Nat.lt_succ_self k),k+1,hkt,rfl,by rw [←hd,hst]; rfl,by simp [Fr.only,hw],rfl⟩
    ·rw [show p x y=false by rw [←hp]; simp [hxy]] at hst
     repeat first|refine QG ?_|refine QY ?_ (r:=by conv=>lhs;simp[-List.map_set,QV,hkt,hkm,hx,hy,hxy])
     exact ja hwf (by rw [←hd,hst]; rfl) rfl
   ·have e:l.drop k=[]:=by rw [List.drop_eq_nil_iff]; omega
    have e':m.drop k=[]:=by rw [List.drop_eq_nil_iff]; omega
    rw [e,e'] at hd;have hkm : ¬ k<m.length:=by omega
    repeat first|refine QG ?_|refine QY ?_ (r:=by conv=>lhs;simp[-List.map_set,QV,hkt,hkm])
    exact ja hwf (by rw [←hd]; rfl) rfl
 ·have hlm' : ¬ (l.length:Int)=(m.length:Int):=by omega
  have e:eqF p l m=false:=eqF_len hlm;rw [e];refine jb (c:=jg Tryz.f37) Tryz.func37 rfl rfl (by simp [Tryz.ntmps37]) ?_;rw [Tryz.ntmps37];intro hwf
  repeat first|refine QG ?_|refine QY ?_ (r:=by conv=>lhs;simp[-List.map_set,QV,hlm,hlm'])
  exact ja hwf rfl rfl
theorem SameSig_v (a b:Ss.Sig) (h1:a.inn.length<2^63) (h2:a.out.length<2^63):VPure Tryz.prog 36 [jS a,jS b] (.bool (decide (a=b))):=by
 intro S;obtain ⟨a1,a2⟩:=a;obtain ⟨b1,b2⟩:=b;simp only [Ss.Sig.mk.injEq] at *
 refine jb (c:=jg Tryz.f36) Tryz.func36 rfl rfl (by simp [Tryz.ntmps36]) ?_;rw [Tryz.ntmps36];intro hwf
 repeat first|refine QG ?_|refine QY ?_
 repeat refine QS ?_
 refine QP ?_;refine jp rfl (JC a1 b1 h1) ?_
 by_cases h:a1=b1
 ·refine QM (by conv=>lhs;simp[-List.map_set,QV,h]) ?_;refine jp rfl (JC a2 b2 h2) ?_;refine QW ?_
  repeat first|refine QG ?_|refine QY ?_
  exact ja hwf (by simp [h]) rfl
 ·refine QM (by conv=>lhs;simp[-List.map_set,QV,h]) ?_;refine QN ?_
  repeat first|refine QG ?_|refine QY ?_
  exact ja hwf (by simp [h]) rfl
theorem SameIns_v (x y:Ss.Ins) (h:x.args.length<2^63) (h':x.outs.length<2^63):VPure Tryz.prog 39 [jq x,jq y] (.bool (decide (x=y))):=by
 intro S;obtain ⟨a1,a2,a3,a4⟩:=x;obtain ⟨b1,b2,b3,b4⟩:=y;simp only [Ss.Ins.mk.injEq] at *
 refine jb (c:=jg Tryz.f39) Tryz.func39 rfl rfl (by simp [Tryz.ntmps39]) ?_;rw [Tryz.ntmps39];intro hwf
 by_cases h1:a1=b1
 ·by_cases h2:a2=b2
  ·by_cases h3:a3=b3
   ·repeat first|refine QG ?_|refine QY ?_ (r:=by conv=>lhs;simp[-List.map_set,QV,h1,h2])
    repeat refine QS ?_
    refine QP ?_ (r:=by conv=>lhs;simp[-List.map_set,QV,h1,h2]);refine jp rfl (JC a3 b3 h) ?_;refine QM (by conv=>lhs;simp[-List.map_set,QV,h3]) ?_;refine jp rfl (JC a4 b4 h') ?_;refine QW ?_
    repeat first|refine QG ?_|refine QY ?_
    exact ja hwf (by simp [h1,h2,h3]) rfl
   ·repeat first|refine QG ?_|refine QY ?_ (r:=by conv=>lhs;simp[-List.map_set,QV,h1,h2])
    repeat refine QS ?_
    refine QP ?_ (r:=by conv=>lhs;simp[-List.map_set,QV,h1,h2]);refine jp rfl (JC a3 b3 h) ?_;refine QM (by conv=>lhs;simp[-List.map_set,QV,h3]) ?_;refine QN ?_
    repeat first|refine QG ?_|refine QY ?_
    exact ja hwf (by simp [h3]) rfl
  ·repeat first|refine QG ?_|refine QY ?_ (r:=by conv=>lhs;simp[-List.map_set,QV,h1,h2])
   exact ja hwf (by simp [h2]) rfl
 ·repeat first|refine QG ?_|refine QY ?_ (r:=by conv=>lhs;simp[-List.map_set,QV,h1])
  exact ja hwf (by simp [h1]) rfl
theorem eqF_one {α:Type} {p:α→α→Bool} {l m:List α} {k:Nat} (h:k<l.length) (h':k<m.length):eqF p (l.drop k) (m.drop k)=(p l[k] m[k]&&eqF p (l.drop (k+1)) (m.drop (k+1))):=by
 rw [List.drop_eq_getElem_cons h,List.drop_eq_getElem_cons h',eqF]
theorem eqF_end {α:Type} {p:α→α→Bool} {l m:List α} {k:Nat} (h : ¬ k<l.length) (hl:l.length=m.length):eqF p (l.drop k) (m.drop k)=true:=by
 rw [show l.drop k=[] by rw [List.drop_eq_nil_iff]; omega,show m.drop k=[] by rw [List.drop_eq_nil_iff]; omega]; rfl
theorem sameTerm_v (x y:Ss.Term) (hx:x.Fits):VPure Tryz.prog 38 [jcc x,jcc y] (.bool (decide (x=y))):=by
 intro S;obtain ⟨a3,a4,a5,a6⟩:=x;obtain ⟨b3,b4,b5,b6⟩:=y;obtain ⟨_,_,⟨f4,f5⟩,⟨f6,_⟩⟩:=hx;simp only at f4 f5 f6;simp only [Ss.Term.mk.injEq] at *
 have g5:a5.length<2^63:=by omega
 have g6:a6.length<2^63:=by omega
 refine jb (c:=jg Tryz.f38) Tryz.func38 rfl rfl (by simp [Tryz.ntmps38]) ?_;rw [Tryz.ntmps38];intro hwf
 by_cases h3:a3=b3
 ·by_cases h4:a4=b4
  ·repeat first|refine QG ?_|refine QY ?_ (r:=by conv=>lhs;simp[-List.map_set,QV,h3,h4])
   repeat refine QS ?_
   refine QP ?_ (r:=by conv=>lhs;simp[-List.map_set,QV,h3,h4]);refine jp rfl (JC a6 b6 g6) ?_
   by_cases h6:a6=b6
   ·by_cases hlm:a5.length=b5.length
    ·have hlm':(a5.length:Int)=(b5.length:Int):=by omega
     refine QM (by conv=>lhs;simp[-List.map_set,QV,h6,hlm,hlm']) ?_;refine QN ?_
     repeat first|refine QG ?_|refine QY ?_
     rw [show decide (a3=b3∧a4=b4∧a5=b5∧a6=b6)=eqF (fun x y=>decide (x=y)) a5 b5 by rw [jam]; simp [h3,h4,h6]];generalize hp:(fun x y:Ss.Edge=>decide (x=y))=p
     repeat refine QS ?_
     refine je [2,3,5] rfl (fun c σ S' => ∃ (k:Nat),k≤a5.length∧c=a5.length-k∧eqF p (a5.drop k) (b5.drop k)=eqF p a5 b5∧σ=[(2, .ptr (lid S.nx 0) 0),(3, .ptr (lid S.nx 1) 0),(5,vnat k)]∧S'=St S [] [some (4,[vint b3,vint b4,vl jk a5,vl vint b6]),some (4,[vint b3,vint b4,vl jk b5,vl vint b6])]) a5.length ?_ ?_
     ·exact ⟨0,by omega,rfl,rfl,by simp [Fr.only],rfl⟩
     ·rintro c σ T ⟨k,hk,rfl,hd,rfl,rfl⟩
      by_cases hkt:k<a5.length
      ·have hkm:k<b5.length:=by omega
       have hw:=jn hkt g5;have hst:=eqF_one (p:=p) hkt hkm;have hfe:=f5 _ (List.getElem_mem hkt);obtain ⟨⟨x1,x2⟩,hx⟩ : ∃ x,a5[k]=x:=⟨_,rfl⟩
       obtain ⟨⟨y1,y2⟩,hy⟩ : ∃ y,b5[k]=y:=⟨_,rfl⟩
       rw [hx] at hfe;obtain ⟨_,⟨q1,_⟩⟩:=hfe;simp only at q1;rw [hx,hy] at hst;have hpp:p ⟨x1,x2⟩ ⟨y1,y2⟩=decide (x1=y1∧x2=y2):=by rw [←hp]; simp
       by_cases e1:x1=y1
       ·repeat first|refine QG ?_|refine QY ?_ (r:=by conv=>lhs;simp[-List.map_set,QV,hkt,hkm,hx,hy,e1])
        repeat refine QS ?_
        refine QD (r:=by conv=>lhs;simp[-List.map_set,QV,hkt,hkm,hx,hy,e1]) (k:=?_);refine jp rfl (JC x2 y2 (by omega)) ?_
        by_cases e2:x2=y2
        ·rw [hpp,show decide (x1=y1∧x2=y2)=true by simp [e1,e2]] at hst;refine QM (by conv=>lhs;simp[-List.map_set,QV,e2]) ?_;refine QN ?_
         repeat first|refine QG ?_|refine QY ?_
         show jz _ _ _ _ _ _ _;exact again ⟨Nat.sub_lt_sub_left hkt (Nat.lt_succ_self k),k+1,hkt,rfl,by rw [←hd,hst]; rfl,by simp [Fr.only,hw],rfl⟩
        ·rw [hpp,show decide (x1=y1∧x2=y2)=false by simp [e2]] at hst;refine QM (by conv=>lhs;simp[-List.map_set,QV,e2]) ?_;refine QN ?_
         repeat first|refine QG ?_|refine QY ?_
         exact ja hwf (by rw [←hd,hst]; rfl) rfl
       ·rw [hpp,show decide (x1=y1∧x2=y2)=false by simp [e1]] at hst
        repeat first|refine QG ?_|refine QY ?_ (r:=by conv=>lhs;simp[-List.map_set,QV,hkt,hkm,hx,hy,e1])
        exact ja hwf (by rw [←hd,hst]; rfl) rfl
      ·rw [eqF_end hkt hlm] at hd;have hkm : ¬ k<b5.length:=by omega
       repeat first|refine QG ?_|refine QY ?_ (r:=by conv=>lhs;simp[-List.map_set,QV,hkt,hkm])
       exact ja hwf (by rw [←hd]; rfl) rfl
    ·have hne : ¬ a5=b5:=by rintro rfl; exact hlm rfl
     have hlm' : ¬ (a5.length:Int)=(b5.length:Int):=by omega
     refine QM (by conv=>lhs;simp[-List.map_set,QV,h6,hlm,hlm']) ?_;refine QN ?_
     repeat first|refine QG ?_|refine QY ?_
     exact ja hwf (by simp [hne]) rfl
   ·refine QM (by conv=>lhs;simp[-List.map_set,QV,h6]) ?_;refine QN ?_
    repeat first|refine QG ?_|refine QY ?_
    exact ja hwf (by simp [h6]) rfl
  ·repeat first|refine QG ?_|refine QY ?_ (r:=by conv=>lhs;simp[-List.map_set,QV,h3,h4])
   exact ja hwf (by simp [h4]) rfl
 ·repeat first|refine QG ?_|refine QY ?_ (r:=by conv=>lhs;simp[-List.map_set,QV,h3])
  exact ja hwf (by simp [h3]) rfl
end Go.Vw

namespace Go.Vw
open Go.Proofs Go.RowKit
set_option maxRecDepth 10000
set_option maxHeartbeats 4000000
theorem RSame_v (f g:Ss.Fn) (hf:f.Fits) (hg:g.Fits):VPure Tryz.prog 11 [qL f,qL g] (.bool (f.small&&g.small&&decide (f=g))):=by
 intro S;have cf:=WX f hf;have cg:=WX g hg;obtain ⟨⟨⟨f1,_⟩,⟨f2,_⟩⟩,⟨f3,_⟩,⟨f4,f5⟩⟩:=hf;generalize f.small=sf at *
 generalize g.small=sg at *
 obtain ⟨⟨a1,a2⟩,a3,a4⟩:=f;obtain ⟨⟨b1,b2⟩,b3,b4⟩:=g;simp only at f1 f2 f3 f4 f5;simp only [Ss.Fn.mk.injEq];have cf':VPure Tryz.prog 35 [.agg [vl vint a1,vl vint a2,vl vint a3,vl jd a4]] (.bool sf):=cf;have cg':VPure Tryz.prog 35 [.agg [vl vint b1,vl vint b2,vl vint b3,vl jd b4]] (.bool sg):=cg;have cs:VPure Tryz.prog 36 [.agg [vl vint a1,vl vint a2], .agg [vl vint b1,vl vint b2]] (.bool (decide ((⟨a1,a2⟩:Ss.Sig)=⟨b1,b2⟩))):=SameSig_v ⟨a1,a2⟩ ⟨b1,b2⟩ (Nat.lt_of_le_of_lt f1 (by decide)) (Nat.lt_of_le_of_lt f2 (by decide));have g3:a3.length<2^63:=by omega
 have g4:a4.length<2^63:=by omega
 generalize hX:(sf&&sg&&decide ((⟨a1,a2⟩:Ss.Sig)=⟨b1,b2⟩∧a3=b3∧a4=b4))=X;generalize hse:decide ((⟨a1,a2⟩:Ss.Sig)=⟨b1,b2⟩)=se at cs;refine jb (c:=jg Tryz.f11) Tryz.func11 rfl rfl (by simp [Tryz.ntmps11]) ?_;rw [Tryz.ntmps11];intro hwf
 repeat first|refine QG ?_|refine QY ?_
 repeat refine QS ?_
 refine QP ?_;refine jc (cf') (by rfl) ?_
 by_cases hsf:sf=true
 case neg =>
  have hsf':sf=false:=by simpa using hsf
  refine QM (by conv=>lhs;simp[-List.map_set,QV,hsf']) ?_;refine QN ?_
  repeat first|refine QG ?_|refine QY ?_
  exact ja hwf (by simp [←hX,hsf']) rfl
 refine QM (by conv=>lhs;simp[-List.map_set,QV,hsf]) ?_;refine jc (cg') (by rfl) ?_
 by_cases hsg:sg=true
 case neg =>
  have hsg':sg=false:=by simpa using hsg
  refine QM (by conv=>lhs;simp[-List.map_set,QV,hsg']) ?_;refine QN ?_
  repeat first|refine QG ?_|refine QY ?_
  exact ja hwf (by simp [←hX,hsf,hsg']) rfl
 refine QM (by conv=>lhs;simp[-List.map_set,QV,hsg]) ?_;refine jc (cs) (by rfl) ?_
 by_cases hs:se=true
 case neg =>
  have hs':se=false:=by simpa using hs
  have hne : ¬ ((⟨a1,a2⟩:Ss.Sig)=⟨b1,b2⟩):=by rw [hs'] at hse; simpa using hse
  have hX':X=false:=by rw [←hX]; simp only [decide_eq_false (fun h:_∧_∧_=>hne h.1)]; simp
  refine QM (by conv=>lhs;simp[-List.map_set,QV,hs']) ?_;refine QN ?_
  repeat first|refine QG ?_|refine QY ?_
  exact ja hwf (by simp [hX']) rfl
 have hse':(⟨a1,a2⟩:Ss.Sig)=⟨b1,b2⟩:=by rw [hs] at hse; simpa using hse
 refine QM (by conv=>lhs;simp[-List.map_set,QV,hs]) ?_;refine jc (JC a3 b3 g3) (by rfl) ?_
 by_cases h3:a3=b3
 case neg =>
  have hX':X=false:=by rw [←hX]; simp only [decide_eq_false (fun h:_∧_∧_=>h3 h.2.1)]; simp
  refine QM (by conv=>lhs;simp[-List.map_set,QV,h3]) ?_;refine QN ?_
  repeat first|refine QG ?_|refine QY ?_
  exact ja hwf (by simp [hX']) rfl
 by_cases hlm:a4.length=b4.length
 case neg =>
  have hlm' : ¬ (a4.length:Int)=(b4.length:Int):=by omega
  have hne : ¬ a4=b4:=by rintro rfl; exact hlm rfl
  have hX':X=false:=by rw [←hX]; simp only [decide_eq_false (fun h:_∧_∧_=>hne h.2.2)]; simp
  refine QM (by conv=>lhs;simp[-List.map_set,QV,h3,hlm,hlm']) ?_;refine QN ?_
  repeat first|refine QG ?_|refine QY ?_
  exact ja hwf (by simp [hX']) rfl
 have hlm':(a4.length:Int)=(b4.length:Int):=by omega
 have hXe:X=eqF (fun x y=>decide (x=y)) a4 b4:=by
  rw [←hX,jam,hsf,hsg]
  by_cases h4:a4=b4
  ·simp [h3,h4,hse']
  ·simp [h4]
 generalize hp:(fun x y:Ss.Block=>decide (x=y))=p at hXe;refine QM (by conv=>lhs;simp[-List.map_set,QV,h3,hlm,hlm']) ?_;refine QN ?_
 repeat first|refine QG ?_|refine QY ?_
 repeat refine QS ?_
 refine je [2,3,5] rfl (fun c σ S' => ∃ (k:Nat),k≤a4.length∧c=a4.length-k∧eqF p (a4.drop k) (b4.drop k)=X∧σ=[(2, .ptr (lid S.nx 0) 0),(3, .ptr (lid S.nx 1) 0),(5,vnat k)]∧S'=St S [] [some (4,[vl vint a1,vl vint a2,vl vint b3,vl jd a4]),some (4,[vl vint b1,vl vint b2,vl vint b3,vl jd b4])]) a4.length ?_ ?_
 ·exact ⟨0,by omega,rfl,by rw [hXe]; rfl,by simp [Fr.only],by simp [h3]⟩
 ·rintro c σ T ⟨k,hk,rfl,hd,rfl,rfl⟩
  by_cases hkt:k<a4.length
  ·have hkm:k<b4.length:=by omega
   have hw:=jn hkt g4;have hst:=eqF_one (p:=p) hkt hkm;have hbf:=f5 _ (List.getElem_mem hkt);obtain ⟨⟨x1,x2,x3⟩,hx⟩ : ∃ x,a4[k]=x:=⟨_,rfl⟩
   obtain ⟨⟨y1,y2,y3⟩,hy⟩ : ∃ y,b4[k]=y:=⟨_,rfl⟩
   rw [hx] at hbf;have ct:=sameTerm_v x3 y3 hbf.2.2;obtain ⟨⟨q1,_⟩,⟨q2,q3⟩,_⟩:=hbf;simp only at q1 q2 q3;rw [hx,hy] at hst;have hpp:p ⟨x1,x2,x3⟩ ⟨y1,y2,y3⟩=decide (x1=y1∧x2=y2∧x3=y3):=by rw [←hp]; simp
   have r1:x1.length<2^63:=by omega
   have r2:x2.length<2^63:=by omega
   obtain ⟨x3,x4,x5,x6⟩:=x3;obtain ⟨y3,y4,y5,y6⟩:=y3;generalize hT:decide ((⟨x3,x4,x5,x6⟩:Ss.Term)=⟨y3,y4,y5,y6⟩)=te at ct;have ct':VPure Tryz.prog 38 [.agg [.int .i64 x3, .int .i64 x4,vl jk x5,vl vint x6], .agg [.int .i64 y3, .int .i64 y4,vl jk y5,vl vint y6]] (.bool te):=ct;have bad : ¬ (x1=y1∧x2=y2∧(⟨x3,x4,x5,x6⟩:Ss.Term)=⟨y3,y4,y5,y6⟩)→X=false:=by
    intro hn;rw [←hd,hst,hpp,decide_eq_false hn]; rfl
   repeat first|refine QG ?_|refine QY ?_ (r:=by conv=>lhs;simp[-List.map_set,QV,hkt,hkm,hx,hy])
   repeat refine QS ?_
   refine KG (σm := ?sm) (Sm := ?Sm) (ZZ.mk _ (St S [] [some (4,[vl vint a1,vl vint a2,vl vint b3,vl jd a4]),some (4,[vl vint b1,vl vint b2,vl vint b3,vl jd b4])]) (St S [] [some (4,[vl vint a1,vl vint a2,vl vint b3,vl jd a4]),some (4,[vl vint b1,vl vint b2,vl vint b3,vl jd b4])]) []) 10 11 [0,1,2,3,4,5,6,7,8,9,10,11,12,13] [0,1,2,3,4,5,6,7,8,9,11,10,12,13] rfl (by kernel_rfl) (by conv=>lhs; reduce) (by kernel_rfl) (by decide) (by kernel_rfl) (by kernel_rfl) (by kernel_rfl) (by kernel_rfl) (by kernel_rfl) (by kernel_rfl) rfl (jm (by simp [subU,shpU,subL,shpL])) (Store.sub_refl _) (by conv=>lhs; reduce) (by conv=>lhs; reduce) ?H1 ?H2 ?H3
   case H1 =>
    refine QM (by conv=>lhs;simp[-List.map_set,QV,hkt,hkm,hx,hy]) ?_;refine jf rfl (by conv=>lhs;simp[-List.map_set,QV]) (jm (by simp [subU,shpU,subL,shpL])) ?_;refine jf rfl (by conv=>lhs;simp[-List.map_set,QV]) (jm (by simp [subU,shpU,subL,shpL])) ?_;refine jf rfl (by conv=>lhs;simp[-List.map_set,QV]) (jm (by simp [subU,shpU,subL,shpL])) ?_;refine jf rfl (by conv=>lhs;simp[-List.map_set,QV]) (jm (by simp [subU,shpU,subL,shpL])) ?_;refine QN ?_;refine zU [2,3,5,6,7] (Eq.trans (b := ?_) ?_ rfl)
    rotate_left
    conv=>lhs; simp [Fr.only,Fr.look]
   case H2 =>
    refine QM (by conv=>lhs;simp[-List.map_set,QV,hkt,hkm,hx,hy]) ?_;refine jf rfl (by conv=>lhs;simp[-List.map_set,QV]) (jm (by simp [subU,shpU,subL,shpL])) ?_;refine jf rfl (by conv=>lhs;simp[-List.map_set,QV]) (jm (by simp [subU,shpU,subL,shpL])) ?_;refine jf rfl (by conv=>lhs;simp[-List.map_set,QV]) (jm (by simp [subU,shpU,subL,shpL])) ?_;refine jf rfl (by conv=>lhs;simp[-List.map_set,QV]) (jm (by simp [subU,shpU,subL,shpL])) ?_;refine QN ?_;exact jU [2,3,5,6,7] [0,1,3,2] (by conv=>lhs; simp [Fr.only,Fr.look]) hwf (by decide) (by simp [-List.map_set]) (by conv=>lhs; simp [-List.map_set]) (by conv=>lhs; simp [-List.map_set]) (by conv=>lhs; simp [-List.map_set])
   repeat first|refine QG ?_|refine QY ?_
   repeat refine QS ?_
   refine QP ?_;refine jc (JC x1 y1 r1) (by rfl) ?_
   by_cases e1:x1=y1
   case neg =>
    refine QM (by conv=>lhs;simp[-List.map_set,QV,e1]) ?_;refine QN ?_
    repeat first|refine QG ?_|refine QY ?_
    exact ja hwf (by have hb:=bad (fun h=>e1 h.1); simp [hb]) rfl
   by_cases e2:x2.length=y2.length
   case neg =>
    have e2' : ¬ (x2.length:Int)=(y2.length:Int):=by omega
    refine QM (by conv=>lhs;simp[-List.map_set,QV,e1,e2,e2']) ?_;refine QN ?_
    repeat first|refine QG ?_|refine QY ?_
    exact ja hwf (by have hb:=bad (fun h=>e2 (by rw [h.2.1])); simp [hb]) rfl
   have e2':(x2.length:Int)=(y2.length:Int):=by omega
   refine QM (by conv=>lhs;simp[-List.map_set,QV,e1,e2,e2']) ?_;refine jc (ct') (by rfl) ?_
   by_cases hte:te=true
   case neg =>
    have hte':te=false:=by simpa using hte
    refine QM (by conv=>lhs;simp[-List.map_set,QV,hte']) ?_;refine QN ?_
    repeat first|refine QG ?_|refine QY ?_
    exact ja hwf (by have hb:=bad (fun h=>by rw [hte'] at hT; simp only [decide_eq_false_iff_not] at hT; exact hT h.2.2); simp [hb]) rfl
   have hTe:(⟨x3,x4,x5,x6⟩:Ss.Term)=⟨y3,y4,y5,y6⟩:=by rw [hte] at hT; simpa using hT
   refine QM (by conv=>lhs;simp[-List.map_set,QV,hte]) ?_;refine QN ?_
   repeat first|refine QG ?_|refine QY ?_
   have hce:p ⟨x1,x2,⟨x3,x4,x5,x6⟩⟩ ⟨y1,y2,⟨y3,y4,y5,y6⟩⟩=eqF (fun x y=>decide (x=y)) x2 y2:=by
    rw [hpp,jam]
    by_cases h4:x2=y2
    ·simp only [e1,h4,hTe,and_self]
    ·simp [h4]
   generalize hq:(fun x y:Ss.Ins=>decide (x=y))=q at hce
   repeat refine QS ?_
   refine je [2,3,5,6,7,8] rfl (fun c σ S' => ∃ (j:Nat),j≤x2.length∧c=x2.length-j∧eqF q (x2.drop j) (y2.drop j)=eqF q x2 y2∧σ=[(2, .ptr (lid S.nx 0) 0),(3, .ptr (lid S.nx 1) 0),(5,vnat k),(6, .ptr (lid S.nx 2) 0),(7, .ptr (lid S.nx 3) 0),(8,vnat j)]∧S'=St S [] [some (4,[vl vint a1,vl vint a2,vl vint b3,vl jd a4]),some (4,[vl vint b1,vl vint b2,vl vint b3,vl jd b4]),some (6,[vl vint x1,vl jq x2, .int .i64 x3, .int .i64 x4,vl jk x5,vl vint x6]),some (6,[vl vint y1,vl jq y2, .int .i64 y3, .int .i64 y4,vl jk y5,vl vint y6])]) x2.length ?_ ?_
   ·exact ⟨0,by omega,rfl,rfl,by simp [Fr.only],by simp [e1]⟩
   ·rintro c σ T ⟨j,hj,rfl,hdj,rfl,rfl⟩
    by_cases hjt:j<x2.length
    ·have hjm:j<y2.length:=by omega
     have hwj:=jn hjt r2;have hsj:=eqF_one (p:=q) hjt hjm;have hif:=q3 _ (List.getElem_mem hjt);obtain ⟨⟨u1,u2,u3,u4⟩,hu⟩ : ∃ x,x2[j]=x:=⟨_,rfl⟩
     obtain ⟨⟨v1,v2,v3,v4⟩,hv⟩ : ∃ x,y2[j]=x:=⟨_,rfl⟩
     rw [hu] at hif;have ci:=SameIns_v ⟨u1,u2,u3,u4⟩ ⟨v1,v2,v3,v4⟩ (Nat.lt_of_le_of_lt hif.2.2.1.1 (by decide)) (Nat.lt_of_le_of_lt hif.2.2.2.1 (by decide));rw [hu,hv,show q ⟨u1,u2,u3,u4⟩ ⟨v1,v2,v3,v4⟩=decide ((⟨u1,u2,u3,u4⟩:Ss.Ins)=⟨v1,v2,v3,v4⟩) by rw [←hq]] at hsj;generalize decide ((⟨u1,u2,u3,u4⟩:Ss.Ins)=⟨v1,v2,v3,v4⟩)=ie at hsj ci;have ci':VPure Tryz.prog 39 [.agg [.int .i64 u1, .int .u64 u2,vl vint u3,vl vint u4], .agg [.int .i64 v1, .int .u64 v2,vl vint v3,vl vint v4]] (.bool ie):=ci
     repeat first|refine QG ?_|refine QY ?_ (r:=by conv=>lhs;simp[-List.map_set,QV,hjt,hjm,hu,hv])
     repeat refine QS ?_
     refine QD (r:=by conv=>lhs;simp[-List.map_set,QV,hjt,hjm,hu,hv]) (k:=?_);refine jc (ci') (by rfl) ?_
     by_cases hie:ie=true
     ·refine QM (by conv=>lhs;simp[-List.map_set,QV,hie]) ?_;refine QN ?_
      repeat first|refine QG ?_|refine QY ?_
      show jz _ _ _ _ _ _ _;exact again ⟨Nat.sub_lt_sub_left hjt (Nat.lt_succ_self j),j+1,hjt,rfl,by rw [←hdj,hsj,hie]; rfl,by simp [Fr.only,hwj],rfl⟩
     ·have hie':ie=false:=by simpa using hie
      refine QM (by conv=>lhs;simp[-List.map_set,QV,hie']) ?_;refine QN ?_
      repeat first|refine QG ?_|refine QY ?_
      exact ja hwf (by rw [←hd,hst,hce, ←hdj,hsj,hie']; rfl) rfl
    ·rw [eqF_end hjt e2] at hdj;have hjm : ¬ j<y2.length:=by omega
     repeat first|refine QG ?_|refine QY ?_ (r:=by conv=>lhs;simp[-List.map_set,QV,hjt,hjm])
     refine QA [0,1] (h:=⟨?_,k+1,hkt,rfl,by rw [←hd,hst,hce, ←hdj]; rfl,by simp [hw],rfl⟩);omega
  ·rw [eqF_end hkt hlm] at hd;have hkm : ¬ k<b4.length:=by omega
   repeat first|refine QG ?_|refine QY ?_ (r:=by conv=>lhs;simp[-List.map_set,QV,hkt,hkm])
   exact ja hwf (by simp [←hd]) rfl
end Go.Vw

namespace Ss
end Ss
namespace Go.Vw
open Go.Proofs Go.RowKit
set_option maxRecDepth 10000
set_option maxHeartbeats 2000000
theorem fn_ghostD {S:Store} {fi fo ts:List Int} {bs:List Ss.Block} {cells:List V} {ot ob n m:Nat} {ids:List Nat} (h:OwL S (reps n blkD) cells (jo jd bs) ids) (hb:S.get ob=some (6,cells)) (hn:bs.length=n) (ht:S.get ot=some (1,ts.map vint)) (hm:ts.length=m) (hd:(ot::ob::ids).Nodup) :
  Ghost (.agg [vl vint fi,vl vint fo, .slice ot 0 m, .slice ob 0 n]) S (.agg [vl vint fi,vl vint fo,vl vint ts,vl jd bs]) (S.dels (ot::ob::ids)):=by
 subst hn;subst hm;refine ghost_agg ?_;have hw:OwL S [.c, .c, .s (List.replicate 1 .c), .s blkD] [vl vint fi,vl vint fo, .slice ot 0 ts.length, .slice ob 0 bs.length] [vl vint fi,vl vint fo,vl vint ts,vl jd bs] (ot::ob::ids):=by
  refine .c rfl (.c rfl (OwL.slice (enc:=vint) (fun _=>rfl) (fun _=>rfl) ts (by rw [qH]; exact ht) ?_));have:=OwL.s (S:=S) (o:=ob) (tys:=blkD) (cells:=cells) (ys:=bs.map jd) (i:=ids) (j:=[]) hb (fun y hy=>(by
   obtain ⟨b,_,rfl⟩:=List.mem_map.1 hy;exact ⟨by rw [jO]; rfl,zo b⟩)) (by rw [List.length_map,zw]; exact h) .nil
  rw [List.length_map,List.append_nil] at this;exact this
 exact hw.freeze hd S fun _ _=>rfl
end Go.Vw

namespace Ss
def emptyFn:Fn:=⟨⟨[],[]⟩,[],[]⟩
noncomputable def bceF (f:Fn):Fn:=pbce (Go.Vw.G.rNear (Go.Vw.G.nats (succs f.blocks))) (Go.Vw.G.order (Go.Vw.G.nats (succs f.blocks))) f
noncomputable def bceOut (e:Env) (f:Fn):Fn × Int:=if check e f then (bceF f,0) else (emptyFn,6)
end Ss
namespace Go.Vw
open Go.Proofs Go.RowKit
set_option maxRecDepth 10000
set_option maxHeartbeats 2000000
theorem empty_ghost (S:Store):Ghost (.agg [.nils, .nils, .nils, .nils]) S (qL Ss.emptyFn) S:=by
 refine Ghost.agg_nl rfl fun i x y hx hy => ?_
 match i,hx,hy with
 | 0,hx,hy=>cases hx; cases hy; exact .inr ⟨rfl,rfl⟩
 | 1,hx,hy=>cases hx; cases hy; exact .inr ⟨rfl,rfl⟩
 | 2,hx,hy=>cases hx; cases hy; exact .inr ⟨rfl,rfl⟩
 | 3,hx,hy=>cases hx; cases hy; exact .inr ⟨rfl,rfl⟩
end Go.Vw

namespace Ss
structure ThinB (b c:Block):Prop where
 params:c.params=b.params
 term:c.term=b.term
 sub:c.code.Sublist b.code
 keep:c.code.filter (fun x=>decide (x.op≠257))=b.code.filter fun x=>decide (x.op≠257)
theorem ThinB.refl (b:Block):ThinB b b:=⟨rfl,rfl,List.Sublist.refl _,rfl⟩
theorem ThinB.trans {a b c:Block} (h:ThinB a b) (k:ThinB b c):ThinB a c:=⟨k.params.trans h.params,k.term.trans h.term,k.sub.trans h.sub,k.keep.trans h.keep⟩
def ThinL (l m:List Block):Prop:=m.length=l.length ∧ ∀ (i:Nat) (b c:Block),l[i]? = some b→m[i]? = some c→ThinB b c
theorem ThinL.refl (l:List Block):ThinL l l:=⟨rfl,fun i b c h1 h2=>by rw [h1] at h2; cases h2; exact .refl b⟩
theorem ThinL.trans {l m n:List Block} (h:ThinL l m) (k:ThinL m n):ThinL l n:=by
 refine ⟨k.1.trans h.1,fun i b c h1 h2 => ?_⟩;have hi:i<m.length:=by rw [h.1]; exact (List.getElem?_eq_some_iff.1 h1).1
 exact (h.2 i b m[i] h1 (List.getElem?_eq_getElem hi)).trans (k.2 i m[i] c (List.getElem?_eq_getElem hi) h2)
theorem ThinL.fits {l m:List Block} (h:ThinL l m) (hl : ∀ b∈l,b.Fits) : ∀ c∈m,c.Fits:=by
 intro c hc;obtain ⟨i,hi⟩:=List.mem_iff_getElem?.1 hc;have hil:i<l.length:=by rw [←h.1]; exact (List.getElem?_eq_some_iff.1 hi).1
 obtain ⟨h1,h2,h3,h4⟩:=h.2 i l[i] c (List.getElem?_eq_getElem hil) hi;obtain ⟨k1,⟨k2,k3⟩,k4⟩:=hl _ (List.getElem_mem hil);exact ⟨by rw [h1]; exact k1,⟨Nat.le_trans h3.length_le k2,fun x hx=>k3 x (h3.subset hx)⟩,by rw [h2]; exact k4⟩
theorem ThinL.count : ∀ {l m:List Block},ThinL l m→count m≤count l
 | [],m,h=>by
  have:m=[]:=List.eq_nil_of_length_eq_zero h.1;subst this; exact Nat.le_refl _
 | b::l,[],h=>by simp [Ss.count]
 | b::l,c::m,h=>by
  have h1:=(h.2 0 b c rfl rfl).sub.length_le;have h2:ThinL l m:=⟨by have:=h.1; simpa using this,fun i x y hx hy=>h.2 (i+1) x y (by simpa using hx) (by simpa using hy)⟩
  have:=ThinL.count h2;simp only [Ss.count,List.map_cons,List.sum_cons] at this ⊢;omega
end Ss

namespace Ss
inductive Drop:List Ins→List Ins→Prop
 | nil:Drop [] []
 | keep (x:Ins) {l m:List Ins} (h:Drop l m):Drop (x::l) (x::m)
 | drop (x:Ins) {l m:List Ins} (o:x.op=257) (h:Drop l m):Drop (x::l) m
theorem Drop.refl : ∀ l:List Ins,Drop l l
 | [] => .nil
 | x::l => .keep x (Drop.refl l)
theorem Drop.trans {a b c:List Ins} (h:Drop a b):Drop b c→Drop a c:=by
 induction h generalizing c with
 | nil=>exact fun k=>k
 | keep x h ih =>
  intro k
  cases k with
  | keep _ k=>exact .keep x (ih k)
  | drop _ o k=>exact .drop x o (ih k)
 | drop x o h ih=>exact fun k => .drop x o (ih k)
theorem Drop.pos {l m:List Ins} (h:Drop l m) : ∃ φ:Nat→Nat,(∀ k k',k≤k'→φ k≤φ k')∧(∀ k x,l[k]? = some x→x.op≠257→m[φ k]? = some x ∧ ∀ k',k<k'→φ k<φ k')∧(∀ j y,m[j]? = some y → ∃ k,l[k]? = some y∧φ k=j)∧φ l.length=m.length:=by
 induction h with
 | nil=>exact ⟨fun _=>0,fun _ _ _=>Nat.le_refl _,by simp,by simp,rfl⟩
 | @keep x l m h ih =>
  obtain ⟨φ,h1,h2,h3,h4⟩:=ih;refine ⟨fun k=>match k with | 0=>0 | k+1=>φ k+1,fun k k' hk => ?_,fun k y hk ho => ?_,fun j y hj => ?_,by simp [h4]⟩
  ·cases k with
   | zero=>simp
   | succ k=>cases k' with
    | zero=>omega
    | succ k'=>have:=h1 k k' (by omega); simp only; omega
  ·cases k with
   | zero=>exact ⟨by simpa using hk,fun k' hk'=>by cases k' with | zero=>omega | succ k'=>simp⟩
   | succ k =>
    obtain ⟨g1,g2⟩:=h2 k y (by simpa using hk) ho;exact ⟨by simpa using g1,fun k' hk'=>by cases k' with | zero=>omega | succ k'=>have:=g2 k' (by omega); simp only; omega⟩
  ·cases j with
   | zero=>exact ⟨0,by simpa using hj,rfl⟩
   | succ j =>
    obtain ⟨k,e1,e2⟩:=h3 j y (by simpa using hj);exact ⟨k+1,by simpa using e1,by simp [e2]⟩
 | @drop x l m o h ih =>
  obtain ⟨φ,h1,h2,h3,h4⟩:=ih;refine ⟨fun k=>match k with | 0=>0 | k+1=>φ k,fun k k' hk => ?_,fun k y hk ho => ?_,fun j y hj => ?_,by simp [h4]⟩
  ·cases k with
   | zero=>simp
   | succ k=>cases k' with
    | zero=>omega
    | succ k'=>exact h1 k k' (by omega)
  ·cases k with
   | zero =>
    simp only [List.getElem?_cons_zero,Option.some.injEq] at hk;subst hk; exact absurd o ho
   | succ k =>
    obtain ⟨g1,g2⟩:=h2 k y (by simpa using hk) ho;exact ⟨g1,fun k' hk'=>by cases k' with | zero=>omega | succ k'=>exact g2 k' (by omega)⟩
  ·obtain ⟨k,e1,e2⟩:=h3 j y hj;exact ⟨k+1,by simpa using e1,e2⟩
theorem Drop.outs {l m:List Ins} (h:Drop l m) (ho : ∀ x∈l,x.op=257→x.outs=[]):zV m=zV l:=by
 induction h with
 | nil=>rfl
 | @keep x l m h ih=>simp only [zV,List.flatMap_cons] at ih ⊢; rw [ih fun y hy=>ho y (by simp [hy])]
 | @drop x l m o h ih =>
  simp only [zV,List.flatMap_cons] at ih ⊢;rw [ih fun y hy=>ho y (by simp [hy]),ho x (by simp) o,List.nil_append]
theorem Drop.tick {l m:List Ins} (h:Drop l m):(m.any fun x=>decide (x.op=258))=l.any fun x=>decide (x.op=258):=by
 induction h with
 | nil=>rfl
 | keep x h ih=>simp only [List.any_cons,ih]
 | drop x o h ih=>simp only [List.any_cons,ih,o]; simp
theorem put_mk {block pos:Int} : ∀ {l:List Int} {ds:List Def},(∀ v∈l,0≤v∧v<ds.length)→l.Nodup→(∀ v∈l,(dAt ds v).made=false) → ∃ d,put block pos ds l=some d
 | [],ds,_,_,_=>⟨ds,rfl⟩
 | v::l,ds,h1,h2,h3=>by
  obtain ⟨a1,a2⟩:=h1 v (by simp);obtain ⟨n1,n2⟩:=List.nodup_cons.1 h2;have hm:=h3 v (by simp);have hm':(ds.getD v.toNat default).made=false:=hm;simp only [put];rw [if_neg (by rw [hm']; simp; omega)];refine put_mk (fun w hw=>by rw [List.length_set]; exact h1 w (by simp [hw])) n2 fun w hw => ?_
  have hne:w≠v:=fun e=>n1 (e▸hw)
  rw [jcg a1 a2 (h1 w (by simp [hw])).1,if_neg hne];exact h3 w (by simp [hw])
theorem jbd {i:Int} : ∀ {l:List Ins} {k:Nat} {ds:List Def},(∀ v∈zV l,0≤v∧v<ds.length)→(zV l).Nodup→(∀ v∈zV l,(dAt ds v).made=false) → ∃ d,putCode i k ds l=some d
 | [],k,ds,_,_,_=>⟨ds,rfl⟩
 | x::l,k,ds,h1,h2,h3=>by
  have e:zV (x::l)=x.outs++zV l:=rfl;rw [e] at h1 h2 h3;obtain ⟨n1,n2,n3⟩:=List.nodup_append.1 h2;obtain ⟨d,hd⟩:=put_mk (block:=i) (pos:=k) (fun v hv=>h1 v (by simp [hv])) n1 (fun v hv=>h3 v (by simp [hv]));have hp:=(KL hd).1;obtain ⟨d',hd'⟩:=jbd (i:=i) (k:=k+1) (l:=l) (ds:=d) (fun v hv=>by rw [Yk hd]; exact h1 v (by simp [hv])) n2 (fun v hv=>by
   rw [hp.keep v (h1 v (by simp [hv])).1 (fun hm=>n3 v hm v hv rfl)]; exact h3 v (by simp [hv]))
  exact ⟨d',by rw [putCode,hd]; exact hd'⟩
theorem YI : ∀ {l:List Block} {i:Nat} {ds:List Def},(∀ v∈allL l,0≤v∧v<ds.length)→(allL l).Nodup→(∀ v∈allL l,(dAt ds v).made=false) → ∃ d,putBlocks i ds l=some d
 | [],i,ds,_,_,_=>⟨ds,rfl⟩
 | b::l,i,ds,h1,h2,h3=>by
  have e:allL (b::l)=(b.params++zV b.code)++allL l:=rfl;rw [e] at h1 h2 h3;obtain ⟨n0,n2,n3⟩:=List.nodup_append.1 h2;obtain ⟨n1,n4,n5⟩:=List.nodup_append.1 n0;obtain ⟨d,hd⟩:=put_mk (block:=i) (pos := -1) (fun v hv=>h1 v (by simp [hv])) n1 (fun v hv=>h3 v (by simp [hv]));have hp:=(KL hd).1;obtain ⟨d1,hd1⟩:=jbd (i:=i) (k:=0) (l:=b.code) (ds:=d) (fun v hv=>by rw [Yk hd]; exact h1 v (by simp [hv])) n4 (fun v hv=>by
   rw [hp.keep v (h1 v (by simp [hv])).1 (fun hm=>n5 v hm v hv rfl)]; exact h3 v (by simp [hv]))
  have hp1:=(JG hd1).1;obtain ⟨d2,hd2⟩:=YI (i:=i+1) (l:=l) (ds:=d1) (fun v hv=>by rw [putCode_len' hd1,Yk hd]; exact h1 v (by simp [hv])) n2 (fun v hv=>by
   have h0:=(h1 v (by simp [hv])).1;rw [hp1.keep v h0 (fun hm=>n3 v (by simp [hm]) v hv rfl),hp.keep v h0 (fun hm=>n3 v (by simp [hm]) v hv rfl)]; exact h3 v (by simp [hv]))
  exact ⟨d2,by rw [putBlocks,hd]; simp only [Option.bind_some]; rw [hd1]; exact hd2⟩
theorem YR {e:Env} {f:Fn} {ds:List Def} {near:List Int} {i:Int} : ∀ {l:List Ins} {k:Nat},(∀ (j:Nat) (x:Ins),l[j]? = some x→insOk e f ds near i ((k+j:Nat):Int) x=true)→checkCode e f ds near i k l=true
 | [],k,_=>rfl
 | x::l,k,h=>by
  have h0:=h 0 x rfl;rw [Nat.add_zero] at h0;simp only [checkCode,Bool.and_eq_true];refine ⟨h0,YR fun j y hy => ?_⟩;have:=h (j+1) y (by simpa using hy);rw [show k+(j+1)=k+1+j by omega] at this;exact this
def DropL (l m:List Block):Prop:=m.length=l.length ∧ ∀ (i:Nat) (b c:Block),l[i]? = some b→m[i]? = some c→c.params=b.params∧c.term=b.term∧Drop b.code c.code
theorem DropL.refl (l:List Block):DropL l l:=⟨rfl,fun i b c h1 h2=>by rw [h1] at h2; cases h2; exact ⟨rfl,rfl, .refl _⟩⟩
theorem DropL.trans {l m n:List Block} (h:DropL l m) (k:DropL m n):DropL l n:=by
 refine ⟨k.1.trans h.1,fun i b c h1 h2 => ?_⟩;have hi:i<m.length:=by rw [h.1]; exact (List.getElem?_eq_some_iff.1 h1).1
 obtain ⟨a1,a2,a3⟩:=h.2 i b m[i] h1 (List.getElem?_eq_getElem hi);obtain ⟨b1,b2,b3⟩:=k.2 i m[i] c (List.getElem?_eq_getElem hi) h2;exact ⟨b1.trans a1,b2.trans a2,a3.trans b3⟩
theorem DropL.map {α:Type} {l m:List Block} (h:DropL l m) (F:Block→α) (hF : ∀ b c:Block,b∈l→c.params=b.params→c.term=b.term→Drop b.code c.code→F c=F b):m.map F=l.map F:=by
 apply List.ext_getElem?
 intro i;rw [List.getElem?_map,List.getElem?_map]
 by_cases hi:i<l.length
 ·have hi2:i<m.length:=by rw [h.1]; exact hi
  rw [List.getElem?_eq_getElem hi,List.getElem?_eq_getElem hi2];obtain ⟨h1,h2,h3⟩:=h.2 i l[i] m[i] (List.getElem?_eq_getElem hi) (List.getElem?_eq_getElem hi2);simp only [Option.map_some,Option.some.injEq];exact hF _ _ (List.getElem_mem hi) h1 h2 h3
 ·rw [List.getElem?_eq_none (by rw [h.1]; omega),List.getElem?_eq_none (by omega)]
end Ss

namespace Ss
open Go.Vw.G
def phi {α:Type} (p:α→Bool) (l:List α) (k:Nat):Nat:=((l.take k).filter p).length
theorem pure_tick:pure 258=false:=by decide
end Ss

namespace Ss
def cutAt (b:Block) (i:Nat):Block:=⟨b.params,b.code.eraseIdx i,b.term⟩
def endWith (b:Block) (x:Ins):Block:=⟨b.params,b.code++[x],b.term⟩
def moveAt (bs:List Block) (p n i:Nat):List Block:=(bs.set n (cutAt (bs.getD n default) i)).set p (endWith (bs.getD p default) ((bs.getD n default).code.getD i default))
structure Mv (bs:List Block) (p n i:Nat) (bp bn:Block) (x:Ins):Prop where
 hp:bs[p]? = some bp
 hn:bs[n]? = some bn
 hi:bn.code[i]? = some x
 ne:p≠n
section
variable {bs:List Block} {p n i:Nat} {bp bn:Block} {x:Ins}
theorem Mv.eq (h:Mv bs p n i bp bn x):moveAt bs p n i=(bs.set n (cutAt bn i)).set p (endWith bp x):=by
 simp only [moveAt,List.getD_eq_getElem?_getD,h.hp,h.hn,h.hi,Option.getD_some]
theorem Mv.len (h:Mv bs p n i bp bn x):(moveAt bs p n i).length=bs.length:=by simp [moveAt]
theorem Mv.at (h:Mv bs p n i bp bn x) (j:Nat):(moveAt bs p n i)[j]? = if j=p then some (endWith bp x) else if j=n then some (cutAt bn i) else bs[j]? := by
 have h1:=(List.getElem?_eq_some_iff.1 h.hp).1;have h2:=(List.getElem?_eq_some_iff.1 h.hn).1;rw [h.eq]
 by_cases e1:j=p
 ·subst e1;rw [if_pos rfl,List.getElem?_set_self (by simpa using h1)]
 ·rw [if_neg e1,List.getElem?_set_ne (Ne.symm e1)]
  by_cases e2:j=n
  ·subst e2;rw [if_pos rfl,List.getElem?_set_self h2]
  ·rw [if_neg e2,List.getElem?_set_ne (Ne.symm e2)]
theorem Ym {α:Type} {a:α} : ∀ {l:List α} {k:Nat},l[k]? = some a→l.Perm (a::l.eraseIdx k)
 | [],k,h=>by simp at h
 | b::l,0,h=>by
  simp only [List.getElem?_cons_zero,Option.some.injEq] at h;subst h; exact List.Perm.refl _
 | b::l,k+1,h=>by
  have:=Ym (l:=l) (k:=k) (by simpa using h);rw [List.eraseIdx_cons_succ];exact (this.cons b).trans (List.Perm.swap a b _)
theorem jbQ {α:Type} {l:List α} {k:Nat} {a b:α} (h:l[k]? = some a):l.Perm (a::l.eraseIdx k)∧(l.set k b).Perm (b::l.eraseIdx k):=by
 have hk:=(List.getElem?_eq_some_iff.1 h).1;refine ⟨Ym h, ?_⟩;have:=Ym (l:=l.set k b) (k:=k) (a:=b) (List.getElem?_set_self hk)
 rwa [List.eraseIdx_set_eq] at this
theorem Mv.perm (h:Mv bs p n i bp bn x) {α:Type} (F:Block→List α) (X:List α) (h1:(F bn).Perm (X++F (cutAt bn i))) (h2:(F (endWith bp x)).Perm (X++F bp)):((moveAt bs p n i).flatMap F).Perm (bs.flatMap F):=by
 have hp2:(bs.set n (cutAt bn i))[p]? = some bp:=by rw [List.getElem?_set_ne (Ne.symm h.ne)]; exact h.hp
 obtain ⟨a1,a2⟩:=jbQ (b:=cutAt bn i) h.hn;obtain ⟨c1,c2⟩:=jbQ (b:=endWith bp x) hp2;rw [h.eq];generalize (bs.set n (cutAt bn i)).eraseIdx p=E at *
 generalize bs.eraseIdx n=G at *
 have e1:=c2.flatMap_right F;have e2:=c1.flatMap_right F;have e3:=a2.flatMap_right F;have e4:=a1.flatMap_right F;simp only [List.flatMap_cons] at e1 e2 e3 e4;refine e1.trans ?_;refine (h2.append_right _).trans ?_;rw [List.append_assoc];refine ((e2.symm.trans e3).append_left X).trans ?_;rw [←List.append_assoc];exact (h1.symm.append_right _).trans e4.symm
theorem code_perm {l:List Ins} {i:Nat} {x:Ins} (h:l[i]? = some x):l.Perm (x::l.eraseIdx i):=(jbQ (b:=x) h).1
theorem Mv.all (h:Mv bs p n i bp bn x):(allL (moveAt bs p n i)).Perm (allL bs):=by
 have hc:=code_perm h.hi;refine h.perm (fun b=>b.params++zV b.code) x.outs ?_ ?_
 ·have h1:(zV bn.code).Perm (x.outs++zV (bn.code.eraseIdx i)):=by
   have:=hc.flatMap_right Ins.outs;simpa [zV] using this
  refine (h1.append_left _).trans ?_;simp only [cutAt];rw [←List.append_assoc, ←List.append_assoc];exact List.perm_append_comm.append_right _
 ·simp only [endWith,zV,List.flatMap_append,List.flatMap_cons,List.flatMap_nil,List.append_nil];rw [←List.append_assoc];exact List.perm_append_comm
theorem Mv.codes (h:Mv bs p n i bp bn x):((moveAt bs p n i).flatMap Block.code).Perm (bs.flatMap Block.code):=by
 refine h.perm Block.code [x] (code_perm h.hi) ?_;simp only [endWith];exact List.perm_append_comm
theorem Mv.count (h:Mv bs p n i bp bn x):count (moveAt bs p n i)=count bs:=by
 have e : ∀ l:List Block,Ss.count l=(l.flatMap Block.code).length:=fun l=>by
  rw [List.length_flatMap]; rfl
 rw [e,e,h.codes.length_eq]
theorem Mv.map (h:Mv bs p n i bp bn x) {α:Type} (F:Block→α) (h1:F (cutAt bn i)=F bn) (h2:F (endWith bp x)=F bp):(moveAt bs p n i).map F=bs.map F:=by
 apply List.ext_getElem?
 intro j;rw [List.getElem?_map,List.getElem?_map,h.at j]
 by_cases e1:j=p
 ·subst e1; rw [if_pos rfl,h.hp,Option.map_some,Option.map_some,h2]
 ·rw [if_neg e1]
  by_cases e2:j=n
  ·subst e2; rw [if_pos rfl,h.hn,Option.map_some,Option.map_some,h1]
  ·rw [if_neg e2]
theorem Mv.succs (h:Mv bs p n i bp bn x):succs (moveAt bs p n i)=succs bs:=h.map rowOf rfl rfl
theorem any_erase {q:Ins→Bool} : ∀ {l:List Ins} {i:Nat} {x:Ins},l[i]? = some x→q x=false→(l.eraseIdx i).any q=l.any q
 | [],i,x,h,_=>by simp at h
 | a::l,0,x,h,hq=>by
  simp only [List.getElem?_cons_zero,Option.some.injEq] at h;subst h; simp [hq]
 | a::l,i+1,x,h,hq=>by
  simp only [List.eraseIdx_cons_succ,List.any_cons,any_erase (l:=l) (by simpa using h) hq]
theorem Mv.ticks (h:Mv bs p n i bp bn x) (hx:x.op≠258):(moveAt bs p n i).map tickB=bs.map tickB:=by
 refine h.map tickB ?_ ?_
 ·exact any_erase (q:=fun y=>decide (y.op=258)) h.hi (by simpa using hx)
 ·simp [tickB,endWith,hx]
end
end Ss
