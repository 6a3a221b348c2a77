import Derived.Test.YtkfllaokjaldnaaGreatC24
import Derived.Test.YtkfllaokjaldnaaGreatC16
import Derived.Test.YtkfllaokjaldnaaGreatC12
import Derived.Test.YtkfllaokjaldnaaGreatC13
import Derived.Test.YtkfllaokjaldnaaGreatC25
import Derived.Test.YtkfllaokjaldnaaGreatC26
import Derived.Test.YtkfllaokjaldnaaGreatC23
/-
  Part of the proof (texts SMoreP, SMoreQ, SLMore, SRSame, SRSame2, SLItself, BCov, BPure, CKinds).
-/
set_option linter.unusedVariables false
set_option linter.unusedSimpArgs false
namespace Ss
/-! ### An instruction more -/
def moreX (ts:List Int) (b:Block):Ins:=b.params.foldl (fun (x:Ins) (p:Int)=>if 0≤p∧p<(ts.length:Int)∧ts.getD p.toNat 0=126 then ⟨124,0,[p,p],[(ts.length:Int)]⟩ else x) ⟨256,9,[],[(ts.length:Int)]⟩
def addB (b:Block) (x:Ins):Block:=⟨b.params,b.code++[x],b.term⟩
def more (f:Fn) (j:Nat):Fn:=⟨f.sig,f.types++[126],f.blocks.set j (addB (f.blocks.getD j default) (moreX f.types (f.blocks.getD j default)))⟩
theorem putCode_len' {i:Int} : ∀ {l:List Ins} {k:Nat} {ds d:List Def},putCode i k ds l=some d→d.length=ds.length:=fun h=>(Ys h).1
theorem qj : ∀ {l:List Block} {i:Nat} {ds d:List Def},putBlocks i ds l=some d → ∀ (j:Nat) (b:Block),l[j]? = some b → ∀ v∈b.params,dAt d v=⟨true,((i+j:Nat):Int), -1⟩
 | [],i,ds,d,h=>by simp
 | b::l,i,ds,d,h=>by
  simp only [putBlocks] at h;obtain ⟨d2,h1,h2⟩:=Option.bind_eq_some_iff.1 h;obtain ⟨d1,h3,h4⟩:=Option.bind_eq_some_iff.1 h1;obtain ⟨p1,q1⟩:=KK h3;obtain ⟨p2,_⟩:=JE h4;obtain ⟨p3,_⟩:=JK h2;intro j y hj v hv
  cases j with
  | zero =>
   simp only [List.getElem?_cons_zero,Option.some.injEq] at hj;subst hj;have n2:v∉zW b.code:=fun hm=>by
    have:=p2.new v hm;rw [p1.made v hv] at this; cases this
   have e2:dAt d2 v=dAt d1 v:=p2.keep v (p1.pos v hv) n2;have n3:v∉allL l:=fun hm=>by
    have:=p3.new v hm;rw [e2,p1.made v hv] at this; cases this
   rw [p3.keep v (p1.pos v hv) n3,e2,q1 v hv]; simp
  | succ j =>
   have:=qj h2 j y (by simpa using hj) v hv;rw [this]; congr 2; omega
theorem Zw {α:Type} {p q:α→α→Bool} : ∀ {l m:List α},(∀ x∈l, ∀ y,p x y=true→q x y=true)→Go.Vw.eqF p l m=true→Go.Vw.eqF q l m=true
 | [],[],_,_=>rfl
 | [],_::_,_,h=>by simp [Go.Vw.eqF] at h
 | _::_,[],_,h=>by simp [Go.Vw.eqF] at h
 | a::l,b::m,hp,h=>by
  simp only [Go.Vw.eqF,Bool.and_eq_true] at h ⊢;exact ⟨hp a (by simp) b h.1,Zw (fun x hx=>hp x (by simp [hx])) h.2⟩
end Ss

namespace Ss
def NewX (ts ps:List Int) (x:Ins):Prop:=x=⟨256,9,[],[(ts.length:Int)]⟩ ∨ ∃ p∈ps,0≤p∧p<ts.length∧ts.getD p.toNat 0=126∧x=⟨124,0,[p,p],[(ts.length:Int)]⟩
theorem NewX.op {ts ps:List Int} {x:Ins} (h:NewX ts ps x):x.op≠258∧x.outs=[(ts.length:Int)]∧x.args.length≤2:=by
 rcases h with rfl | ⟨p,_,_,_,_,rfl⟩<;>simp
theorem Wa {e:Env} {f:Fn} {ds:List Def} {near:List Int} : ∀ {l:List Block} {i:Nat},(∀ (j:Nat) (b:Block),l[j]? = some b→checkCode e f ds near ((i+j:Nat):Int) 0 b.code=true∧termOk f ds near ((i+j:Nat):Int) b=true)→checkBlocks e f ds near i l=true
 | [],i,_=>rfl
 | b::l,i,h=>by
  simp only [checkBlocks,Bool.and_eq_true];refine ⟨h 0 b rfl,Wa fun j y hy => ?_⟩;have:=h (j+1) y (by simpa using hy);rw [show i+1+j=i+(j+1) by omega]; exact this
end Ss

namespace Go.Vw
open Go.Proofs Go.RowKit
set_option maxRecDepth 10000
set_option maxHeartbeats 2000000
end Go.Vw

namespace Go.Vw
open Go.Proofs Go.RowKit
set_option maxRecDepth 10000
set_option maxHeartbeats 8000000
theorem JB (l m:List Int) (hl:l.length<2^63):VPure Tryz.prog 37 [vl vint l,vl vint m] (.bool (decide (l=m))):=by
 intro S;rw [←jaD];generalize hp:(fun x y:Int=>decide (x=y))=p
 by_cases hlm:l.length=m.length
 ·have hlm':(l.length:Int)=(m.length:Int):=by omega
  refine jb (c:=jg Tryz.f37) Tryz.func37 rfl rfl (by simp [Tryz.ntmps37]) ?_;rw [Tryz.ntmps37];intro hwf
  repeat first|refine QG ?_|refine QY ?_ (r:=by conv=>lhs;simp[-List.map_set,QV,hlm,hlm'])
  repeat refine QS ?_
  refine je [0,1,5] rfl (fun c σ S' => ∃ (k:Nat),k≤l.length∧c=l.length-k∧eqF p (l.drop k) (m.drop k)=eqF p l m∧σ=[(0,vl vint l),(1,vl vint m),(5,vnat k)]∧S'=St S [] []) l.length ?_ ?_
  ·exact ⟨0,by omega,rfl,rfl,by simp [Fr.only],rfl⟩
  ·rintro c σ T ⟨k,hk,rfl,hd,rfl,rfl⟩
   by_cases hkt:k<l.length
   ·have hkm:k<m.length:=by omega
    have hw:=jo hkt hl;have hst:eqF p (l.drop k) (m.drop k)=(p l[k] m[k]&&eqF p (l.drop (k+1)) (m.drop (k+1))):=by rw [List.drop_eq_getElem_cons hkt,List.drop_eq_getElem_cons hkm,eqF]
    obtain ⟨x,hx⟩ : ∃ x,l[k]=x:=⟨_,rfl⟩
    obtain ⟨y,hy⟩ : ∃ y,m[k]=y:=⟨_,rfl⟩
    rw [hx,hy] at hst
    by_cases hxy:x=y
    ·rw [show p x y=true by rw [←hp]; simp [hxy]] at hst
     repeat first|refine QG ?_|refine QY ?_ (r:=by conv=>lhs;simp[-List.map_set,QV,hkt,hkm,hx,hy,hxy])
     show jx _ _ _ _ _ _ _;exact again ⟨Nat.sub_lt_sub_left hkt (Nat.lt_succ_self k),k+1,hkt,rfl,by rw [←hd,hst]; rfl,by simp [Fr.only,hw],rfl⟩
    ·rw [show p x y=false by rw [←hp]; simp [hxy]] at hst
     repeat first|refine QG ?_|refine QY ?_ (r:=by conv=>lhs;simp[-List.map_set,QV,hkt,hkm,hx,hy,hxy])
     exact ja hwf (by rw [←hd,hst]; rfl) rfl
   ·have e:l.drop k=[]:=by rw [List.drop_eq_nil_iff]; omega
    have e':m.drop k=[]:=by rw [List.drop_eq_nil_iff]; omega
    rw [e,e'] at hd;have hkm : ¬ k<m.length:=by omega
    repeat first|refine QG ?_|refine QY ?_ (r:=by conv=>lhs;simp[-List.map_set,QV,hkt,hkm])
    exact ja hwf (by rw [←hd]; rfl) rfl
 ·have hlm' : ¬ (l.length:Int)=(m.length:Int):=by omega
  have e:eqF p l m=false:=eqF_len hlm;rw [e];refine jb (c:=jg Tryz.f37) Tryz.func37 rfl rfl (by simp [Tryz.ntmps37]) ?_;rw [Tryz.ntmps37];intro hwf
  repeat first|refine QG ?_|refine QY ?_ (r:=by conv=>lhs;simp[-List.map_set,QV,hlm,hlm'])
  exact ja hwf rfl rfl
theorem SameSig_v (a b:Ss.Sig) (h1:a.inn.length<2^63) (h2:a.out.length<2^63):VPure Tryz.prog 36 [jR a,jR b] (.bool (decide (a=b))):=by
 intro S;obtain ⟨a1,a2⟩:=a;obtain ⟨b1,b2⟩:=b;simp only [Ss.Sig.mk.injEq] at *
 refine jb (c:=jg Tryz.f36) Tryz.func36 rfl rfl (by simp [Tryz.ntmps36]) ?_;rw [Tryz.ntmps36];intro hwf
 repeat first|refine QG ?_|refine QY ?_
 repeat refine QS ?_
 refine QP ?_;refine jn rfl (JB a1 b1 h1) ?_
 by_cases h:a1=b1
 ·refine QM (by conv=>lhs;simp[-List.map_set,QV,h]) ?_;refine jn rfl (JB a2 b2 h2) ?_;refine QW ?_
  repeat first|refine QG ?_|refine QY ?_
  exact ja hwf (by simp [h]) rfl
 ·refine QM (by conv=>lhs;simp[-List.map_set,QV,h]) ?_;refine QN ?_
  repeat first|refine QG ?_|refine QY ?_
  exact ja hwf (by simp [h]) rfl
theorem SameIns_v (x y:Ss.Ins) (h:x.args.length<2^63) (h':x.outs.length<2^63):VPure Tryz.prog 39 [jm x,jm y] (.bool (decide (x=y))):=by
 intro S;obtain ⟨a1,a2,a3,a4⟩:=x;obtain ⟨b1,b2,b3,b4⟩:=y;simp only [Ss.Ins.mk.injEq] at *
 refine jb (c:=jg Tryz.f39) Tryz.func39 rfl rfl (by simp [Tryz.ntmps39]) ?_;rw [Tryz.ntmps39];intro hwf
 by_cases h1:a1=b1
 ·by_cases h2:a2=b2
  ·by_cases h3:a3=b3
   ·repeat first|refine QG ?_|refine QY ?_ (r:=by conv=>lhs;simp[-List.map_set,QV,h1,h2])
    repeat refine QS ?_
    refine QP ?_ (r:=by conv=>lhs;simp[-List.map_set,QV,h1,h2]);refine jn rfl (JB a3 b3 h) ?_;refine QM (by conv=>lhs;simp[-List.map_set,QV,h3]) ?_;refine jn rfl (JB a4 b4 h') ?_;refine QW ?_
    repeat first|refine QG ?_|refine QY ?_
    exact ja hwf (by simp [h1,h2,h3]) rfl
   ·repeat first|refine QG ?_|refine QY ?_ (r:=by conv=>lhs;simp[-List.map_set,QV,h1,h2])
    repeat refine QS ?_
    refine QP ?_ (r:=by conv=>lhs;simp[-List.map_set,QV,h1,h2]);refine jn rfl (JB a3 b3 h) ?_;refine QM (by conv=>lhs;simp[-List.map_set,QV,h3]) ?_;refine QN ?_
    repeat first|refine QG ?_|refine QY ?_
    exact ja hwf (by simp [h3]) rfl
  ·repeat first|refine QG ?_|refine QY ?_ (r:=by conv=>lhs;simp[-List.map_set,QV,h1,h2])
   exact ja hwf (by simp [h2]) rfl
 ·repeat first|refine QG ?_|refine QY ?_ (r:=by conv=>lhs;simp[-List.map_set,QV,h1])
  exact ja hwf (by simp [h1]) rfl
theorem eqF_one {α:Type} {p:α→α→Bool} {l m:List α} {k:Nat} (h:k<l.length) (h':k<m.length):eqF p (l.drop k) (m.drop k)=(p l[k] m[k]&&eqF p (l.drop (k+1)) (m.drop (k+1))):=by
 rw [List.drop_eq_getElem_cons h,List.drop_eq_getElem_cons h',eqF]
theorem eqF_end {α:Type} {p:α→α→Bool} {l m:List α} {k:Nat} (h : ¬ k<l.length) (hl:l.length=m.length):eqF p (l.drop k) (m.drop k)=true:=by
 rw [show l.drop k=[] by rw [List.drop_eq_nil_iff]; omega,show m.drop k=[] by rw [List.drop_eq_nil_iff]; omega]; rfl
theorem sameTerm_v (x y:Ss.Term) (hx:x.Fits):VPure Tryz.prog 38 [jcp x,jcp y] (.bool (decide (x=y))):=by
 intro S;obtain ⟨a3,a4,a5,a6⟩:=x;obtain ⟨b3,b4,b5,b6⟩:=y;obtain ⟨_,_,⟨f4,f5⟩,⟨f6,_⟩⟩:=hx;simp only at f4 f5 f6;simp only [Ss.Term.mk.injEq] at *
 have g5:a5.length<2^63:=by omega
 have g6:a6.length<2^63:=by omega
 refine jb (c:=jg Tryz.f38) Tryz.func38 rfl rfl (by simp [Tryz.ntmps38]) ?_;rw [Tryz.ntmps38];intro hwf
 by_cases h3:a3=b3
 ·by_cases h4:a4=b4
  ·repeat first|refine QG ?_|refine QY ?_ (r:=by conv=>lhs;simp[-List.map_set,QV,h3,h4])
   repeat refine QS ?_
   refine QP ?_ (r:=by conv=>lhs;simp[-List.map_set,QV,h3,h4]);refine jn rfl (JB a6 b6 g6) ?_
   by_cases h6:a6=b6
   ·by_cases hlm:a5.length=b5.length
    ·have hlm':(a5.length:Int)=(b5.length:Int):=by omega
     refine QM (by conv=>lhs;simp[-List.map_set,QV,h6,hlm,hlm']) ?_;refine QN ?_
     repeat first|refine QG ?_|refine QY ?_
     rw [show decide (a3=b3∧a4=b4∧a5=b5∧a6=b6)=eqF (fun x y=>decide (x=y)) a5 b5 by rw [jaD]; simp [h3,h4,h6]];generalize hp:(fun x y:Ss.Edge=>decide (x=y))=p
     repeat refine QS ?_
     refine je [2,3,5] rfl (fun c σ S' => ∃ (k:Nat),k≤a5.length∧c=a5.length-k∧eqF p (a5.drop k) (b5.drop k)=eqF p a5 b5∧σ=[(2, .ptr (lid S.nx 0) 0),(3, .ptr (lid S.nx 1) 0),(5,vnat k)]∧S'=St S [] [some (4,[vint b3,vint b4,vl jk a5,vl vint b6]),some (4,[vint b3,vint b4,vl jk b5,vl vint b6])]) a5.length ?_ ?_
     ·exact ⟨0,by omega,rfl,rfl,by simp [Fr.only],rfl⟩
     ·rintro c σ T ⟨k,hk,rfl,hd,rfl,rfl⟩
      by_cases hkt:k<a5.length
      ·have hkm:k<b5.length:=by omega
       have hw:=jo hkt g5;have hst:=eqF_one (p:=p) hkt hkm;have hfe:=f5 _ (List.getElem_mem hkt);obtain ⟨⟨x1,x2⟩,hx⟩ : ∃ x,a5[k]=x:=⟨_,rfl⟩
       obtain ⟨⟨y1,y2⟩,hy⟩ : ∃ y,b5[k]=y:=⟨_,rfl⟩
       rw [hx] at hfe;obtain ⟨_,⟨q1,_⟩⟩:=hfe;simp only at q1;rw [hx,hy] at hst;have hpp:p ⟨x1,x2⟩ ⟨y1,y2⟩=decide (x1=y1∧x2=y2):=by rw [←hp]; simp
       by_cases e1:x1=y1
       ·repeat first|refine QG ?_|refine QY ?_ (r:=by conv=>lhs;simp[-List.map_set,QV,hkt,hkm,hx,hy,e1])
        repeat refine QS ?_
        refine QD (r:=by conv=>lhs;simp[-List.map_set,QV,hkt,hkm,hx,hy,e1]) (k:=?_);refine jn rfl (JB x2 y2 (by omega)) ?_
        by_cases e2:x2=y2
        ·rw [hpp,show decide (x1=y1∧x2=y2)=true by simp [e1,e2]] at hst;refine QM (by conv=>lhs;simp[-List.map_set,QV,e2]) ?_;refine QN ?_
         repeat first|refine QG ?_|refine QY ?_
         show jx _ _ _ _ _ _ _;exact again ⟨Nat.sub_lt_sub_left hkt (Nat.lt_succ_self k),k+1,hkt,rfl,by rw [←hd,hst]; rfl,by simp [Fr.only,hw],rfl⟩
        ·rw [hpp,show decide (x1=y1∧x2=y2)=false by simp [e2]] at hst;refine QM (by conv=>lhs;simp[-List.map_set,QV,e2]) ?_;refine QN ?_
         repeat first|refine QG ?_|refine QY ?_
         exact ja hwf (by rw [←hd,hst]; rfl) rfl
       ·rw [hpp,show decide (x1=y1∧x2=y2)=false by simp [e1]] at hst
        repeat first|refine QG ?_|refine QY ?_ (r:=by conv=>lhs;simp[-List.map_set,QV,hkt,hkm,hx,hy,e1])
        exact ja hwf (by rw [←hd,hst]; rfl) rfl
      ·rw [eqF_end hkt hlm] at hd;have hkm : ¬ k<b5.length:=by omega
       repeat first|refine QG ?_|refine QY ?_ (r:=by conv=>lhs;simp[-List.map_set,QV,hkt,hkm])
       exact ja hwf (by rw [←hd]; rfl) rfl
    ·have hne : ¬ a5=b5:=by rintro rfl; exact hlm rfl
     have hlm' : ¬ (a5.length:Int)=(b5.length:Int):=by omega
     refine QM (by conv=>lhs;simp[-List.map_set,QV,h6,hlm,hlm']) ?_;refine QN ?_
     repeat first|refine QG ?_|refine QY ?_
     exact ja hwf (by simp [hne]) rfl
   ·refine QM (by conv=>lhs;simp[-List.map_set,QV,h6]) ?_;refine QN ?_
    repeat first|refine QG ?_|refine QY ?_
    exact ja hwf (by simp [h6]) rfl
  ·repeat first|refine QG ?_|refine QY ?_ (r:=by conv=>lhs;simp[-List.map_set,QV,h3,h4])
   exact ja hwf (by simp [h4]) rfl
 ·repeat first|refine QG ?_|refine QY ?_ (r:=by conv=>lhs;simp[-List.map_set,QV,h3])
  exact ja hwf (by simp [h3]) rfl
end Go.Vw

namespace Go.Vw
open Go.Proofs Go.RowKit
set_option maxRecDepth 10000
set_option maxHeartbeats 4000000
theorem RSame_v (f g:Ss.Fn) (hf:f.Fits) (hg:g.Fits):VPure Tryz.prog 11 [qD f,qD g] (.bool (f.small&&g.small&&decide (f=g))):=by
 intro S;have cf:=KQ f hf;have cg:=KQ g hg;obtain ⟨⟨⟨f1,_⟩,⟨f2,_⟩⟩,⟨f3,_⟩,⟨f4,f5⟩⟩:=hf;generalize f.small=sf at *
 generalize g.small=sg at *
 obtain ⟨⟨a1,a2⟩,a3,a4⟩:=f;obtain ⟨⟨b1,b2⟩,b3,b4⟩:=g;simp only at f1 f2 f3 f4 f5;simp only [Ss.Fn.mk.injEq];have cf':VPure Tryz.prog 35 [.agg [vl vint a1,vl vint a2,vl vint a3,vl jd a4]] (.bool sf):=cf;have cg':VPure Tryz.prog 35 [.agg [vl vint b1,vl vint b2,vl vint b3,vl jd b4]] (.bool sg):=cg;have cs:VPure Tryz.prog 36 [.agg [vl vint a1,vl vint a2], .agg [vl vint b1,vl vint b2]] (.bool (decide ((⟨a1,a2⟩:Ss.Sig)=⟨b1,b2⟩))):=SameSig_v ⟨a1,a2⟩ ⟨b1,b2⟩ (Nat.lt_of_le_of_lt f1 (by decide)) (Nat.lt_of_le_of_lt f2 (by decide));have g3:a3.length<2^63:=by omega
 have g4:a4.length<2^63:=by omega
 generalize hX:(sf&&sg&&decide ((⟨a1,a2⟩:Ss.Sig)=⟨b1,b2⟩∧a3=b3∧a4=b4))=X;generalize hse:decide ((⟨a1,a2⟩:Ss.Sig)=⟨b1,b2⟩)=se at cs;refine jb (c:=jg Tryz.f11) Tryz.func11 rfl rfl (by simp [Tryz.ntmps11]) ?_;rw [Tryz.ntmps11];intro hwf
 repeat first|refine QG ?_|refine QY ?_
 repeat refine QS ?_
 refine QP ?_;refine jc (cf') (by rfl) ?_
 by_cases hsf:sf=true
 case neg =>
  have hsf':sf=false:=by simpa using hsf
  refine QM (by conv=>lhs;simp[-List.map_set,QV,hsf']) ?_;refine QN ?_
  repeat first|refine QG ?_|refine QY ?_
  exact ja hwf (by simp [←hX,hsf']) rfl
 refine QM (by conv=>lhs;simp[-List.map_set,QV,hsf]) ?_;refine jc (cg') (by rfl) ?_
 by_cases hsg:sg=true
 case neg =>
  have hsg':sg=false:=by simpa using hsg
  refine QM (by conv=>lhs;simp[-List.map_set,QV,hsg']) ?_;refine QN ?_
  repeat first|refine QG ?_|refine QY ?_
  exact ja hwf (by simp [←hX,hsf,hsg']) rfl
 refine QM (by conv=>lhs;simp[-List.map_set,QV,hsg]) ?_;refine jc (cs) (by rfl) ?_
 by_cases hs:se=true
 case neg =>
  have hs':se=false:=by simpa using hs
  have hne : ¬ ((⟨a1,a2⟩:Ss.Sig)=⟨b1,b2⟩):=by rw [hs'] at hse; simpa using hse
  have hX':X=false:=by rw [←hX]; simp only [decide_eq_false (fun h:_∧_∧_=>hne h.1)]; simp
  refine QM (by conv=>lhs;simp[-List.map_set,QV,hs']) ?_;refine QN ?_
  repeat first|refine QG ?_|refine QY ?_
  exact ja hwf (by simp [hX']) rfl
 have hse':(⟨a1,a2⟩:Ss.Sig)=⟨b1,b2⟩:=by rw [hs] at hse; simpa using hse
 refine QM (by conv=>lhs;simp[-List.map_set,QV,hs]) ?_;refine jc (JB a3 b3 g3) (by rfl) ?_
 by_cases h3:a3=b3
 case neg =>
  have hX':X=false:=by rw [←hX]; simp only [decide_eq_false (fun h:_∧_∧_=>h3 h.2.1)]; simp
  refine QM (by conv=>lhs;simp[-List.map_set,QV,h3]) ?_;refine QN ?_
  repeat first|refine QG ?_|refine QY ?_
  exact ja hwf (by simp [hX']) rfl
 by_cases hlm:a4.length=b4.length
 case neg =>
  have hlm' : ¬ (a4.length:Int)=(b4.length:Int):=by omega
  have hne : ¬ a4=b4:=by rintro rfl; exact hlm rfl
  have hX':X=false:=by rw [←hX]; simp only [decide_eq_false (fun h:_∧_∧_=>hne h.2.2)]; simp
  refine QM (by conv=>lhs;simp[-List.map_set,QV,h3,hlm,hlm']) ?_;refine QN ?_
  repeat first|refine QG ?_|refine QY ?_
  exact ja hwf (by simp [hX']) rfl
 have hlm':(a4.length:Int)=(b4.length:Int):=by omega
 have hXe:X=eqF (fun x y=>decide (x=y)) a4 b4:=by
  rw [←hX,jaD,hsf,hsg]
  by_cases h4:a4=b4
  ·simp [h3,h4,hse']
  ·simp [h4]
 generalize hp:(fun x y:Ss.Block=>decide (x=y))=p at hXe;refine QM (by conv=>lhs;simp[-List.map_set,QV,h3,hlm,hlm']) ?_;refine QN ?_
 repeat first|refine QG ?_|refine QY ?_
 repeat refine QS ?_
 refine je [2,3,5] rfl (fun c σ S' => ∃ (k:Nat),k≤a4.length∧c=a4.length-k∧eqF p (a4.drop k) (b4.drop k)=X∧σ=[(2, .ptr (lid S.nx 0) 0),(3, .ptr (lid S.nx 1) 0),(5,vnat k)]∧S'=St S [] [some (4,[vl vint a1,vl vint a2,vl vint b3,vl jd a4]),some (4,[vl vint b1,vl vint b2,vl vint b3,vl jd b4])]) a4.length ?_ ?_
 ·exact ⟨0,by omega,rfl,by rw [hXe]; rfl,by simp [Fr.only],by simp [h3]⟩
 ·rintro c σ T ⟨k,hk,rfl,hd,rfl,rfl⟩
  by_cases hkt:k<a4.length
  ·have hkm:k<b4.length:=by omega
   have hw:=jo hkt g4;have hst:=eqF_one (p:=p) hkt hkm;have hbf:=f5 _ (List.getElem_mem hkt);obtain ⟨⟨x1,x2,x3⟩,hx⟩ : ∃ x,a4[k]=x:=⟨_,rfl⟩
   obtain ⟨⟨y1,y2,y3⟩,hy⟩ : ∃ y,b4[k]=y:=⟨_,rfl⟩
   rw [hx] at hbf;have ct:=sameTerm_v x3 y3 hbf.2.2;obtain ⟨⟨q1,_⟩,⟨q2,q3⟩,_⟩:=hbf;simp only at q1 q2 q3;rw [hx,hy] at hst;have hpp:p ⟨x1,x2,x3⟩ ⟨y1,y2,y3⟩=decide (x1=y1∧x2=y2∧x3=y3):=by rw [←hp]; simp
   have r1:x1.length<2^63:=by omega
   have r2:x2.length<2^63:=by omega
   obtain ⟨x3,x4,x5,x6⟩:=x3;obtain ⟨y3,y4,y5,y6⟩:=y3;generalize hT:decide ((⟨x3,x4,x5,x6⟩:Ss.Term)=⟨y3,y4,y5,y6⟩)=te at ct;have ct':VPure Tryz.prog 38 [.agg [.int .i64 x3, .int .i64 x4,vl jk x5,vl vint x6], .agg [.int .i64 y3, .int .i64 y4,vl jk y5,vl vint y6]] (.bool te):=ct;have bad : ¬ (x1=y1∧x2=y2∧(⟨x3,x4,x5,x6⟩:Ss.Term)=⟨y3,y4,y5,y6⟩)→X=false:=by
    intro hn;rw [←hd,hst,hpp,decide_eq_false hn]; rfl
   repeat first|refine QG ?_|refine QY ?_ (r:=by conv=>lhs;simp[-List.map_set,QV,hkt,hkm,hx,hy])
   repeat refine QS ?_
   refine KG (σm := ?sm) (Sm := ?Sm) (ZZ.mk _ (St S [] [some (4,[vl vint a1,vl vint a2,vl vint b3,vl jd a4]),some (4,[vl vint b1,vl vint b2,vl vint b3,vl jd b4])]) (St S [] [some (4,[vl vint a1,vl vint a2,vl vint b3,vl jd a4]),some (4,[vl vint b1,vl vint b2,vl vint b3,vl jd b4])]) []) 10 11 [0,1,2,3,4,5,6,7,8,9,10,11,12,13] [0,1,2,3,4,5,6,7,8,9,11,10,12,13] rfl (by kernel_rfl) (by conv=>lhs; reduce) (by kernel_rfl) (by decide) (by kernel_rfl) (by kernel_rfl) (by kernel_rfl) (by kernel_rfl) (by kernel_rfl) (by kernel_rfl) rfl (jv (by simp [subU,shpU,subL,shpL])) (Store.sub_refl _) (by conv=>lhs; reduce) (by conv=>lhs; reduce) ?H1 ?H2 ?H3
   case H1 =>
    refine QM (by conv=>lhs;simp[-List.map_set,QV,hkt,hkm,hx,hy]) ?_;refine jf rfl (by conv=>lhs;simp[-List.map_set,QV]) (jv (by simp [subU,shpU,subL,shpL])) ?_;refine jf rfl (by conv=>lhs;simp[-List.map_set,QV]) (jv (by simp [subU,shpU,subL,shpL])) ?_;refine jf rfl (by conv=>lhs;simp[-List.map_set,QV]) (jv (by simp [subU,shpU,subL,shpL])) ?_;refine jf rfl (by conv=>lhs;simp[-List.map_set,QV]) (jv (by simp [subU,shpU,subL,shpL])) ?_;refine QN ?_;refine zD [2,3,5,6,7] (Eq.trans (b := ?_) ?_ rfl)
    rotate_left
    conv=>lhs; simp [Fr.only,Fr.look]
   case H2 =>
    refine QM (by conv=>lhs;simp[-List.map_set,QV,hkt,hkm,hx,hy]) ?_;refine jf rfl (by conv=>lhs;simp[-List.map_set,QV]) (jv (by simp [subU,shpU,subL,shpL])) ?_;refine jf rfl (by conv=>lhs;simp[-List.map_set,QV]) (jv (by simp [subU,shpU,subL,shpL])) ?_;refine jf rfl (by conv=>lhs;simp[-List.map_set,QV]) (jv (by simp [subU,shpU,subL,shpL])) ?_;refine jf rfl (by conv=>lhs;simp[-List.map_set,QV]) (jv (by simp [subU,shpU,subL,shpL])) ?_;refine QN ?_;exact zV [2,3,5,6,7] [0,1,3,2] (by conv=>lhs; simp [Fr.only,Fr.look]) hwf (by decide) (by simp [-List.map_set]) (by conv=>lhs; simp [-List.map_set]) (by conv=>lhs; simp [-List.map_set]) (by conv=>lhs; simp [-List.map_set])
   repeat first|refine QG ?_|refine QY ?_
   repeat refine QS ?_
   refine QP ?_;refine jc (JB x1 y1 r1) (by rfl) ?_
   by_cases e1:x1=y1
   case neg =>
    refine QM (by conv=>lhs;simp[-List.map_set,QV,e1]) ?_;refine QN ?_
    repeat first|refine QG ?_|refine QY ?_
    exact ja hwf (by have hb:=bad (fun h=>e1 h.1); simp [hb]) rfl
   by_cases e2:x2.length=y2.length
   case neg =>
    have e2' : ¬ (x2.length:Int)=(y2.length:Int):=by omega
    refine QM (by conv=>lhs;simp[-List.map_set,QV,e1,e2,e2']) ?_;refine QN ?_
    repeat first|refine QG ?_|refine QY ?_
    exact ja hwf (by have hb:=bad (fun h=>e2 (by rw [h.2.1])); simp [hb]) rfl
   have e2':(x2.length:Int)=(y2.length:Int):=by omega
   refine QM (by conv=>lhs;simp[-List.map_set,QV,e1,e2,e2']) ?_;refine jc (ct') (by rfl) ?_
   by_cases hte:te=true
   case neg =>
    have hte':te=false:=by simpa using hte
    refine QM (by conv=>lhs;simp[-List.map_set,QV,hte']) ?_;refine QN ?_
    repeat first|refine QG ?_|refine QY ?_
    exact ja hwf (by have hb:=bad (fun h=>by rw [hte'] at hT; simp only [decide_eq_false_iff_not] at hT; exact hT h.2.2); simp [hb]) rfl
   have hTe:(⟨x3,x4,x5,x6⟩:Ss.Term)=⟨y3,y4,y5,y6⟩:=by rw [hte] at hT; simpa using hT
   refine QM (by conv=>lhs;simp[-List.map_set,QV,hte]) ?_;refine QN ?_
   repeat first|refine QG ?_|refine QY ?_
   have hce:p ⟨x1,x2,⟨x3,x4,x5,x6⟩⟩ ⟨y1,y2,⟨y3,y4,y5,y6⟩⟩=eqF (fun x y=>decide (x=y)) x2 y2:=by
    rw [hpp,jaD]
    by_cases h4:x2=y2
    ·simp only [e1,h4,hTe,and_self]
    ·simp [h4]
   generalize hq:(fun x y:Ss.Ins=>decide (x=y))=q at hce
   repeat refine QS ?_
   refine je [2,3,5,6,7,8] rfl (fun c σ S' => ∃ (j:Nat),j≤x2.length∧c=x2.length-j∧eqF q (x2.drop j) (y2.drop j)=eqF q x2 y2∧σ=[(2, .ptr (lid S.nx 0) 0),(3, .ptr (lid S.nx 1) 0),(5,vnat k),(6, .ptr (lid S.nx 2) 0),(7, .ptr (lid S.nx 3) 0),(8,vnat j)]∧S'=St S [] [some (4,[vl vint a1,vl vint a2,vl vint b3,vl jd a4]),some (4,[vl vint b1,vl vint b2,vl vint b3,vl jd b4]),some (6,[vl vint x1,vl jm x2, .int .i64 x3, .int .i64 x4,vl jk x5,vl vint x6]),some (6,[vl vint y1,vl jm y2, .int .i64 y3, .int .i64 y4,vl jk y5,vl vint y6])]) x2.length ?_ ?_
   ·exact ⟨0,by omega,rfl,rfl,by simp [Fr.only],by simp [e1]⟩
   ·rintro c σ T ⟨j,hj,rfl,hdj,rfl,rfl⟩
    by_cases hjt:j<x2.length
    ·have hjm:j<y2.length:=by omega
     have hwj:=jo hjt r2;have hsj:=eqF_one (p:=q) hjt hjm;have hif:=q3 _ (List.getElem_mem hjt);obtain ⟨⟨u1,u2,u3,u4⟩,hu⟩ : ∃ x,x2[j]=x:=⟨_,rfl⟩
     obtain ⟨⟨v1,v2,v3,v4⟩,hv⟩ : ∃ x,y2[j]=x:=⟨_,rfl⟩
     rw [hu] at hif;have ci:=SameIns_v ⟨u1,u2,u3,u4⟩ ⟨v1,v2,v3,v4⟩ (Nat.lt_of_le_of_lt hif.2.2.1.1 (by decide)) (Nat.lt_of_le_of_lt hif.2.2.2.1 (by decide));rw [hu,hv,show q ⟨u1,u2,u3,u4⟩ ⟨v1,v2,v3,v4⟩=decide ((⟨u1,u2,u3,u4⟩:Ss.Ins)=⟨v1,v2,v3,v4⟩) by rw [←hq]] at hsj;generalize decide ((⟨u1,u2,u3,u4⟩:Ss.Ins)=⟨v1,v2,v3,v4⟩)=ie at hsj ci;have ci':VPure Tryz.prog 39 [.agg [.int .i64 u1, .int .u64 u2,vl vint u3,vl vint u4], .agg [.int .i64 v1, .int .u64 v2,vl vint v3,vl vint v4]] (.bool ie):=ci
     repeat first|refine QG ?_|refine QY ?_ (r:=by conv=>lhs;simp[-List.map_set,QV,hjt,hjm,hu,hv])
     repeat refine QS ?_
     refine QD (r:=by conv=>lhs;simp[-List.map_set,QV,hjt,hjm,hu,hv]) (k:=?_);refine jc (ci') (by rfl) ?_
     by_cases hie:ie=true
     ·refine QM (by conv=>lhs;simp[-List.map_set,QV,hie]) ?_;refine QN ?_
      repeat first|refine QG ?_|refine QY ?_
      show jx _ _ _ _ _ _ _;exact again ⟨Nat.sub_lt_sub_left hjt (Nat.lt_succ_self j),j+1,hjt,rfl,by rw [←hdj,hsj,hie]; rfl,by simp [Fr.only,hwj],rfl⟩
     ·have hie':ie=false:=by simpa using hie
      refine QM (by conv=>lhs;simp[-List.map_set,QV,hie']) ?_;refine QN ?_
      repeat first|refine QG ?_|refine QY ?_
      exact ja hwf (by rw [←hd,hst,hce, ←hdj,hsj,hie']; rfl) rfl
    ·rw [eqF_end hjt e2] at hdj;have hjm : ¬ j<y2.length:=by omega
     repeat first|refine QG ?_|refine QY ?_ (r:=by conv=>lhs;simp[-List.map_set,QV,hjt,hjm])
     refine QA [0,1] (h:=⟨?_,k+1,hkt,rfl,by rw [←hd,hst,hce, ←hdj]; rfl,by simp [hw],rfl⟩);omega
  ·rw [eqF_end hkt hlm] at hd;have hkm : ¬ k<b4.length:=by omega
   repeat first|refine QG ?_|refine QY ?_ (r:=by conv=>lhs;simp[-List.map_set,QV,hkt,hkm])
   exact ja hwf (by simp [←hd]) rfl
end Go.Vw

namespace Ss
end Ss
namespace Go.Vw
open Go.Proofs Go.RowKit
set_option maxRecDepth 10000
set_option maxHeartbeats 2000000
theorem fn_ghostD {S:Store} {fi fo ts:List Int} {bs:List Ss.Block} {cells:List V} {ot ob n m:Nat} {ids:List Nat} (h:OwL S (reps n blkD) cells (jh jd bs) ids) (hb:S.get ob=some (6,cells)) (hn:bs.length=n) (ht:S.get ot=some (1,ts.map vint)) (hm:ts.length=m) (hd:(ot::ob::ids).Nodup) :
  Ghost (.agg [vl vint fi,vl vint fo, .slice ot 0 m, .slice ob 0 n]) S (.agg [vl vint fi,vl vint fo,vl vint ts,vl jd bs]) (S.dels (ot::ob::ids)):=by
 subst hn;subst hm;refine ghost_agg ?_;have hw:OwL S [.c, .c, .s (List.replicate 1 .c), .s blkD] [vl vint fi,vl vint fo, .slice ot 0 ts.length, .slice ob 0 bs.length] [vl vint fi,vl vint fo,vl vint ts,vl jd bs] (ot::ob::ids):=by
  refine .c rfl (.c rfl (OwL.slice (enc:=vint) (fun _=>rfl) (fun _=>rfl) ts (by rw [qI]; exact ht) ?_));have:=OwL.s (S:=S) (o:=ob) (tys:=blkD) (cells:=cells) (ys:=bs.map jd) (i:=ids) (j:=[]) hb (fun y hy=>(by
   obtain ⟨b,_,rfl⟩:=List.mem_map.1 hy;exact ⟨by rw [jK]; rfl,JA b⟩)) (by rw [List.length_map,qT]; exact h) .nil
  rw [List.length_map,List.append_nil] at this;exact this
 exact hw.freeze hd S fun _ _=>rfl
end Go.Vw

namespace Go.Vw
open Go.Proofs Go.RowKit
set_option maxRecDepth 10000
set_option maxHeartbeats 2000000
end Go.Vw

namespace Ss
def emptyFn:Fn:=⟨⟨[],[]⟩,[],[]⟩
noncomputable def bceF (f:Fn):Fn:=pbce (Go.Vw.G.rNear (Go.Vw.G.nats (succs f.blocks))) (Go.Vw.G.order (Go.Vw.G.nats (succs f.blocks))) f
noncomputable def bceOut (e:Env) (f:Fn):Fn × Int:=if check e f then (bceF f,0) else (emptyFn,6)
end Ss
namespace Go.Vw
open Go.Proofs Go.RowKit
set_option maxRecDepth 10000
set_option maxHeartbeats 2000000
theorem jaE (S:Store):Ghost (.agg [.nils, .nils, .nils, .nils]) S (qD Ss.emptyFn) S:=by
 refine Ghost.agg_nl rfl fun i x y hx hy => ?_
 match i,hx,hy with
 | 0,hx,hy=>cases hx; cases hy; exact .inr ⟨rfl,rfl⟩
 | 1,hx,hy=>cases hx; cases hy; exact .inr ⟨rfl,rfl⟩
 | 2,hx,hy=>cases hx; cases hy; exact .inr ⟨rfl,rfl⟩
 | 3,hx,hy=>cases hx; cases hy; exact .inr ⟨rfl,rfl⟩
end Go.Vw

namespace Go.Vw
open Go.Proofs Go.RowKit
set_option maxRecDepth 10000
set_option maxHeartbeats 2000000
theorem rkind_v (t:Int):VPure Tryz.prog 85 [vint t] (.bool (Ss.isKind t)):=by
 intro S;refine jb (c:=jg Tryz.f85) Tryz.func85 rfl rfl (by simp [Tryz.ntmps85]) ?_;rw [Tryz.ntmps85];intro hwf
 by_cases h:t=127
 ·repeat first|refine QG ?_|refine QY ?_ (r:=by conv=>lhs;simp[-List.map_set,QV,h])
  exact ja hwf (by simp [Ss.isKind,h]) rfl
 ·repeat first|refine QG ?_|refine QY ?_ (r:=by conv=>lhs;simp[-List.map_set,QV,h])
  exact ja hwf (by simp [Ss.isKind,h]) rfl
theorem Zr (most:Nat) (l:List Int) (hl:l.length<2^63):VPure Tryz.prog 42 [vl vint l,vnat most] (.bool (Ss.kinds most l)):=by
 intro S
 by_cases h:l.length≤most
 case neg =>
  have h':(most:Int)<(l.length:Int):=by omega
  have hX:Ss.kinds most l=false:=by simp [Ss.kinds,h]
  rw [hX];refine jb (c:=jg Tryz.f42) Tryz.func42 rfl rfl (by simp [Tryz.ntmps42]) ?_;rw [Tryz.ntmps42];intro hwf
  repeat first|refine QG ?_|refine QY ?_ (r:=by conv=>lhs;simp[-List.map_set,QV,h,h'])
  exact ja hwf rfl rfl
 have h' : ¬ (most:Int)<(l.length:Int):=by omega
 have hX:Ss.kinds most l=l.all Ss.isKind:=by simp [Ss.kinds,h]
 rw [hX];refine jb (c:=jg Tryz.f42) Tryz.func42 rfl rfl (by simp [Tryz.ntmps42]) ?_;rw [Tryz.ntmps42];intro hwf
 repeat first|refine QG ?_|refine QY ?_ (r:=by conv=>lhs;simp[-List.map_set,QV,h,h'])
 repeat refine QS ?_
 refine je [0,5] rfl (fun c σ S' => ∃ (k:Nat),k≤l.length∧c=l.length-k∧(l.drop k).all Ss.isKind=l.all Ss.isKind∧σ=[(0,vl vint l),(5,vnat k)]∧S'=St S [] []) l.length ?_ ?_
 ·exact ⟨0,by omega,rfl,rfl,by simp [Fr.only],rfl⟩
 ·rintro c σ T ⟨k,hk,rfl,hd,rfl,rfl⟩
  by_cases hkt:k<l.length
  ·have hst:=Ss.drop_all Ss.isKind hkt;have hw:=jo hkt hl
   repeat first|refine QG ?_|refine QY ?_ (r:=by conv=>lhs;simp[-List.map_set,QV,hkt])
   repeat refine QS ?_
   refine QP ?_ (r:=by conv=>lhs;simp[-List.map_set,QV,hkt]);refine jc (rkind_v l[k]) (by rfl) ?_;generalize Ss.isKind l[k]=z at *
   by_cases hz:z=true
   ·refine QM (by conv=>lhs;simp[-List.map_set,QV,hz]) ?_;refine QN ?_
    repeat first|refine QG ?_|refine QY ?_ (r:=by conv=>lhs;simp[-List.map_set,QV,hw,hkt])
    show jx _ _ _ _ _ _ _;exact again ⟨by omega,k+1,by omega,rfl,by rw [←hd,hst,hz,Bool.true_and],by simp [Fr.only],rfl⟩
   ·have hz':z=false:=by simpa using hz
    refine QM (by conv=>lhs;simp[-List.map_set,QV,hz']) ?_;refine QN ?_
    repeat first|refine QG ?_|refine QY ?_
    rw [←hd,hst,hz',Bool.false_and];exact ja hwf rfl rfl
  ·repeat first|refine QG ?_|refine QY ?_ (r:=by conv=>lhs;simp[-List.map_set,QV,hkt])
   rw [←hd,Ss.drop_all_end _ hkt];exact ja hwf rfl rfl
theorem rsig_v (s:Ss.Sig) (hs:s.Fits):VPure Tryz.prog 43 [jR s] (.bool s.right):=by
 intro S;obtain ⟨⟨h1,_⟩,⟨h2,_⟩⟩:=hs;obtain ⟨a,b⟩:=s;simp only at h1 h2;have hX:Ss.Sig.right ⟨a,b⟩=(Ss.kinds 8 a&&Ss.kinds 8 b):=rfl;rw [hX];have c1:VPure Tryz.prog 42 [vl vint a, .int .i64 8] (.bool (Ss.kinds 8 a)):=Zr 8 a (by omega);have c2:VPure Tryz.prog 42 [vl vint b, .int .i64 8] (.bool (Ss.kinds 8 b)):=Zr 8 b (by omega);generalize Ss.kinds 8 a=x at *
 generalize Ss.kinds 8 b=y at *
 refine jb (c:=jg Tryz.f43) Tryz.func43 rfl rfl (by simp [Tryz.ntmps43]) ?_;rw [Tryz.ntmps43];intro hwf
 repeat first|refine QG ?_|refine QY ?_
 repeat refine QS ?_
 refine QP ?_;refine jc (c1) (by rfl) ?_
 by_cases hx:x=true
 ·refine QM (by conv=>lhs;simp[-List.map_set,QV,hx]) ?_;refine jc (c2) (by rfl) ?_;refine QW ?_
  repeat first|refine QG ?_|refine QY ?_
  exact ja hwf (by simp [hx]) rfl
 ·have hx':x=false:=by simpa using hx
  refine QM (by conv=>lhs;simp[-List.map_set,QV,hx']) ?_;refine QN ?_
  repeat first|refine QG ?_|refine QY ?_
  exact ja hwf (by simp [hx']) rfl
theorem REnvRight_v (e:Ss.Env) (he:e.Fits):VPure Tryz.prog 41 [zl e] (.bool e.right):=by
 intro S;obtain ⟨⟨h1,h2⟩,_,⟨h4,_⟩,h5⟩:=he;obtain ⟨sg,im,gl,mu,me⟩:=e;simp only at h1 h2 h4 h5;have hX:Ss.Env.right ⟨sg,im,gl,mu,me⟩=(decide (0≤im)&&decide (im≤sg.length)&&decide (sg.length≤64)&&decide (mu.length=gl.length)&&Ss.kinds 32 gl&&sg.all Ss.Sig.right):=rfl;rw [hX];have c1:VPure Tryz.prog 42 [vl vint gl, .int .i64 32] (.bool (Ss.kinds 32 gl)):=Zr 32 gl (by omega);generalize Ss.kinds 32 gl=x at *
 refine jb (c:=jg Tryz.f41) Tryz.func41 rfl rfl (by simp [Tryz.ntmps41]) ?_;rw [Tryz.ntmps41];intro hwf
 by_cases k3:(64:Int)<(sg.length:Int)
 ·repeat first|refine QG ?_|refine QY ?_ (r:=by conv=>lhs;simp[-List.map_set,QV,k3])
  exact ja hwf (by simp; omega) rfl
 by_cases k1:im<0
 ·repeat first|refine QG ?_|refine QY ?_ (r:=by conv=>lhs;simp[-List.map_set,QV,k1,k3])
  exact ja hwf (by simp; omega) rfl
 by_cases k2:(sg.length:Int)<im
 ·repeat first|refine QG ?_|refine QY ?_ (r:=by conv=>lhs;simp[-List.map_set,QV,k1,k2,k3])
  exact ja hwf (by simp; omega) rfl
 repeat first|refine QG ?_|refine QY ?_ (r:=by conv=>lhs;simp[-List.map_set,QV,k1,k2,k3])
 repeat refine QS ?_
 refine QP ?_ (r:=by conv=>lhs;simp[-List.map_set,QV,k1,k2,k3]);refine jc (c1) (by rfl) ?_
 by_cases hx:x=true
 case neg =>
  have hx':x=false:=by simpa using hx
  refine QM (by conv=>lhs;simp[-List.map_set,QV,hx']) ?_;refine QN ?_
  repeat first|refine QG ?_|refine QY ?_
  exact ja hwf (by simp [hx']) rfl
 by_cases k4:mu.length=gl.length
 case neg =>
  have k4' : ¬ (mu.length:Int)=(gl.length:Int):=by omega
  refine QM (by conv=>lhs;simp[-List.map_set,QV,hx,k4,k4']) ?_;refine QN ?_
  repeat first|refine QG ?_|refine QY ?_
  exact ja hwf (by simp [k4]) rfl
 have k4':(mu.length:Int)=(gl.length:Int):=by omega
 have hp:(decide (0≤im)&&decide (im≤sg.length)&&decide (sg.length≤64)&&decide (mu.length=gl.length))=true:=by simp [k4]; omega
 rw [hp,hx];refine QM (by conv=>lhs;simp[-List.map_set,QV,hx,k4,k4']) ?_;refine QN ?_
 repeat first|refine QG ?_|refine QY ?_
 have hl:sg.length<2^63:=by omega
 rw [Bool.true_and,Bool.true_and]
 repeat refine QS ?_
 refine je [1,3] rfl (fun c σ S' => ∃ (k:Nat),k≤sg.length∧c=sg.length-k∧(sg.drop k).all Ss.Sig.right=sg.all Ss.Sig.right∧σ=[(1, .ptr (lid S.nx 0) 0),(3,vnat k)]∧S'=St S [] [some (5,[vl jR sg,vint im,vl vint gl,vl V.bool mu, .bool me])]) sg.length ?_ ?_
 ·exact ⟨0,by omega,rfl,rfl,by simp [Fr.only],rfl⟩
 ·rintro c σ T ⟨k,hk,rfl,hd,rfl,rfl⟩
  by_cases hkt:k<sg.length
  ·have hst:=Ss.drop_all Ss.Sig.right hkt;have hw:=jo hkt hl;have c2:=rsig_v sg[k] (h2 _ (List.getElem_mem hkt));generalize hz0:Ss.Sig.right sg[k]=z at *
   obtain ⟨⟨a,b⟩,hb⟩ : ∃ s,sg[k]=s:=⟨_,rfl⟩
   rw [hb] at c2;have c2':VPure Tryz.prog 43 [.agg [vl vint a,vl vint b]] (.bool z):=c2
   repeat first|refine QG ?_|refine QY ?_ (r:=by conv=>lhs;simp[-List.map_set,QV,hkt])
   repeat refine QS ?_
   refine QP ?_ (r:=by conv=>lhs;simp[-List.map_set,QV,hkt,hb]);refine jc (c2') (by rfl) ?_
   by_cases hz:z=true
   ·refine QM (by conv=>lhs;simp[-List.map_set,QV,hz]) ?_;refine QN ?_
    repeat first|refine QG ?_|refine QY ?_ (r:=by conv=>lhs;simp[-List.map_set,QV,hw,hkt])
    show jx _ _ _ _ _ _ _;exact again ⟨by omega,k+1,by omega,rfl,by rw [←hd,hst,hz,Bool.true_and],by simp [Fr.only],rfl⟩
   ·have hz':z=false:=by simpa using hz
    refine QM (by conv=>lhs;simp[-List.map_set,QV,hz']) ?_;refine QN ?_
    repeat first|refine QG ?_|refine QY ?_
    rw [←hd,hst,hz',Bool.false_and];exact ja hwf rfl rfl
  ·repeat first|refine QG ?_|refine QY ?_ (r:=by conv=>lhs;simp[-List.map_set,QV,hkt])
   rw [←hd,Ss.drop_all_end _ hkt];exact ja hwf rfl rfl
end Go.Vw
