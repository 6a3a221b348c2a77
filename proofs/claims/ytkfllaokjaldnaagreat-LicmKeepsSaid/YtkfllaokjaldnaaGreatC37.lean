import Derived.Test.YtkfllaokjaldnaaGreatC19
import Derived.Test.YtkfllaokjaldnaaGreatC20
import Derived.Test.YtkfllaokjaldnaaGreatC36
import Derived.Test.YtkfllaokjaldnaaGreatC27
/-
  Part of the proof (texts CNum, CMem, CForm, CIns).
-/
set_option linter.unusedVariables false
set_option linter.unusedSimpArgs false
namespace Ss
def rin (op a b:Int):Bool:=decide (a≤op)&&decide (op≤b)
def rof (op:Int):Int :=
 if rin op 69 79∨rin op 103 120∨op=172∨op=173∨op=192∨op=193 then 127
 else if rin op 80 90∨rin op 121 138∨op=167∨rin op 194 196 then 126 else 0
def runary (op:Int):Bool:=decide (op=69)||(decide (op=80)||(rin op 103 105||(rin op 121 123||decide (167≤op))))
def rsigT (op:Int):Int:=if op=172∨op=173 then 126 else if rin op 69 90∨op=167 then 127 else rof op
def rsig (op:Int):List Int × Int × Bool :=
 if rof op=0 then ([],0,false) else (if runary op then [rof op] else [rof op,rof op],rsigT op,true)
theorem rsig_small : ∀ n:Nat,n<256→rsig (n:Int)=numSig (n:Int):=by decide +kernel
theorem rsig_eq (op:Int):rsig op=numSig op:=by
 by_cases h:0≤op∧op<256
 ·obtain ⟨n,rfl⟩:=Int.eq_ofNat_of_zero_le h.1;exact rsig_small n (by have:=h.2; omega)
 ·have h1:rof op=0:=by
   unfold rof;rw [if_neg (by simp only [rin,Bool.and_eq_true,decide_eq_true_eq]; omega),if_neg (by simp only [rin,Bool.and_eq_true,decide_eq_true_eq]; omega)]
  have h2:find op=none:=by
   cases hf:find op with
   | none=>rfl
   | some g =>
    exfalso
    obtain ⟨hm,hh⟩:=jbl hf;have ha : ∀ g∈groups,0≤g.first∧g.first+g.many≤256:=by decide +kernel
    have:=ha g hm;simp only [Grp.has,Bool.and_eq_true,decide_eq_true_eq] at hh;omega
  simp [rsig,h1,numSig,h2]
end Ss
namespace Go.Vw
open Go.Proofs Go.RowKit
set_option maxRecDepth 10000
set_option maxHeartbeats 2000000
theorem in_v (op a b:Int):VPure Tryz.prog 126 [vint op,vint a,vint b] (.bool (Ss.rin op a b)):=by
 intro S
 by_cases h:a≤op
 ·have hX:Ss.rin op a b=decide (op≤b):=by simp [Ss.rin,h]
  rw [hX];refine jb (c:=jg Tryz.f126) Tryz.func126 rfl rfl (by simp [Tryz.ntmps126]) ?_;rw [Tryz.ntmps126];intro hwf
  repeat first|refine QG ?_|refine QY ?_ (r:=by conv=>lhs;simp[-List.map_set,QV,h])
  exact ja hwf (by simp) rfl
 ·have hX:Ss.rin op a b=false:=by simp [Ss.rin,h]
  rw [hX];refine jb (c:=jg Tryz.f126) Tryz.func126 rfl rfl (by simp [Tryz.ntmps126]) ?_;rw [Tryz.ntmps126];intro hwf
  repeat first|refine QG ?_|refine QY ?_ (r:=by conv=>lhs;simp[-List.map_set,QV,h])
  exact ja hwf (by simp) rfl
theorem Fits_v (t n:Int):VPure Tryz.prog 91 [vint t,vu n] (.bool (decide (t=126)||(decide (t=127)&&decide (n<4294967296)))):=by
 intro S;refine jb (c:=jg Tryz.f91) Tryz.func91 rfl rfl (by simp [Tryz.ntmps91]) ?_;rw [Tryz.ntmps91];intro hwf
 by_cases h:t=126
 ·repeat first|refine QG ?_|refine QY ?_ (r:=by conv=>lhs;simp[-List.map_set,QV,h])
  exact ja hwf (by simp [h]) rfl
 by_cases h2:t=127
 ·repeat first|refine QG ?_|refine QY ?_ (r:=by conv=>lhs;simp[-List.map_set,QV,h,h2])
  exact ja hwf (by simp [h,h2]) rfl
 ·repeat first|refine QG ?_|refine QY ?_ (r:=by conv=>lhs;simp[-List.map_set,QV,h,h2])
  exact ja hwf (by simp [h,h2]) rfl
theorem Of_v (op:Int):VPure Tryz.prog 125 [vint op] (vint (Ss.rof op)):=by
 intro S;have c1:VPure Tryz.prog 126 [vint op, .int .i64 69, .int .i64 79] (.bool (Ss.rin op 69 79)):=in_v op 69 79;have c2:VPure Tryz.prog 126 [vint op, .int .i64 103, .int .i64 120] (.bool (Ss.rin op 103 120)):=in_v op 103 120;have c3:VPure Tryz.prog 126 [vint op, .int .i64 80, .int .i64 90] (.bool (Ss.rin op 80 90)):=in_v op 80 90;have c4:VPure Tryz.prog 126 [vint op, .int .i64 121, .int .i64 138] (.bool (Ss.rin op 121 138)):=in_v op 121 138;have c5:VPure Tryz.prog 126 [vint op, .int .i64 194, .int .i64 196] (.bool (Ss.rin op 194 196)):=in_v op 194 196;have hX:Ss.rof op=if Ss.rin op 69 79∨Ss.rin op 103 120∨op=172∨op=173∨op=192∨op=193 then 127
  else if Ss.rin op 80 90∨Ss.rin op 121 138∨op=167∨Ss.rin op 194 196 then 126 else 0:=rfl
 rw [hX];generalize Ss.rin op 69 79=x1 at *
 generalize Ss.rin op 103 120=x2 at *
 generalize Ss.rin op 80 90=x3 at *
 generalize Ss.rin op 121 138=x4 at *
 generalize Ss.rin op 194 196=x5 at *
 clear hX;refine jb (c:=jg Tryz.f125) Tryz.func125 rfl rfl (by simp [Tryz.ntmps125]) ?_;rw [Tryz.ntmps125];intro hwf
 repeat first|refine QG ?_|refine QY ?_
 repeat refine QS ?_
 refine QP ?_;refine jc (c1) (by rfl) ?_
 by_cases h1:x1=true
 ·refine QM (by conv=>lhs;simp[-List.map_set,QV,h1]) ?_;refine QN ?_
  repeat first|refine QG ?_|refine QY ?_
  exact ja hwf (by simp [h1]) rfl
 have g1:x1=false:=by simpa using h1
 refine QM (by conv=>lhs;simp[-List.map_set,QV,g1]) ?_;refine jc (c2) (by rfl) ?_
 by_cases h2:x2=true
 ·refine QM (by conv=>lhs;simp[-List.map_set,QV,h2]) ?_;refine QN ?_
  repeat first|refine QG ?_|refine QY ?_
  exact ja hwf (by simp [h2]) rfl
 have g2:x2=false:=by simpa using h2
 by_cases k1:op=172
 ·refine QM (by conv=>lhs;simp[-List.map_set,QV,g2,k1]) ?_;refine QN ?_
  repeat first|refine QG ?_|refine QY ?_
  exact ja hwf (by simp [k1]) rfl
 by_cases k2:op=173
 ·refine QM (by conv=>lhs;simp[-List.map_set,QV,g2,k1,k2]) ?_;refine QN ?_
  repeat first|refine QG ?_|refine QY ?_
  exact ja hwf (by simp [k2]) rfl
 by_cases k3:op=192
 ·refine QM (by conv=>lhs;simp[-List.map_set,QV,g2,k1,k2,k3]) ?_;refine QN ?_
  repeat first|refine QG ?_|refine QY ?_
  exact ja hwf (by simp [k3]) rfl
 by_cases k4:op=193
 ·refine QM (by conv=>lhs;simp[-List.map_set,QV,g2,k1,k2,k3,k4]) ?_;refine QN ?_
  repeat first|refine QG ?_|refine QY ?_
  exact ja hwf (by simp [k4]) rfl
 rw [if_neg (by simp [g1,g2,k1,k2,k3,k4])];refine QM (by conv=>lhs;simp[-List.map_set,QV,g2,k1,k2,k3,k4]) ?_;refine QN ?_
 repeat first|refine QG ?_|refine QY ?_
 repeat refine QS ?_
 refine QP ?_;refine jc (c3) (by rfl) ?_
 by_cases h3:x3=true
 ·refine QM (by conv=>lhs;simp[-List.map_set,QV,h3]) ?_;refine QN ?_
  repeat first|refine QG ?_|refine QY ?_
  exact ja hwf (by simp [h3]) rfl
 have g3:x3=false:=by simpa using h3
 refine QM (by conv=>lhs;simp[-List.map_set,QV,g3]) ?_;refine jc (c4) (by rfl) ?_
 by_cases h4:x4=true
 ·refine QM (by conv=>lhs;simp[-List.map_set,QV,h4]) ?_;refine QN ?_
  repeat first|refine QG ?_|refine QY ?_
  exact ja hwf (by simp [h4]) rfl
 have g4:x4=false:=by simpa using h4
 by_cases k5:op=167
 ·refine QM (by conv=>lhs;simp[-List.map_set,QV,g4,k5]) ?_;refine QN ?_
  repeat first|refine QG ?_|refine QY ?_
  exact ja hwf (by simp [k5]) rfl
 refine QM (by conv=>lhs;simp[-List.map_set,QV,g4,k5]) ?_;refine jc (c5) (by rfl) ?_
 by_cases h5:x5=true
 ·refine QM (by conv=>lhs;simp[-List.map_set,QV,h5]) ?_;refine QN ?_
  repeat first|refine QG ?_|refine QY ?_
  exact ja hwf (by simp [h5]) rfl
 have g5:x5=false:=by simpa using h5
 refine QM (by conv=>lhs;simp[-List.map_set,QV,g5]) ?_;refine QN ?_
 repeat first|refine QG ?_|refine QY ?_
 exact ja hwf (by simp [g3,g4,k5,g5]) rfl
theorem Unary_v (op:Int):VPure Tryz.prog 141 [vint op] (.bool (Ss.runary op)):=by
 intro S;have c1:VPure Tryz.prog 126 [vint op, .int .i64 103, .int .i64 105] (.bool (Ss.rin op 103 105)):=in_v op 103 105;have c2:VPure Tryz.prog 126 [vint op, .int .i64 121, .int .i64 123] (.bool (Ss.rin op 121 123)):=in_v op 121 123;have hX:Ss.runary op=(decide (op=69)||(decide (op=80)||(Ss.rin op 103 105||(Ss.rin op 121 123||decide (167≤op))))):=rfl;rw [hX];generalize Ss.rin op 103 105=x1 at *
 generalize Ss.rin op 121 123=x2 at *
 refine jb (c:=jg Tryz.f141) Tryz.func141 rfl rfl (by simp [Tryz.ntmps141]) ?_;rw [Tryz.ntmps141];intro hwf
 by_cases k1:op=69
 ·repeat first|refine QG ?_|refine QY ?_ (r:=by conv=>lhs;simp[-List.map_set,QV,k1])
  exact ja hwf (by simp [k1]) rfl
 by_cases k2:op=80
 ·repeat first|refine QG ?_|refine QY ?_ (r:=by conv=>lhs;simp[-List.map_set,QV,k1,k2])
  exact ja hwf (by simp [k2]) rfl
 repeat first|refine QG ?_|refine QY ?_
 repeat refine QS ?_
 refine QP ?_ (r:=by conv=>lhs;simp[-List.map_set,QV,k1,k2]);refine jc (c1) (by rfl) ?_
 by_cases h1:x1=true
 ·refine QM (by conv=>lhs;simp[-List.map_set,QV,h1]) ?_;refine QN ?_
  repeat first|refine QG ?_|refine QY ?_
  exact ja hwf (by simp [h1]) rfl
 have g1:x1=false:=by simpa using h1
 refine QM (by conv=>lhs;simp[-List.map_set,QV,g1]) ?_;refine jc (c2) (by rfl) ?_
 by_cases h2:x2=true
 ·refine QM (by conv=>lhs;simp[-List.map_set,QV,h2]) ?_;refine QN ?_
  repeat first|refine QG ?_|refine QY ?_
  exact ja hwf (by simp [h2]) rfl
 have g2:x2=false:=by simpa using h2
 refine QM (by conv=>lhs;simp[-List.map_set,QV,g2]) ?_;refine QN ?_
 repeat first|refine QG ?_|refine QY ?_
 exact ja hwf (by simp [k1,k2,g1,g2]) rfl
theorem RNumSig_v (op:Int):VPure Tryz.prog 119 [vint op] (.tuple [vl vint (Ss.numSig op).1,vint (Ss.numSig op).2.1, .bool (Ss.numSig op).2.2]):=by
 intro S;rw [←Ss.rsig_eq op];have c1:=Of_v op;have c2:=Unary_v op;have c3:VPure Tryz.prog 126 [vint op, .int .i64 69, .int .i64 90] (.bool (Ss.rin op 69 90)):=in_v op 69 90;have hX:Ss.rsig op=if Ss.rof op=0 then ([],0,false) else (if Ss.runary op then [Ss.rof op] else [Ss.rof op,Ss.rof op],if op=172∨op=173 then 126 else if Ss.rin op 69 90∨op=167 then 127 else Ss.rof op,true):=rfl
 rw [hX];generalize Ss.rof op=t at *
 generalize Ss.runary op=un at *
 generalize Ss.rin op 69 90=x at *
 clear hX;refine jb (c:=jg Tryz.f119) Tryz.func119 rfl rfl (by simp [Tryz.ntmps119]) ?_;rw [Tryz.ntmps119];intro hwf
 repeat first|refine QG ?_|refine QY ?_
 repeat refine QS ?_
 refine QP ?_;refine jc (c1) (by rfl) ?_
 by_cases ht:t=0
 ·refine QW ?_
  repeat first|refine QG ?_|refine QY ?_ (r:=by conv=>lhs;simp[-List.map_set,QV,ht])
  rw [if_pos ht];exact ji (l:=[]) hwf (Ghost.toB (Ghost.tuple [] [_,_] (Ghost.nils_list _)) _) rfl
 rw [if_neg ht];refine QW ?_
 repeat first|refine QG ?_|refine QY ?_ (r:=by conv=>lhs;simp[-List.map_set,QV,ht])
 repeat refine QS ?_
 refine QP ?_;refine jc (c2) (by rfl) ?_;obtain ⟨r,hr⟩ : ∃ r,(if op=172∨op=173 then 126 else if x∨op=167 then 127 else t)=r:=⟨_,rfl⟩
 simp only [hr]
 by_cases hu:un=true
 ·rw [if_pos hu];refine QM (by conv=>lhs;simp[-List.map_set,QV,hu]) ?_;refine QN ?_
  repeat first|refine QG ?_|refine QY ?_ (r:=by conv=>lhs;simp[-List.map_set,QV,hu])
  refine vw_trim 6 1 rfl (by simp) rfl (by conv=>lhs; simp [List.set_cons_zero,List.set_cons_succ]) ?_
  repeat refine QS ?_
  refine QP ?_;refine jc (c3) (by rfl) ?_
  by_cases hx:x=true
  ·skip
   refine QM (by conv=>lhs;simp[-List.map_set,QV,hx]) ?_;refine QN ?_
   by_cases k1:op=172
   ·obtain rfl:r=126:=by rw [←hr]; simp [k1]
    repeat first|refine QG ?_|refine QY ?_ (r:=by conv=>lhs;simp[-List.map_set,QV,hx,k1])
    exact ji hwf ((Ghost.tuple [] [_,_] (frz1 (k:=0) (by simp) (by rfl) (by rfl) (by rfl))).toB _) rfl
   by_cases k2:op=173
   ·obtain rfl:r=126:=by rw [←hr]; simp [k2]
    repeat first|refine QG ?_|refine QY ?_ (r:=by conv=>lhs;simp[-List.map_set,QV,hx,k1,k2])
    exact ji hwf ((Ghost.tuple [] [_,_] (frz1 (k:=0) (by simp) (by rfl) (by rfl) (by rfl))).toB _) rfl
   obtain rfl:r=127:=by rw [←hr]; simp [k1,k2,hx]
   repeat first|refine QG ?_|refine QY ?_ (r:=by conv=>lhs;simp[-List.map_set,QV,hx,k1,k2])
   exact ji hwf ((Ghost.tuple [] [_,_] (frz1 (k:=0) (by simp) (by rfl) (by rfl) (by rfl))).toB _) rfl
  have hx':x=false:=by simpa using hx
  by_cases hq:op=167
  ·skip
   refine QM (by conv=>lhs;simp[-List.map_set,QV,hx',hq]) ?_;refine QN ?_;have k1 : ¬ op=172:=by omega
   have k2 : ¬ op=173:=by omega
   obtain rfl:r=127:=by rw [←hr]; simp [k1,k2,hq]
   repeat first|refine QG ?_|refine QY ?_ (r:=by conv=>lhs;simp[-List.map_set,QV,hx',hq,k1,k2])
   exact ji hwf ((Ghost.tuple [] [_,_] (frz1 (k:=0) (by simp) (by rfl) (by rfl) (by rfl))).toB _) rfl
  refine QM (by conv=>lhs;simp[-List.map_set,QV,hx',hq]) ?_;refine QN ?_
  by_cases k1:op=172
  ·obtain rfl:r=126:=by rw [←hr]; simp [k1]
   repeat first|refine QG ?_|refine QY ?_ (r:=by conv=>lhs;simp[-List.map_set,QV,hx',hq,k1])
   exact ji hwf ((Ghost.tuple [] [_,_] (frz1 (k:=0) (by simp) (by rfl) (by rfl) (by rfl))).toB _) rfl
  by_cases k2:op=173
  ·obtain rfl:r=126:=by rw [←hr]; simp [k2]
   repeat first|refine QG ?_|refine QY ?_ (r:=by conv=>lhs;simp[-List.map_set,QV,hx',hq,k1,k2])
   exact ji hwf ((Ghost.tuple [] [_,_] (frz1 (k:=0) (by simp) (by rfl) (by rfl) (by rfl))).toB _) rfl
  obtain rfl:r=t:=by rw [←hr]; simp [k1,k2,hx',hq]
  repeat first|refine QG ?_|refine QY ?_ (r:=by conv=>lhs;simp[-List.map_set,QV,hx',hq,k1,k2])
  exact ji hwf ((Ghost.tuple [] [_,_] (frz1 (k:=0) (by simp) (by rfl) (by rfl) (by rfl))).toB _) rfl
 ·replace hu:un=false:=by simpa using hu
  rw [if_neg (by simp [hu])];refine QM (by conv=>lhs;simp[-List.map_set,QV,hu]) ?_;refine QN ?_
  repeat first|refine QG ?_|refine QY ?_ (r:=by conv=>lhs;simp[-List.map_set,QV,hu])
  repeat refine QS ?_
  refine QP ?_;refine jc (c3) (by rfl) ?_
  by_cases hx:x=true
  ·skip
   refine QM (by conv=>lhs;simp[-List.map_set,QV,hx]) ?_;refine QN ?_
   by_cases k1:op=172
   ·obtain rfl:r=126:=by rw [←hr]; simp [k1]
    repeat first|refine QG ?_|refine QY ?_ (r:=by conv=>lhs;simp[-List.map_set,QV,hx,k1])
    exact ji hwf ((Ghost.tuple [] [_,_] (frz1 (k:=0) (by simp) (by rfl) (by rfl) (by rfl))).toB _) rfl
   by_cases k2:op=173
   ·obtain rfl:r=126:=by rw [←hr]; simp [k2]
    repeat first|refine QG ?_|refine QY ?_ (r:=by conv=>lhs;simp[-List.map_set,QV,hx,k1,k2])
    exact ji hwf ((Ghost.tuple [] [_,_] (frz1 (k:=0) (by simp) (by rfl) (by rfl) (by rfl))).toB _) rfl
   obtain rfl:r=127:=by rw [←hr]; simp [k1,k2,hx]
   repeat first|refine QG ?_|refine QY ?_ (r:=by conv=>lhs;simp[-List.map_set,QV,hx,k1,k2])
   exact ji hwf ((Ghost.tuple [] [_,_] (frz1 (k:=0) (by simp) (by rfl) (by rfl) (by rfl))).toB _) rfl
  have hx':x=false:=by simpa using hx
  by_cases hq:op=167
  ·skip
   refine QM (by conv=>lhs;simp[-List.map_set,QV,hx',hq]) ?_;refine QN ?_;have k1 : ¬ op=172:=by omega
   have k2 : ¬ op=173:=by omega
   obtain rfl:r=127:=by rw [←hr]; simp [k1,k2,hq]
   repeat first|refine QG ?_|refine QY ?_ (r:=by conv=>lhs;simp[-List.map_set,QV,hx',hq,k1,k2])
   exact ji hwf ((Ghost.tuple [] [_,_] (frz1 (k:=0) (by simp) (by rfl) (by rfl) (by rfl))).toB _) rfl
  refine QM (by conv=>lhs;simp[-List.map_set,QV,hx',hq]) ?_;refine QN ?_
  by_cases k1:op=172
  ·obtain rfl:r=126:=by rw [←hr]; simp [k1]
   repeat first|refine QG ?_|refine QY ?_ (r:=by conv=>lhs;simp[-List.map_set,QV,hx',hq,k1])
   exact ji hwf ((Ghost.tuple [] [_,_] (frz1 (k:=0) (by simp) (by rfl) (by rfl) (by rfl))).toB _) rfl
  by_cases k2:op=173
  ·obtain rfl:r=126:=by rw [←hr]; simp [k2]
   repeat first|refine QG ?_|refine QY ?_ (r:=by conv=>lhs;simp[-List.map_set,QV,hx',hq,k1,k2])
   exact ji hwf ((Ghost.tuple [] [_,_] (frz1 (k:=0) (by simp) (by rfl) (by rfl) (by rfl))).toB _) rfl
  obtain rfl:r=t:=by rw [←hr]; simp [k1,k2,hx',hq]
  repeat first|refine QG ?_|refine QY ?_ (r:=by conv=>lhs;simp[-List.map_set,QV,hx',hq,k1,k2])
  exact ji hwf ((Ghost.tuple [] [_,_] (frz1 (k:=0) (by simp) (by rfl) (by rfl) (by rfl))).toB _) rfl
end Go.Vw

namespace Go.Vw
open Go.Proofs Go.RowKit
set_option maxRecDepth 10000
set_option maxHeartbeats 4000000
theorem RAccess_v (op:Int):VPure Tryz.prog 120 [vint op] (.tuple [vint ((Ss.accOf op).getD ⟨0,0,false,false⟩).kind,vint ((Ss.accOf op).getD ⟨0,0,false,false⟩).width, .bool ((Ss.accOf op).getD ⟨0,0,false,false⟩).store, .bool (Ss.accOf op).isSome]):=by
 intro S
 by_cases h:op=40∨op=41∨op=44∨op=45∨op=46∨op=47∨op=48∨op=49∨op=50∨op=51∨op=52∨op=53∨op=54∨op=55∨op=58∨op=59∨op=60∨op=61∨op=62
 ·refine jb (c:=jg Tryz.f120) Tryz.func120 rfl rfl (by simp [Tryz.ntmps120]) ?_;rw [Tryz.ntmps120];intro hwf;rcases h with rfl | rfl | rfl | rfl | rfl | rfl | rfl | rfl | rfl | rfl | rfl | rfl | rfl | rfl | rfl | rfl | rfl | rfl | rfl
  all_goals
   repeat first|refine QG ?_|refine QY ?_
   exact ja hwf rfl rfl
 ·simp only [not_or] at h;obtain ⟨h1,h2,h3,h4,h5,h6,h7,h8,h9,h10,h11,h12,h13,h14,h15,h16,h17,h18,h19⟩:=h;have hn:Ss.accOf op=none:=by simp [Ss.accOf,Ss.accL,Ss.findK,h1,h2,h3,h4,h5,h6,h7,h8,h9,h10,h11,h12,h13,h14,h15,h16,h17,h18,h19]
  rw [hn];refine jb (c:=jg Tryz.f120) Tryz.func120 rfl rfl (by simp [Tryz.ntmps120]) ?_;rw [Tryz.ntmps120];intro hwf
  repeat first|refine QG ?_|refine QY ?_ (r:=by conv=>lhs;simp[-List.map_set,QV,h1,h2,h3,h4,h5,h6,h7,h8,h9,h10,h11,h12,h13,h14,h15,h16,h17,h18,h19])
  exact ja hwf rfl rfl
end Go.Vw

namespace Ss
structure RForm where
 inn:List Int
 outs:List Int
 ok:Bool
deriving DecidableEq,Inhabited
def rformMem (op n:Int):RForm :=
 if op=257 then ⟨[127],[],decide (n≤8589934592)⟩
 else match accOf op with
  | some a=>if a.store then ⟨[127,a.kind],[],decide (n<4294967296)⟩ else ⟨[127],[a.kind],decide (n<4294967296)⟩
  | none=>if op=63 then ⟨[],[127],decide (n=0)⟩ else if op=64 then ⟨[127],[127],decide (n=0)⟩ else ⟨[],[],false⟩
def rformEnv (e:Env) (op n:Int):RForm :=
 if op=35∨op=36 then (if n<e.globals.length then (if op=35 then ⟨[],[e.globals.getD n.toNat 0],true⟩ else ⟨[e.globals.getD n.toNat 0],[],e.muts.getD n.toNat false⟩) else ⟨[],[],false⟩)
 else if op=16 then (if n<e.sigs.length then ⟨(e.sigs.getD n.toNat default).inn,(e.sigs.getD n.toNat default).out,true⟩ else ⟨[],[],false⟩)
 else if e.mem then rformMem op n else ⟨[],[],false⟩
def rform (e:Env) (op n out:Int):RForm :=
 if op=256 then ⟨[],[out],decide (out=126)||(decide (out=127)&&decide (n<4294967296))⟩
 else if op=258 then ⟨[],[],decide (n=0)⟩
 else match numSig op with
  | (l,t,true)=>⟨l,[t],decide (n=0)⟩
  | _=>if op=27 then ⟨[out,out,127],[out],decide (n=0)⟩ else rformEnv e op n
end Ss
namespace Go.Vw
open Go.Proofs Go.RowKit
set_option maxRecDepth 10000
set_option maxHeartbeats 16000000
def rformV (r:Ss.RForm):V := .tuple [vl vint r.inn,vl vint r.outs, .bool r.ok]
theorem Form_v (e:Ss.Env) (x:Ss.Ins) (out:Int) (hsl:e.sigs.length≤140737488355328) (hgl:e.globals.length≤140737488355328) (hml:e.muts.length=e.globals.length) (hx:x.Fits) :
  VPure Tryz.prog 88 [zG e,jq x,vint out] (rformV (Ss.rform e x.op x.n out)):=by
 intro S;obtain ⟨sg,im,gl,mu,me⟩:=e;obtain ⟨op,n,xa,xo⟩:=x;obtain ⟨ho,⟨h0,hn64⟩,_⟩:=hx;simp only at hsl hgl hml h0 ho hn64 ⊢;obtain ⟨m,rfl⟩ : ∃ m:Nat,n=m:=⟨n.toNat,by omega⟩
 have hns:=RNumSig_v op;have hac:=RAccess_v op;have hfi:=Fits_v out (m:Int);have hcg:IntKind.u64.wrap (gl.length:Int)=(gl.length:Int):=Km (by omega) (by omega);have hcs:IntKind.u64.wrap (sg.length:Int)=(sg.length:Int):=Km (by omega) (by omega);have hz:decide ((m:Int)=0)=decide (m=0):=by simp
 unfold Ss.rform;rw [hz];generalize (decide (out=126)||(decide (out=127)&&decide ((m:Int)<4294967296)))=fi at *
 generalize hsg:Ss.numSig op=sgv at *
 obtain ⟨l,t,b⟩:=sgv;generalize hak:((Ss.accOf op).getD ⟨0,0,false,false⟩).kind=ak at *
 generalize hast:((Ss.accOf op).getD ⟨0,0,false,false⟩).store=ast at *
 generalize ((Ss.accOf op).getD ⟨0,0,false,false⟩).width=aw at *
 generalize his:(Ss.accOf op).isSome=ais at *
 simp only at hns;refine jb (c:=jg Tryz.f88) Tryz.func88 rfl rfl (by simp [Tryz.ntmps88]) ?_;rw [Tryz.ntmps88];intro hwf
 repeat first|refine QG ?_|refine QY ?_
 repeat refine QS ?_
 refine QP ?_;refine jc (hns) (by rfl) ?_;refine QW ?_
 repeat refine QS ?_
 refine QP ?_;refine jc (hac) (by rfl) ?_;refine QW ?_
 by_cases h1:op=256
 ·rw [if_pos h1]
  repeat first|refine QG ?_|refine QY ?_ (r:=by conv=>lhs;simp[-List.map_set,QV,h1])
  repeat refine QS ?_
  refine QP ?_;refine jc (hfi) (by rfl) ?_;refine QW ?_
  repeat first|refine QG ?_|refine QY ?_
  exact ji hwf (((Ghost.tuple [] [_,_] (Ghost.nils_list _)).trans (Ghost.tuple [_] [_] (frz1 (k:=2) (by simp) (by rfl) (by rfl) (by rfl)))).toB _) rfl
 rw [if_neg h1]
 by_cases h2:op=258
 ·rw [if_pos h2]
  repeat first|refine QG ?_|refine QY ?_ (r:=by conv=>lhs;simp[-List.map_set,QV,h1,h2])
  exact ji hwf (((Ghost.tuple [] [_,_] (Ghost.nils_list _)).trans (Ghost.tuple [_] [_] (Ghost.nils_list _))).toB _) rfl
 rw [if_neg h2]
 by_cases hb:b=true
 ·subst hb;simp only
  repeat first|refine QG ?_|refine QY ?_ (r:=by conv=>lhs;simp[-List.map_set,QV,h1,h2])
  repeat refine QS ?_
  refine jP (St S [] [some (5,[vl jS sg,vint im,vl vint gl,vl V.bool mu, .bool me]),some (4,[vint op, .int .u64 (m:Int),vl vint xa,vl vint xo])]) (St S [] [some (5,[vl jS sg,vint im,vl vint gl,vl V.bool mu, .bool me]),some (4,[vint op, .int .u64 (m:Int),vl vint xa,vl vint xo])]) [] rfl (by kernel_rfl) (by conv=>lhs; reduce) (by conv=>lhs; reduce) (by kernel_rfl) (by kernel_rfl) (jm (by simp [subU,shpU,subL,shpL])) (by conv=>lhs; simp [-List.map_set,QV,h1]) ?_;refine jf rfl (by conv=>lhs;simp[-List.map_set,QV,h1]) (jm (by simp [subU,shpU,subL,shpL])) ?_;refine QM (by conv=>lhs;simp[-List.map_set,QV,h1]) ?_;refine QN ?_
  repeat first|refine QG ?_|refine QY ?_
  exact ji hwf ((Ghost.tuple [_] [_] (frz1 (k:=2) (by simp) (by rfl) (by rfl) (by rfl))).toB _) rfl
 obtain rfl:b=false:=by simpa using hb
 simp only
 by_cases h3:op=27
 ·rw [if_pos h3];subst h3
  repeat first|refine QG ?_|refine QY ?_ (r:=by conv=>lhs;simp[-List.map_set,QV,h1,h2])
  repeat refine QS ?_
  refine KG (σm := ?sma) (Sm := ?Sma) (ZZ.mk _ (St S [] [some (5,[vl jS sg,vint im,vl vint gl,vl V.bool mu, .bool me]),some (4,[.int .i64 27, .int .u64 (m:Int),vl vint xa,vl vint xo])]) (St S [] [some (5,[vl jS sg,vint im,vl vint gl,vl V.bool mu, .bool me]),some (4,[.int .i64 27, .int .u64 (m:Int),vl vint xa,vl vint xo])]) []) 2 4 [0,1,2,3,4,5,6,7,8,9,10] [0,1,3,4,2,5,6,7,8,9,10] rfl (by kernel_rfl) (by conv=>lhs; reduce) (by kernel_rfl) (by decide) (by kernel_rfl) (by kernel_rfl) (by kernel_rfl) (by kernel_rfl) (by kernel_rfl) (by kernel_rfl) rfl (jm (by simp [subU,shpU,subL,shpL])) (Store.sub_refl _) (by conv=>lhs; reduce) (by conv=>lhs; reduce) ?H1a ?H2a ?H3a
  case H1a =>
   refine QZ ?_;refine jf rfl (by conv=>lhs;simp[-List.map_set,QV]) (jm (by simp [subU,shpU,subL,shpL])) ?_;refine QZ ?_;refine jf rfl (by conv=>lhs;simp[-List.map_set,QV]) (jm (by simp [subU,shpU,subL,shpL])) ?_;refine QW ?_;refine zU [6,7,8] (Eq.trans (b := ?_) ?_ rfl)
   rotate_left
   conv=>lhs; simp [Fr.only,Fr.look]
  case H2a =>
   refine QZ ?_;refine jf rfl (by conv=>lhs;simp[-List.map_set,QV]) (jm (by simp [subU,shpU,subL,shpL])) ?_;refine jf rfl (by conv=>lhs;simp[-List.map_set,QV]) (jm (by simp [subU,shpU,subL,shpL])) ?_;refine QW ?_;exact jU [6,7,8] [0,1,3,2] (by conv=>lhs; simp [Fr.only,Fr.look]) hwf (by decide) (by simp [-List.map_set]) (by conv=>lhs; simp [-List.map_set]) (by conv=>lhs; simp [-List.map_set]) (by conv=>lhs; simp [-List.map_set])
  repeat first|refine QG ?_|refine QY ?_
  exact ji hwf (((Ghost.tuple [] [_,_] (frz1 (k:=2) (by simp) (by rfl) (by rfl) (by rfl))).trans (Ghost.tuple [_] [_] (frz1 (k:=3) (by simp) (by rfl) (by rfl) (by rfl)))).toB _) rfl
 rw [if_neg h3];unfold Ss.rformEnv;simp only
 by_cases h4:op=35∨op=36
 ·rw [if_pos h4]
  by_cases h5:m<gl.length
  case neg =>
   have h5' : ¬ (m:Int)<(gl.length:Int):=by omega
   have h5n:(gl.length:Int)≤(m:Int):=by omega
   rw [if_neg h5']
   by_cases h6:op=35
   ·repeat first|refine QG ?_|refine QY ?_ (r:=by conv=>lhs;simp[-List.map_set,QV,h1,h2,h3,h6,hcg,h5,h5n])
    exact ji hwf (((Ghost.tuple [] [_,_] (Ghost.nils_list _)).trans (Ghost.tuple [_] [_] (Ghost.nils_list _))).toB _) rfl
   ·have h7:op=36:=by omega
    repeat first|refine QG ?_|refine QY ?_ (r:=by conv=>lhs;simp[-List.map_set,QV,h1,h2,h3,h6,h7,hcg,h5,h5n])
    exact ji hwf (((Ghost.tuple [] [_,_] (Ghost.nils_list _)).trans (Ghost.tuple [_] [_] (Ghost.nils_list _))).toB _) rfl
  have h5':(m:Int)<(gl.length:Int):=by omega
  have h5n : ¬ (gl.length:Int)≤(m:Int):=by omega
  have hgd:gl.getD (m:Int).toNat 0=gl[m]:=by simp [h5]
  have hm:m<mu.length:=by omega
  obtain ⟨b,hb⟩ : ∃ b,mu[m]=b:=⟨_,rfl⟩
  have hmd:mu.getD (m:Int).toNat false=b:=by simp [hm,hb]
  rw [if_pos h5',hgd,hmd]
  by_cases h6:op=35
  ·rw [if_pos h6]
   repeat first|refine QG ?_|refine QY ?_ (r:=by conv=>lhs;simp[-List.map_set,QV,h1,h2,h3,h6,hcg,h5,h5n])
   exact ji hwf (((Ghost.tuple [] [_,_] (Ghost.nils_list _)).trans (Ghost.tuple [_] [_] (frz1 (k:=2) (by simp) (by rfl) (by rfl) (by rfl)))).toB _) rfl
  ·have h7:op=36:=by omega
   rw [if_neg h6]
   repeat first|refine QG ?_|refine QY ?_ (r:=by conv=>lhs;simp[-List.map_set,QV,h1,h2,h3,h6,h7,hcg,h5,h5n,hm,hb])
   exact ji hwf (((Ghost.tuple [] [_,_] (frz1 (k:=2) (by simp) (by rfl) (by rfl) (by rfl))).trans (Ghost.tuple [_] [_] (Ghost.nils_list _))).toB _) rfl
 rw [if_neg h4];have h6 : ¬ op=35:=fun h=>h4 (.inl h)
 have h7 : ¬ op=36:=fun h=>h4 (.inr h)
 by_cases h8:op=16
 ·rw [if_pos h8]
  by_cases h5:m<sg.length
  case neg =>
   have h5' : ¬ (m:Int)<(sg.length:Int):=by omega
   have h5n:(sg.length:Int)≤(m:Int):=by omega
   rw [if_neg h5']
   repeat first|refine QG ?_|refine QY ?_ (r:=by conv=>lhs;simp[-List.map_set,QV,h1,h2,h3,h6,h7,h8,hcs,h5,h5n])
   exact ji hwf (((Ghost.tuple [] [_,_] (Ghost.nils_list _)).trans (Ghost.tuple [_] [_] (Ghost.nils_list _))).toB _) rfl
  have h5':(m:Int)<(sg.length:Int):=by omega
  have h5n : ¬ (sg.length:Int)≤(m:Int):=by omega
  obtain ⟨⟨a,b⟩,hab⟩ : ∃ x,sg[m]=x:=⟨_,rfl⟩
  have hgd:sg.getD (m:Int).toNat default=⟨a,b⟩:=by simp [h5,hab]
  rw [if_pos h5',hgd]
  repeat first|refine QG ?_|refine QY ?_ (r:=by conv=>lhs;simp[-List.map_set,QV,h1,h2,h3,h6,h7,h8,hcs,h5,h5n,hab])
  exact ja hwf (by simp [rformV,vl]) rfl
 rw [if_neg h8]
 by_cases hme:me=true
 case neg =>
  have hme':me=false:=by simpa using hme
  rw [if_neg hme]
  repeat first|refine QG ?_|refine QY ?_ (r:=by conv=>lhs;simp[-List.map_set,QV,h1,h2,h3,h6,h7,h8,hme'])
  exact ji hwf (((Ghost.tuple [] [_,_] (Ghost.nils_list _)).trans (Ghost.tuple [_] [_] (Ghost.nils_list _))).toB _) rfl
 subst hme;rw [if_pos rfl];unfold Ss.rformMem;rw [hz]
 by_cases k1:op=257
 ·rw [if_pos k1];subst k1
  repeat first|refine QG ?_|refine QY ?_ (r:=by conv=>lhs;simp[-List.map_set,QV,h1,h2,h3,h6,h7,h8])
  repeat refine QS ?_
  refine jP (St S [] [some (5,[vl jS sg,vint im,vl vint gl,vl V.bool mu, .bool true]),some (4,[.int .i64 257, .int .u64 (m:Int),vl vint xa,vl vint xo])]) (St S [] [some (5,[vl jS sg,vint im,vl vint gl,vl V.bool mu, .bool true]),some (4,[.int .i64 257, .int .u64 (m:Int),vl vint xa,vl vint xo])]) [] rfl (by kernel_rfl) (by conv=>lhs; reduce) (by conv=>lhs; reduce) (by kernel_rfl) (by kernel_rfl) (jm (by simp [subU,shpU,subL,shpL])) (by conv=>lhs; simp [-List.map_set,QV,h1]) ?_;refine jf rfl (by conv=>lhs;simp[-List.map_set,QV,h1]) (jm (by simp [subU,shpU,subL,shpL])) ?_;refine QM (by conv=>lhs;simp[-List.map_set,QV,h1]) ?_;refine QN ?_
  repeat first|refine QG ?_|refine QY ?_
  exact ji hwf (((Ghost.tuple [] [_,_] (frz1 (k:=2) (by simp) (by rfl) (by rfl) (by rfl))).trans (Ghost.tuple [_] [_] (Ghost.nils_list _))).toB _) rfl
 rw [if_neg k1]
 cases hf:Ss.accOf op with
 | some a =>
  obtain ⟨b1,b2,b3,b4⟩:=a;rw [hf] at his hak hast;simp only [Option.isSome_some,Option.getD_some] at his hak hast;subst his hak hast;simp only;generalize hz4:decide ((m:Int)<4294967296)=z4 at *
  by_cases k2:b3=true
  ·subst k2;rw [if_pos rfl]
   repeat first|refine QG ?_|refine QY ?_ (r:=by conv=>lhs;simp[-List.map_set,QV,h1,h2,h3,h6,h7,h8,k1,hz4])
   repeat refine QS ?_
   refine jP (St S [] [some (5,[vl jS sg,vint im,vl vint gl,vl V.bool mu, .bool true]),some (4,[vint op, .int .u64 (m:Int),vl vint xa,vl vint xo])]) (St S [] [some (5,[vl jS sg,vint im,vl vint gl,vl V.bool mu, .bool true]),some (4,[vint op, .int .u64 (m:Int),vl vint xa,vl vint xo])]) [] rfl (by kernel_rfl) (by conv=>lhs; reduce) (by conv=>lhs; reduce) (by kernel_rfl) (by kernel_rfl) (jm (by simp [subU,shpU,subL,shpL])) (by conv=>lhs; simp [-List.map_set,QV,h1]) ?_;refine jf rfl (by conv=>lhs;simp[-List.map_set,QV,h1,hz4]) (jm (by simp [subU,shpU,subL,shpL])) ?_;refine QM (by conv=>lhs;simp[-List.map_set,QV,h1,hz4]) ?_;refine QN ?_
   repeat first|refine QG ?_|refine QY ?_
   exact ji hwf (((Ghost.tuple [] [_,_] (frz1 (k:=2) (by simp) (by rfl) (by rfl) (by rfl))).trans (Ghost.tuple [_] [_] (Ghost.nils_list _))).toB _) rfl
  ·rw [if_neg k2];obtain rfl:b3=false:=by simpa using k2
   repeat first|refine QG ?_|refine QY ?_ (r:=by conv=>lhs;simp[-List.map_set,QV,h1,h2,h3,h6,h7,h8,k1,hz4])
   repeat refine QS ?_
   refine KG (σm := ?smb) (Sm := ?Smb) (ZZ.mk _ (St S [] [some (5,[vl jS sg,vint im,vl vint gl,vl V.bool mu, .bool true]),some (4,[vint op, .int .u64 (m:Int),vl vint xa,vl vint xo])]) (St S [] [some (5,[vl jS sg,vint im,vl vint gl,vl V.bool mu, .bool true]),some (4,[vint op, .int .u64 (m:Int),vl vint xa,vl vint xo])]) []) 0 2 [0,1,2,3,4,5,6,7,8] [1,2,0,3,4,5,6,7,8] rfl (by kernel_rfl) (by conv=>lhs; reduce) (by kernel_rfl) (by decide) (by kernel_rfl) (by kernel_rfl) (by kernel_rfl) (by kernel_rfl) (by kernel_rfl) (by kernel_rfl) rfl (jm (by simp [subU,shpU,subL,shpL])) (Store.sub_refl _) (by conv=>lhs; reduce) (by conv=>lhs; reduce) ?H1b ?H2b ?H3b
   case H1b =>
    refine QM (by conv=>lhs;simp[-List.map_set,QV,h1,hz4]) ?_;refine jf rfl (by conv=>lhs;simp[-List.map_set,QV]) (jm (by simp [subU,shpU,subL,shpL])) ?_;refine QM (by conv=>lhs;simp[-List.map_set,QV,hz4]) ?_;refine jf rfl (by conv=>lhs;simp[-List.map_set,QV]) (jm (by simp [subU,shpU,subL,shpL])) ?_;refine QM (by conv=>lhs;simp[-List.map_set,QV,hz4]) ?_;refine QN ?_;refine zU [6,7,8] (Eq.trans (b := ?_) ?_ rfl)
    rotate_left
    conv=>lhs; simp [Fr.only,Fr.look]
   case H2b =>
    refine QM (by conv=>lhs;simp[-List.map_set,QV,h1,hz4]) ?_;refine jf rfl (by conv=>lhs;simp[-List.map_set,QV]) (jm (by simp [subU,shpU,subL,shpL])) ?_;refine jf rfl (by conv=>lhs;simp[-List.map_set,QV]) (jm (by simp [subU,shpU,subL,shpL])) ?_;refine QM (by conv=>lhs;simp[-List.map_set,QV,hz4]) ?_;refine QN ?_;exact jU [6,7,8] [0,1,3,2] (by conv=>lhs; simp [Fr.only,Fr.look]) hwf (by decide) (by simp [-List.map_set]) (by conv=>lhs; simp [-List.map_set]) (by conv=>lhs; simp [-List.map_set]) (by conv=>lhs; simp [-List.map_set])
   repeat first|refine QG ?_|refine QY ?_
   exact ji hwf (((Ghost.tuple [] [_,_] (frz1 (k:=2) (by simp) (by rfl) (by rfl) (by rfl))).trans (Ghost.tuple [_] [_] (frz1 (k:=3) (by simp) (by rfl) (by rfl) (by rfl)))).toB _) rfl
 | none =>
  rw [hf] at his hak hast;simp only [Option.isSome_none,Option.getD_none] at his hak hast;subst his hak hast;simp only
  by_cases k2:op=63
  ·rw [if_pos k2];subst k2
   repeat first|refine QG ?_|refine QY ?_ (r:=by conv=>lhs;simp[-List.map_set,QV,h1,h2,h3,h6,h7,h8,k1])
   repeat refine QS ?_
   refine jP (St S [] [some (5,[vl jS sg,vint im,vl vint gl,vl V.bool mu, .bool true]),some (4,[.int .i64 63, .int .u64 (m:Int),vl vint xa,vl vint xo])]) (St S [] [some (5,[vl jS sg,vint im,vl vint gl,vl V.bool mu, .bool true]),some (4,[.int .i64 63, .int .u64 (m:Int),vl vint xa,vl vint xo])]) [] rfl (by kernel_rfl) (by conv=>lhs; reduce) (by conv=>lhs; reduce) (by kernel_rfl) (by kernel_rfl) (jm (by simp [subU,shpU,subL,shpL])) (by conv=>lhs; simp [-List.map_set,QV,h1]) ?_;refine jf rfl (by conv=>lhs;simp[-List.map_set,QV,h1]) (jm (by simp [subU,shpU,subL,shpL])) ?_;refine QM (by conv=>lhs;simp[-List.map_set,QV,h1]) ?_;refine QN ?_
   repeat first|refine QG ?_|refine QY ?_
   exact ji hwf (((Ghost.tuple [] [_,_] (Ghost.nils_list _)).trans (Ghost.tuple [_] [_] (frz1 (k:=2) (by simp) (by rfl) (by rfl) (by rfl)))).toB _) rfl
  rw [if_neg k2]
  by_cases k3:op=64
  ·rw [if_pos k3];subst k3
   repeat first|refine QG ?_|refine QY ?_ (r:=by conv=>lhs;simp[-List.map_set,QV,h1,h2,h3,h6,h7,h8,k1,k2])
   repeat refine QS ?_
   refine KG (σm := ?smc) (Sm := ?Smc) (ZZ.mk _ (St S [] [some (5,[vl jS sg,vint im,vl vint gl,vl V.bool mu, .bool true]),some (4,[.int .i64 64, .int .u64 (m:Int),vl vint xa,vl vint xo])]) (St S [] [some (5,[vl jS sg,vint im,vl vint gl,vl V.bool mu, .bool true]),some (4,[.int .i64 64, .int .u64 (m:Int),vl vint xa,vl vint xo])]) []) 0 1 [0,1,2,3,4,5,6,7] [1,0,2,3,4,5,6,7] rfl (by kernel_rfl) (by conv=>lhs; reduce) (by kernel_rfl) (by decide) (by kernel_rfl) (by kernel_rfl) (by kernel_rfl) (by kernel_rfl) (by kernel_rfl) (by kernel_rfl) rfl (jm (by simp [subU,shpU,subL,shpL])) (Store.sub_refl _) (by conv=>lhs; reduce) (by conv=>lhs; reduce) ?H1c ?H2c ?H3c
   case H1c =>
    refine QM (by conv=>lhs;simp[-List.map_set,QV,h1]) ?_;refine jf rfl (by conv=>lhs;simp[-List.map_set,QV]) (jm (by simp [subU,shpU,subL,shpL])) ?_;refine QZ ?_;refine jf rfl (by conv=>lhs;simp[-List.map_set,QV]) (jm (by simp [subU,shpU,subL,shpL])) ?_;refine QW ?_;refine zU [6,7,8] (Eq.trans (b := ?_) ?_ rfl)
    rotate_left
    conv=>lhs; simp [Fr.only,Fr.look]
   case H2c =>
    refine QM (by conv=>lhs;simp[-List.map_set,QV,h1]) ?_;refine jf rfl (by conv=>lhs;simp[-List.map_set,QV]) (jm (by simp [subU,shpU,subL,shpL])) ?_;refine jf rfl (by conv=>lhs;simp[-List.map_set,QV]) (jm (by simp [subU,shpU,subL,shpL])) ?_;refine QW ?_;exact jU [6,7,8] [0,1,3,2] (by conv=>lhs; simp [Fr.only,Fr.look]) hwf (by decide) (by simp [-List.map_set]) (by conv=>lhs; simp [-List.map_set]) (by conv=>lhs; simp [-List.map_set]) (by conv=>lhs; simp [-List.map_set])
   repeat first|refine QG ?_|refine QY ?_
   exact ji hwf (((Ghost.tuple [] [_,_] (frz1 (k:=2) (by simp) (by rfl) (by rfl) (by rfl))).trans (Ghost.tuple [_] [_] (frz1 (k:=3) (by simp) (by rfl) (by rfl) (by rfl)))).toB _) rfl
  rw [if_neg k3]
  repeat first|refine QG ?_|refine QY ?_ (r:=by conv=>lhs;simp[-List.map_set,QV,h1,h2,h3,h6,h7,h8,k1,k2,k3])
  exact ji hwf (((Ghost.tuple [] [_,_] (Ghost.nils_list _)).trans (Ghost.tuple [_] [_] (Ghost.nils_list _))).toB _) rfl
end Go.Vw

namespace Ss
def rinsOk (e:Env) (f:Fn) (ds:List Def) (near:List Int) (block pos:Int) (x:Ins):Bool :=
 (rform e x.op x.n (insOut f.types x)).ok&&decide (typesOf f.types x.outs=(rform e x.op x.n (insOut f.types x)).outs)&&asks f.types ds near block pos x.args (rform e x.op x.n (insOut f.types x)).inn
end Ss
namespace Go.Vw
open Go.Proofs Go.RowKit
set_option maxRecDepth 10000
set_option maxHeartbeats 4000000
theorem rins_v (e:Ss.Env) (f:Ss.Fn) (ds:List Ss.Def) (near:List Int) (i k:Nat) (b:Ss.Block) (x:Ss.Ins) (hsl:e.sigs.length≤140737488355328) (hgl:e.globals.length≤140737488355328) (hml:e.muts.length=e.globals.length)
  (hds:ds.length=f.types.length) (htl:f.types.length<2^63) (hnl:near.length<2^63) (hnn : ∀ x∈ds,x.made=true→0≤x.block) (hi:f.blocks[i]? = some b) (hk:b.code[k]? = some x) (hx:x.Fits) (hol:x.outs.length≤1048576) (hov:Ss.InTs f.types.length x.outs) :
  VPure Tryz.prog 50 [ckR e f ds near,vnat i,vnat k] (.bool (Ss.rinsOk e f ds near i k x)):=by
 intro S;have cf:=Form_v e x (Ss.insOut f.types x) hsl hgl hml hx;have ct:=jbH e f ds near x.outs hol hov;have hal:=hx.2.2.1.1;have ca : ∀ l:List Int,VPure Tryz.prog 89 [ckR e f ds near,vl vint x.args,vl vint l,vnat i,vnat k] (.bool (Ss.asks f.types ds near i k x.args l)):=fun l=>jbI e f ds near i k x.args l hds htl hnl (by omega) hnn
 unfold Ss.rinsOk;generalize hr:Ss.rform e x.op x.n (Ss.insOut f.types x)=r at *
 have hql:(Ss.typesOf f.types x.outs).length<2^63:=by simp [Ss.typesOf]; omega
 generalize htt:Ss.typesOf f.types x.outs=tt at *
 obtain ⟨ri,ro,rk⟩:=r;have ceq:=JC tt ro hql;obtain ⟨xo,xn,xa,xu⟩:=x;obtain ⟨ps,code,⟨tk,ta,to,az⟩⟩:=b;obtain ⟨⟨fi,fo⟩,ts,bs⟩:=f;obtain ⟨sg,im,gl,mu,me⟩:=e;simp only at *
 obtain ⟨hi1,hi2⟩:=List.getElem?_eq_some_iff.1 hi;obtain ⟨hk1,hk2⟩:=List.getElem?_eq_some_iff.1 hk;have ca':=ca ri;generalize Ss.asks ts ds near i k xa ri=ax at ca';generalize hio:Ss.insOut ts ⟨xo,xn,xa,xu⟩=io at cf;have cf':VPure Tryz.prog 88 [.agg [vl jS sg, .int .i64 im,vl vint gl,vl V.bool mu, .bool me], .agg [.int .i64 xo, .int .u64 xn,vl vint xa,vl vint xu], .int .i64 io] (.tuple [vl vint ri,vl vint ro, .bool rk]):=cf;refine jb (c:=jg Tryz.f50) Tryz.func50 rfl rfl (by simp [Tryz.ntmps50]) ?_;rw [Tryz.ntmps50];intro hwf
 repeat first|refine QG ?_|refine QY ?_ (r:=by conv=>lhs;simp[-List.map_set,QV,hi1,hi2,hk1,hk2])
 refine WZ (fun σ S'=>σ=[(0,ckR ⟨sg,im,gl,mu,me⟩ ⟨⟨fi,fo⟩,ts,bs⟩ ds near),(1,vnat i),(2,vnat k),(7, .ptr (lid S.nx 0) 0),(8,vint io)]∧S'=St S [] [some (4,[vint xo,vu xn,vl vint xa,vl vint xu])]) [0,1,2,7,8] ?_ ?_
 ·cases xu with
  | nil =>
   have h0:io=0:=by rw [←hio]; rfl
   subst h0
   repeat first|refine QG ?_|refine QY ?_
   exact ⟨by simp [Fr.only],by simp⟩
  | cons v r =>
   obtain ⟨h0,h1⟩:=hov v (by simp);obtain ⟨n,rfl⟩ : ∃ n:Nat,v=n:=⟨v.toNat,by omega⟩
   have hn:n<ts.length:=by omega
   have h2:io=ts[n]:=by rw [←hio]; simp [Ss.insOut,hn]
   subst h2;have hpos:(0:Int)<((r.length:Int)+1):=by omega
   repeat first|refine QG ?_|refine QY ?_ (r:=by conv=>lhs;simp[-List.map_set,QV,hn,hpos])
   exact ⟨by simp [Fr.only],by simp⟩
 rintro σ S' ⟨rfl,rfl⟩
 repeat refine QS ?_
 repeat refine QS ?_
 refine QD (r:=by conv=>lhs;simp[-List.map_set,QV]) (k:=?_);refine jc (cf') (by rfl) ?_;refine QW ?_
 by_cases h1:rk=true
 case neg =>
  have h1':rk=false:=by simpa using h1
  repeat first|refine QG ?_|refine QY ?_ (r:=by conv=>lhs;simp[-List.map_set,QV,h1'])
  exact ja hwf (by simp [h1']) rfl
 repeat refine QS ?_
 refine QP ?_ (r:=by conv=>lhs;simp[-List.map_set,QV,h1]);refine jc (ct) (by rfl) ?_;refine QZ ?_;refine jc (ceq) (by rfl) ?_
 by_cases h3:tt=ro
 case neg =>
  refine QM (by conv=>lhs;simp[-List.map_set,QV,h3]) ?_;refine QN ?_
  repeat first|refine QG ?_|refine QY ?_
  exact ja hwf (by simp [h3]) rfl
 refine QM (by conv=>lhs;simp[-List.map_set,QV,h3]) ?_;refine jc (ca') (by rfl) ?_;refine QW ?_
 repeat first|refine QG ?_|refine QY ?_
 exact ja hwf (by simp [h1,h3]) rfl
end Go.Vw
