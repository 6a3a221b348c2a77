import Derived.Test.YtkfllaokjaldnaaGreatC20
import Derived.Test.YtkfllaokjaldnaaGreatC35
import Derived.Test.YtkfllaokjaldnaaGreatC31
import Derived.Test.YtkfllaokjaldnaaGreatC19
import Derived.Test.YtkfllaokjaldnaaGreatC16
/-
  Part of the proof (texts CNum, DPureR, LRMade, LRMoves, CSucc, CTick, LRFirst).
-/
set_option linter.unusedVariables false
set_option linter.unusedSimpArgs false
namespace Ss
def rin (op a b:Int):Bool:=decide (a≤op)&&decide (op≤b)
def rof (op:Int):Int :=
 if rin op 69 79∨rin op 103 120∨op=172∨op=173∨op=192∨op=193 then 127
 else if rin op 80 90∨rin op 121 138∨op=167∨rin op 194 196 then 126 else 0
def runary (op:Int):Bool:=decide (op=69)||(decide (op=80)||(rin op 103 105||(rin op 121 123||decide (167≤op))))
def rsigT (op:Int):Int:=if op=172∨op=173 then 126 else if rin op 69 90∨op=167 then 127 else rof op
def rsig (op:Int):List Int × Int × Bool :=
 if rof op=0 then ([],0,false) else (if runary op then [rof op] else [rof op,rof op],rsigT op,true)
theorem rsig_small : ∀ n:Nat,n<256→rsig (n:Int)=numSig (n:Int):=by decide +kernel
theorem rsig_eq (op:Int):rsig op=numSig op:=by
 by_cases h:0≤op∧op<256
 ·obtain ⟨n,rfl⟩:=Int.eq_ofNat_of_zero_le h.1
  exact rsig_small n (by have:=h.2; omega)
 ·have h1:rof op=0:=by
   unfold rof
   rw [if_neg (by simp only [rin,Bool.and_eq_true,decide_eq_true_eq]; omega),if_neg (by simp only [rin,Bool.and_eq_true,decide_eq_true_eq]; omega)]
  have h2:find op=none:=by
   cases hf:find op with
   | none=>rfl
   | some g =>
    exfalso
    obtain ⟨hm,hh⟩:=Yi hf
    have ha : ∀ g∈groups,0≤g.first∧g.first+g.many≤256:=by decide +kernel
    have:=ha g hm
    simp only [Grp.has,Bool.and_eq_true,decide_eq_true_eq] at hh
    omega
  simp [rsig,h1,numSig,h2]
end Ss
namespace Go.Vw
open Go.Proofs Go.RowKit
set_option maxRecDepth 10000
set_option maxHeartbeats 2000000
theorem in_v (op a b:Int):VPure Tryz.prog 126 [vint op,vint a,vint b] (.bool (Ss.rin op a b)):=by
 intro S
 by_cases h:a≤op
 ·have hX:Ss.rin op a b=decide (op≤b):=by simp [Ss.rin,h]
  rw [hX]
  refine jb (c:=jf Tryz.f126) Tryz.func126 rfl rfl (by simp [Tryz.ntmps126]) ?_
  rw [Tryz.ntmps126]
  intro hwf
  repeat (first|refine QG ?_|refine QY ?_ (r:=by conv=>lhs;simp[-List.map_set,QV,h]))
  exact ja hwf (by simp) rfl
 ·have hX:Ss.rin op a b=false:=by simp [Ss.rin,h]
  rw [hX]
  refine jb (c:=jf Tryz.f126) Tryz.func126 rfl rfl (by simp [Tryz.ntmps126]) ?_
  rw [Tryz.ntmps126]
  intro hwf
  repeat (first|refine QG ?_|refine QY ?_ (r:=by conv=>lhs;simp[-List.map_set,QV,h]))
  exact ja hwf (by simp) rfl
theorem Fits_v (t n:Int):VPure Tryz.prog 91 [vint t,vu n] (.bool (decide (t=126)||(decide (t=127)&&decide (n<4294967296)))):=by
 intro S
 refine jb (c:=jf Tryz.f91) Tryz.func91 rfl rfl (by simp [Tryz.ntmps91]) ?_
 rw [Tryz.ntmps91]
 intro hwf
 by_cases h:t=126
 ·repeat (first|refine QG ?_|refine QY ?_ (r:=by conv=>lhs;simp[-List.map_set,QV,h]))
  exact ja hwf (by simp [h]) rfl
 by_cases h2:t=127
 ·repeat (first|refine QG ?_|refine QY ?_ (r:=by conv=>lhs;simp[-List.map_set,QV,h,h2]))
  exact ja hwf (by simp [h,h2]) rfl
 ·repeat (first|refine QG ?_|refine QY ?_ (r:=by conv=>lhs;simp[-List.map_set,QV,h,h2]))
  exact ja hwf (by simp [h,h2]) rfl
theorem Of_v (op:Int):VPure Tryz.prog 125 [vint op] (vint (Ss.rof op)):=by
 intro S
 have c1:VPure Tryz.prog 126 [vint op, .int .i64 69, .int .i64 79] (.bool (Ss.rin op 69 79)):=in_v op 69 79
 have c2:VPure Tryz.prog 126 [vint op, .int .i64 103, .int .i64 120] (.bool (Ss.rin op 103 120)):=in_v op 103 120
 have c3:VPure Tryz.prog 126 [vint op, .int .i64 80, .int .i64 90] (.bool (Ss.rin op 80 90)):=in_v op 80 90
 have c4:VPure Tryz.prog 126 [vint op, .int .i64 121, .int .i64 138] (.bool (Ss.rin op 121 138)):=in_v op 121 138
 have c5:VPure Tryz.prog 126 [vint op, .int .i64 194, .int .i64 196] (.bool (Ss.rin op 194 196)):=in_v op 194 196
 have hX:Ss.rof op=if Ss.rin op 69 79∨Ss.rin op 103 120∨op=172∨op=173∨op=192∨op=193 then 127
  else if Ss.rin op 80 90∨Ss.rin op 121 138∨op=167∨Ss.rin op 194 196 then 126 else 0:=rfl
 rw [hX]
 generalize Ss.rin op 69 79=x1 at *
 generalize Ss.rin op 103 120=x2 at *
 generalize Ss.rin op 80 90=x3 at *
 generalize Ss.rin op 121 138=x4 at *
 generalize Ss.rin op 194 196=x5 at *
 clear hX
 refine jb (c:=jf Tryz.f125) Tryz.func125 rfl rfl (by simp [Tryz.ntmps125]) ?_
 rw [Tryz.ntmps125]
 intro hwf
 repeat (first|refine QG ?_|refine QY ?_)
 repeat refine QS ?_
 refine QP ?_
 refine jc (c1) (by rfl) ?_
 by_cases h1:x1=true
 ·refine QM (by conv=>lhs;simp[-List.map_set,QV,h1]) ?_
  refine QN ?_
  repeat (first|refine QG ?_|refine QY ?_)
  exact ja hwf (by simp [h1]) rfl
 have g1:x1=false:=by simpa using h1
 refine QM (by conv=>lhs;simp[-List.map_set,QV,g1]) ?_
 refine jc (c2) (by rfl) ?_
 by_cases h2:x2=true
 ·refine QM (by conv=>lhs;simp[-List.map_set,QV,h2]) ?_
  refine QN ?_
  repeat (first|refine QG ?_|refine QY ?_)
  exact ja hwf (by simp [h2]) rfl
 have g2:x2=false:=by simpa using h2
 by_cases k1:op=172
 ·refine QM (by conv=>lhs;simp[-List.map_set,QV,g2,k1]) ?_
  refine QN ?_
  repeat (first|refine QG ?_|refine QY ?_)
  exact ja hwf (by simp [k1]) rfl
 by_cases k2:op=173
 ·refine QM (by conv=>lhs;simp[-List.map_set,QV,g2,k1,k2]) ?_
  refine QN ?_
  repeat (first|refine QG ?_|refine QY ?_)
  exact ja hwf (by simp [k2]) rfl
 by_cases k3:op=192
 ·refine QM (by conv=>lhs;simp[-List.map_set,QV,g2,k1,k2,k3]) ?_
  refine QN ?_
  repeat (first|refine QG ?_|refine QY ?_)
  exact ja hwf (by simp [k3]) rfl
 by_cases k4:op=193
 ·refine QM (by conv=>lhs;simp[-List.map_set,QV,g2,k1,k2,k3,k4]) ?_
  refine QN ?_
  repeat (first|refine QG ?_|refine QY ?_)
  exact ja hwf (by simp [k4]) rfl
 rw [if_neg (by simp [g1,g2,k1,k2,k3,k4])]
 refine QM (by conv=>lhs;simp[-List.map_set,QV,g2,k1,k2,k3,k4]) ?_
 refine QN ?_
 repeat (first|refine QG ?_|refine QY ?_)
 repeat refine QS ?_
 refine QP ?_
 refine jc (c3) (by rfl) ?_
 by_cases h3:x3=true
 ·refine QM (by conv=>lhs;simp[-List.map_set,QV,h3]) ?_
  refine QN ?_
  repeat (first|refine QG ?_|refine QY ?_)
  exact ja hwf (by simp [h3]) rfl
 have g3:x3=false:=by simpa using h3
 refine QM (by conv=>lhs;simp[-List.map_set,QV,g3]) ?_
 refine jc (c4) (by rfl) ?_
 by_cases h4:x4=true
 ·refine QM (by conv=>lhs;simp[-List.map_set,QV,h4]) ?_
  refine QN ?_
  repeat (first|refine QG ?_|refine QY ?_)
  exact ja hwf (by simp [h4]) rfl
 have g4:x4=false:=by simpa using h4
 by_cases k5:op=167
 ·refine QM (by conv=>lhs;simp[-List.map_set,QV,g4,k5]) ?_
  refine QN ?_
  repeat (first|refine QG ?_|refine QY ?_)
  exact ja hwf (by simp [k5]) rfl
 refine QM (by conv=>lhs;simp[-List.map_set,QV,g4,k5]) ?_
 refine jc (c5) (by rfl) ?_
 by_cases h5:x5=true
 ·refine QM (by conv=>lhs;simp[-List.map_set,QV,h5]) ?_
  refine QN ?_
  repeat (first|refine QG ?_|refine QY ?_)
  exact ja hwf (by simp [h5]) rfl
 have g5:x5=false:=by simpa using h5
 refine QM (by conv=>lhs;simp[-List.map_set,QV,g5]) ?_
 refine QN ?_
 repeat (first|refine QG ?_|refine QY ?_)
 exact ja hwf (by simp [g3,g4,k5,g5]) rfl
theorem Unary_v (op:Int):VPure Tryz.prog 141 [vint op] (.bool (Ss.runary op)):=by
 intro S
 have c1:VPure Tryz.prog 126 [vint op, .int .i64 103, .int .i64 105] (.bool (Ss.rin op 103 105)):=in_v op 103 105
 have c2:VPure Tryz.prog 126 [vint op, .int .i64 121, .int .i64 123] (.bool (Ss.rin op 121 123)):=in_v op 121 123
 have hX:Ss.runary op=(decide (op=69)||(decide (op=80)||(Ss.rin op 103 105||(Ss.rin op 121 123||decide (167≤op))))):=rfl
 rw [hX]
 generalize Ss.rin op 103 105=x1 at *
 generalize Ss.rin op 121 123=x2 at *
 refine jb (c:=jf Tryz.f141) Tryz.func141 rfl rfl (by simp [Tryz.ntmps141]) ?_
 rw [Tryz.ntmps141]
 intro hwf
 by_cases k1:op=69
 ·repeat (first|refine QG ?_|refine QY ?_ (r:=by conv=>lhs;simp[-List.map_set,QV,k1]))
  exact ja hwf (by simp [k1]) rfl
 by_cases k2:op=80
 ·repeat (first|refine QG ?_|refine QY ?_ (r:=by conv=>lhs;simp[-List.map_set,QV,k1,k2]))
  exact ja hwf (by simp [k2]) rfl
 repeat (first|refine QG ?_|refine QY ?_)
 repeat refine QS ?_
 refine QP ?_ (r:=by conv=>lhs;simp[-List.map_set,QV,k1,k2])
 refine jc (c1) (by rfl) ?_
 by_cases h1:x1=true
 ·refine QM (by conv=>lhs;simp[-List.map_set,QV,h1]) ?_
  refine QN ?_
  repeat (first|refine QG ?_|refine QY ?_)
  exact ja hwf (by simp [h1]) rfl
 have g1:x1=false:=by simpa using h1
 refine QM (by conv=>lhs;simp[-List.map_set,QV,g1]) ?_
 refine jc (c2) (by rfl) ?_
 by_cases h2:x2=true
 ·refine QM (by conv=>lhs;simp[-List.map_set,QV,h2]) ?_
  refine QN ?_
  repeat (first|refine QG ?_|refine QY ?_)
  exact ja hwf (by simp [h2]) rfl
 have g2:x2=false:=by simpa using h2
 refine QM (by conv=>lhs;simp[-List.map_set,QV,g2]) ?_
 refine QN ?_
 repeat (first|refine QG ?_|refine QY ?_)
 exact ja hwf (by simp [k1,k2,g1,g2]) rfl
theorem RNumSig_v (op:Int):VPure Tryz.prog 119 [vint op] (.tuple [vl vint (Ss.numSig op).1,vint (Ss.numSig op).2.1, .bool (Ss.numSig op).2.2]):=by
 intro S
 rw [←Ss.rsig_eq op]
 have c1:=Of_v op
 have c2:=Unary_v op
 have c3:VPure Tryz.prog 126 [vint op, .int .i64 69, .int .i64 90] (.bool (Ss.rin op 69 90)):=in_v op 69 90
 have hX:Ss.rsig op=if Ss.rof op=0 then ([],0,false) else (if Ss.runary op then [Ss.rof op] else [Ss.rof op,Ss.rof op],if op=172∨op=173 then 126 else if Ss.rin op 69 90∨op=167 then 127 else Ss.rof op,true):=rfl
 rw [hX]
 generalize Ss.rof op=t at *
 generalize Ss.runary op=un at *
 generalize Ss.rin op 69 90=x at *
 clear hX
 refine jb (c:=jf Tryz.f119) Tryz.func119 rfl rfl (by simp [Tryz.ntmps119]) ?_
 rw [Tryz.ntmps119]
 intro hwf
 repeat (first|refine QG ?_|refine QY ?_)
 repeat refine QS ?_
 refine QP ?_
 refine jc (c1) (by rfl) ?_
 by_cases ht:t=0
 ·refine QM (by conv=>lhs;simp[-List.map_set,QV]) ?_
  refine QN ?_
  repeat (first|refine QG ?_|refine QY ?_ (r:=by conv=>lhs;simp[-List.map_set,QV,ht]))
  rw [if_pos ht]
  exact jh (l:=[]) hwf (Ghost.toB (Ghost.tuple [] [_,_] (Ghost.nils_list _)) _) rfl
 rw [if_neg ht]
 refine QM (by conv=>lhs;simp[-List.map_set,QV]) ?_
 refine QN ?_
 repeat (first|refine QG ?_|refine QY ?_ (r:=by conv=>lhs;simp[-List.map_set,QV,ht]))
 repeat refine QS ?_
 refine QP ?_
 refine jc (c2) (by rfl) ?_
 obtain ⟨r,hr⟩ : ∃ r,(if op=172∨op=173 then 126 else if x∨op=167 then 127 else t)=r:=⟨_,rfl⟩
 simp only [hr]
 by_cases hu:un=true
 ·rw [if_pos hu]
  refine QM (by conv=>lhs;simp[-List.map_set,QV,hu]) ?_
  refine QN ?_
  repeat (first|refine QG ?_|refine QY ?_ (r:=by conv=>lhs;simp[-List.map_set,QV,hu]))
  refine vw_trim 6 1 rfl (by simp) rfl (by conv=>lhs; simp [List.set_cons_zero,List.set_cons_succ]) ?_
  repeat refine QS ?_
  refine QP ?_
  refine jc (c3) (by rfl) ?_
  by_cases hx:x=true
  ·skip
   refine QM (by conv=>lhs;simp[-List.map_set,QV,hx]) ?_
   refine QN ?_
   by_cases k1:op=172
   ·obtain rfl:r=126:=by rw [←hr]; simp [k1]
    repeat (first|refine QG ?_|refine QY ?_ (r:=by conv=>lhs;simp[-List.map_set,QV,hx,k1]))
    exact jh hwf ((Ghost.tuple [] [_,_] (frz1 (k:=0) (by simp) (by rfl) (by rfl) (by rfl))).toB _) rfl
   by_cases k2:op=173
   ·obtain rfl:r=126:=by rw [←hr]; simp [k2]
    repeat (first|refine QG ?_|refine QY ?_ (r:=by conv=>lhs;simp[-List.map_set,QV,hx,k1,k2]))
    exact jh hwf ((Ghost.tuple [] [_,_] (frz1 (k:=0) (by simp) (by rfl) (by rfl) (by rfl))).toB _) rfl
   obtain rfl:r=127:=by rw [←hr]; simp [k1,k2,hx]
   repeat (first|refine QG ?_|refine QY ?_ (r:=by conv=>lhs;simp[-List.map_set,QV,hx,k1,k2]))
   exact jh hwf ((Ghost.tuple [] [_,_] (frz1 (k:=0) (by simp) (by rfl) (by rfl) (by rfl))).toB _) rfl
  have hx':x=false:=by simpa using hx
  by_cases hq:op=167
  ·skip
   refine QM (by conv=>lhs;simp[-List.map_set,QV,hx',hq]) ?_
   refine QN ?_
   have k1 : ¬ op=172:=by omega
   have k2 : ¬ op=173:=by omega
   obtain rfl:r=127:=by rw [←hr]; simp [k1,k2,hq]
   repeat (first|refine QG ?_|refine QY ?_ (r:=by conv=>lhs;simp[-List.map_set,QV,hx',hq,k1,k2]))
   exact jh hwf ((Ghost.tuple [] [_,_] (frz1 (k:=0) (by simp) (by rfl) (by rfl) (by rfl))).toB _) rfl
  refine QM (by conv=>lhs;simp[-List.map_set,QV,hx',hq]) ?_
  refine QN ?_
  by_cases k1:op=172
  ·obtain rfl:r=126:=by rw [←hr]; simp [k1]
   repeat (first|refine QG ?_|refine QY ?_ (r:=by conv=>lhs;simp[-List.map_set,QV,hx',hq,k1]))
   exact jh hwf ((Ghost.tuple [] [_,_] (frz1 (k:=0) (by simp) (by rfl) (by rfl) (by rfl))).toB _) rfl
  by_cases k2:op=173
  ·obtain rfl:r=126:=by rw [←hr]; simp [k2]
   repeat (first|refine QG ?_|refine QY ?_ (r:=by conv=>lhs;simp[-List.map_set,QV,hx',hq,k1,k2]))
   exact jh hwf ((Ghost.tuple [] [_,_] (frz1 (k:=0) (by simp) (by rfl) (by rfl) (by rfl))).toB _) rfl
  obtain rfl:r=t:=by rw [←hr]; simp [k1,k2,hx',hq]
  repeat (first|refine QG ?_|refine QY ?_ (r:=by conv=>lhs;simp[-List.map_set,QV,hx',hq,k1,k2]))
  exact jh hwf ((Ghost.tuple [] [_,_] (frz1 (k:=0) (by simp) (by rfl) (by rfl) (by rfl))).toB _) rfl
 ·replace hu:un=false:=by simpa using hu
  rw [if_neg (by simp [hu])]
  refine QM (by conv=>lhs;simp[-List.map_set,QV,hu]) ?_
  refine QN ?_
  repeat (first|refine QG ?_|refine QY ?_ (r:=by conv=>lhs;simp[-List.map_set,QV,hu]))
  repeat refine QS ?_
  refine QP ?_
  refine jc (c3) (by rfl) ?_
  by_cases hx:x=true
  ·skip
   refine QM (by conv=>lhs;simp[-List.map_set,QV,hx]) ?_
   refine QN ?_
   by_cases k1:op=172
   ·obtain rfl:r=126:=by rw [←hr]; simp [k1]
    repeat (first|refine QG ?_|refine QY ?_ (r:=by conv=>lhs;simp[-List.map_set,QV,hx,k1]))
    exact jh hwf ((Ghost.tuple [] [_,_] (frz1 (k:=0) (by simp) (by rfl) (by rfl) (by rfl))).toB _) rfl
   by_cases k2:op=173
   ·obtain rfl:r=126:=by rw [←hr]; simp [k2]
    repeat (first|refine QG ?_|refine QY ?_ (r:=by conv=>lhs;simp[-List.map_set,QV,hx,k1,k2]))
    exact jh hwf ((Ghost.tuple [] [_,_] (frz1 (k:=0) (by simp) (by rfl) (by rfl) (by rfl))).toB _) rfl
   obtain rfl:r=127:=by rw [←hr]; simp [k1,k2,hx]
   repeat (first|refine QG ?_|refine QY ?_ (r:=by conv=>lhs;simp[-List.map_set,QV,hx,k1,k2]))
   exact jh hwf ((Ghost.tuple [] [_,_] (frz1 (k:=0) (by simp) (by rfl) (by rfl) (by rfl))).toB _) rfl
  have hx':x=false:=by simpa using hx
  by_cases hq:op=167
  ·skip
   refine QM (by conv=>lhs;simp[-List.map_set,QV,hx',hq]) ?_
   refine QN ?_
   have k1 : ¬ op=172:=by omega
   have k2 : ¬ op=173:=by omega
   obtain rfl:r=127:=by rw [←hr]; simp [k1,k2,hq]
   repeat (first|refine QG ?_|refine QY ?_ (r:=by conv=>lhs;simp[-List.map_set,QV,hx',hq,k1,k2]))
   exact jh hwf ((Ghost.tuple [] [_,_] (frz1 (k:=0) (by simp) (by rfl) (by rfl) (by rfl))).toB _) rfl
  refine QM (by conv=>lhs;simp[-List.map_set,QV,hx',hq]) ?_
  refine QN ?_
  by_cases k1:op=172
  ·obtain rfl:r=126:=by rw [←hr]; simp [k1]
   repeat (first|refine QG ?_|refine QY ?_ (r:=by conv=>lhs;simp[-List.map_set,QV,hx',hq,k1]))
   exact jh hwf ((Ghost.tuple [] [_,_] (frz1 (k:=0) (by simp) (by rfl) (by rfl) (by rfl))).toB _) rfl
  by_cases k2:op=173
  ·obtain rfl:r=126:=by rw [←hr]; simp [k2]
   repeat (first|refine QG ?_|refine QY ?_ (r:=by conv=>lhs;simp[-List.map_set,QV,hx',hq,k1,k2]))
   exact jh hwf ((Ghost.tuple [] [_,_] (frz1 (k:=0) (by simp) (by rfl) (by rfl) (by rfl))).toB _) rfl
  obtain rfl:r=t:=by rw [←hr]; simp [k1,k2,hx',hq]
  repeat (first|refine QG ?_|refine QY ?_ (r:=by conv=>lhs;simp[-List.map_set,QV,hx',hq,k1,k2]))
  exact jh hwf ((Ghost.tuple [] [_,_] (frz1 (k:=0) (by simp) (by rfl) (by rfl) (by rfl))).toB _) rfl
end Go.Vw

namespace Ss
def rtotal (op:Int):Bool := !decide (rof op=0) && !rin op 109 112 && !rin op 127 130
theorem rtotal_small : ∀ n:Nat,n<256→rtotal (n:Int)=total (n:Int):=by decide +kernel
theorem rtotal_eq (op:Int):rtotal op=total op:=by
 by_cases h:0≤op∧op<256
 ·obtain ⟨n,rfl⟩:=Int.eq_ofNat_of_zero_le h.1
  exact rtotal_small n (by have:=h.2; omega)
 ·have h1:rof op=0:=by
   unfold rof
   rw [if_neg (by simp only [rin,Bool.and_eq_true,decide_eq_true_eq]; omega),if_neg (by simp only [rin,Bool.and_eq_true,decide_eq_true_eq]; omega)]
  have h2:find op=none:=by
   cases hf:find op with
   | none=>rfl
   | some g =>
    exfalso
    obtain ⟨hm,hh⟩:=Yi hf
    have ha : ∀ g∈groups,0≤g.first∧g.first+g.many≤256:=by decide +kernel
    have:=ha g hm
    simp only [Grp.has,Bool.and_eq_true,decide_eq_true_eq] at hh
    omega
  simp [rtotal,h1,total,h2]
end Ss
namespace Go.Vw
open Go.Proofs Go.RowKit
set_option maxRecDepth 10000
set_option maxHeartbeats 2000000
theorem RTotal_v (op:Int):VPure Tryz.prog 96 [vint op] (.bool (Ss.total op)):=by
 intro S
 rw [←Ss.rtotal_eq op]
 have c1:=Of_v op
 have c2:VPure Tryz.prog 126 [vint op, .int .i64 109, .int .i64 112] (.bool (Ss.rin op 109 112)):=in_v op 109 112
 have c3:VPure Tryz.prog 126 [vint op, .int .i64 127, .int .i64 130] (.bool (Ss.rin op 127 130)):=in_v op 127 130
 have hX:Ss.rtotal op=(!decide (Ss.rof op=0) && !Ss.rin op 109 112 && !Ss.rin op 127 130):=rfl
 rw [hX]
 generalize Ss.rof op=t at *
 generalize Ss.rin op 109 112=x at *
 generalize Ss.rin op 127 130=y at *
 refine jb (c:=jf Tryz.f96) Tryz.func96 rfl rfl (by simp [Tryz.ntmps96]) ?_
 rw [Tryz.ntmps96]
 intro hwf
 repeat refine QS ?_
 refine QP ?_
 refine QN ?_
 repeat refine QS ?_
 refine QP ?_
 refine jc (c1) (by rfl) ?_
 by_cases ht:t=0
 ·refine QM (by conv=>lhs;simp[-List.map_set,QV,ht]) ?_
  refine QN ?_
  repeat (first|refine QG ?_|refine QY ?_ (r:=by conv=>lhs;simp[-List.map_set,QV,ht]))
  exact ja hwf (by simp [ht]) rfl
 ·refine QM (by conv=>lhs;simp[-List.map_set,QV,ht]) ?_
  refine jc (c2) (by rfl) ?_
  cases x with
  | true =>
   refine QM (by conv=>lhs;simp[-List.map_set,QV,ht]) ?_
   refine QN ?_
   repeat (first|refine QG ?_|refine QY ?_)
   exact ja hwf (by simp [ht]) rfl
  | false =>
   refine QM (by conv=>lhs;simp[-List.map_set,QV,ht]) ?_
   refine jc (c3) (by rfl) ?_
   refine QM (by conv=>lhs;simp[-List.map_set,QV]) ?_
   refine QN ?_
   repeat (first|refine QG ?_|refine QY ?_)
   exact ja hwf (by simp [ht]) rfl
theorem RPure_v (op:Int):VPure Tryz.prog 61 [vint op] (.bool (Ss.pure op)):=by
 intro S
 have c1:=RTotal_v op
 have hX:Ss.pure op=(decide (op=256)||decide (op=27)||Ss.total op):=rfl
 rw [hX]
 generalize Ss.total op=t at *
 refine jb (c:=jf Tryz.f61) Tryz.func61 rfl rfl (by simp [Tryz.ntmps61]) ?_
 rw [Tryz.ntmps61]
 intro hwf
 repeat refine QS ?_
 refine QP ?_
 refine QN ?_
 by_cases h1:op=256
 ·repeat (first|refine QG ?_|refine QY ?_ (r:=by conv=>lhs;simp[-List.map_set,QV,h1]))
  exact ja hwf (by simp [h1]) rfl
 by_cases h2:op=27
 ·repeat (first|refine QG ?_|refine QY ?_ (r:=by conv=>lhs;simp[-List.map_set,QV,h1,h2]))
  exact ja hwf (by simp [h2]) rfl
 repeat refine QS ?_
 refine QP ?_ (r:=by conv=>lhs;simp[-List.map_set,QV,h1,h2])
 refine jc (c1) (by rfl) ?_
 refine QM (by conv=>lhs;simp[-List.map_set,QV]) ?_
 refine QN ?_
 repeat (first|refine QG ?_|refine QY ?_)
 exact ja hwf (by simp [h1,h2]) rfl
end Go.Vw

namespace Ss
def rDefB (d:Def):Int:=if d.made then d.block else -1
def madeI (f:Fn):List Int:=((defsOf f).getD []).map rDefB
end Ss
namespace Go.Vw
open Go.Proofs Go.RowKit
set_option maxRecDepth 10000
set_option maxHeartbeats 4000000
theorem RMade_v (f:Ss.Fn) (hf:f.Fits) (hts:f.types.length≤1048576) {ds:List Ss.Def} (hds:Ss.defsOf f=some ds) (hdl:ds.length=f.types.length):VPure Tryz.prog 62 [qW f] (vl vint (ds.map Ss.rDefB)):=by
 intro S
 have cd:=Defs_v f hf hts
 rw [hds] at cd
 rw [←hdl] at hts
 clear hds hdl hf
 obtain ⟨⟨fi,fo⟩,ts,bs⟩:=f
 have cd':VPure Tryz.prog 44 [.agg [vl vint fi,vl vint fo,vl vint ts,vl je bs]] (.tuple [vl jR ds, .bool true]):=cd
 refine jb (c:=jf Tryz.f62) Tryz.func62 rfl rfl (by simp [Tryz.ntmps62]) ?_
 rw [Tryz.ntmps62]
 intro hwf
 repeat refine QS ?_
 refine QP ?_
 refine QN ?_
 refine ji 1 rfl ((zP (k:=0) (by simp) (by rfl) (by rfl) (by simp))) (by conv=>lhs; simp [Fr.set]) ?_
 simp only [List.set_cons_succ,List.set_cons_zero]
 repeat refine QS ?_
 refine QP ?_
 refine jc (cd') (by rfl) ?_
 refine QM (by conv=>lhs;simp[-List.map_set,QV]) ?_
 refine QN ?_
 refine jK [3] (by conv=>lhs; simp [Fr.only,Fr.look]) ?_
 refine zo [] hwf (by decide) (by simp [-List.map_set]) (by conv=>lhs; simp [-List.map_set]) (by conv=>lhs; simp [-List.map_set]) (by conv=>lhs; simp [-List.map_set]) ?_
 repeat refine QS ?_
 refine QP ?_
 refine QN ?_
 refine qP 5 1 rfl (by conv=>lhs; simp [Fr.set]) ?_
 repeat (first|refine QG ?_|refine QY ?_)
 repeat refine QS ?_
 refine jd [3,5,6] rfl (fun c σ S' => ∃ (k:Nat) (out:List Int),k≤ds.length∧out=(ds.take k).map Ss.rDefB∧out.length=k∧c=ds.length-k∧σ=[(3,vl jR ds),(5, .slice (lid S.nx 0) 0 k),(6,vnat k)]∧S'=St S [] [some (1,out.map vint)]) ds.length ?_ ?_
 ·exact ⟨0,[],by omega,rfl,rfl,rfl,by simp [Fr.only,Fr.look],by simp⟩
 ·rintro c σ T ⟨k,out,hk,hout,hol,rfl,rfl,rfl⟩
  by_cases hkt:k<ds.length
  ·have hw:=jn hkt (by omega)
   have hxi : ∀ S',qe 2 S' (vl jR ds) (V.int .i64 (k:Int))=some (.ref (jR ds[k])):=fun S'=>Jl rfl (by rw [List.getElem?_eq_getElem hkt])
   have hd1:out++[Ss.rDefB ds[k]]=(ds.take (k+1)).map Ss.rDefB:=by
    rw [List.take_add_one,List.getElem?_eq_getElem hkt,List.map_append, ←hout]; rfl
   generalize ds[k]=d at hxi hd1
   have he:jR d = .agg [vint (Ss.rDefB d),vint (if d.made then d.pos else 0)]:=rfl
   rw [he] at hxi
   generalize Ss.rDefB d=q at *
   subst hol
   have hb8:(out.length+1)*8≤140737488355328:=by omega
   have hb1:out.length+1≤140737488355328:=by omega
   repeat (first|refine QG ?_|refine QY ?_ (r:=by conv=>lhs;simp[-List.map_set,QV,hkt,hxi,hw,hb8,hb1]))
   refine QA [2] (h:=⟨?_,out.length+1,out++[q],hkt,hd1,by simp,rfl,by simp [Fr.only,Fr.look],by simp⟩)
   omega
  ·have hke:k=ds.length:=by omega
   subst hke
   rw [List.take_length] at hout
   rw [←hout]
   repeat (first|refine QG ?_|refine QY ?_ (r:=by conv=>lhs;simp[-List.map_set,QV,hkt]))
   exact jh hwf ((frz1 (by simp) (by rfl) (jF vint (fun _=>rfl) _) (by simpa using hol)).toB _) rfl
end Go.Vw

namespace Ss
def rHome (ds:List Def) (v:Int):Int:=(ds.map rDefB).getD v.toNat 0
end Ss
namespace Go.Vw
open Go.Proofs Go.RowKit
set_option maxRecDepth 10000
set_option maxHeartbeats 4000000
theorem RMoves_v (f:Ss.Fn) (hf:f.Fits) (hts:f.types.length≤1048576) {ds:List Ss.Def} (hds:Ss.defsOf f=some ds) (hdl:ds.length=f.types.length) (x:Ss.Ins) (nodes:List Nat) (hn:nodes.length<2^63) (hal:x.args.length<2^62) (hxa : ∀ a∈x.args,Ss.InR f.types.length a):VPure Tryz.prog 22 [qW f,jt x,vl vnat nodes] (.bool (Ss.canMove (Ss.rHome ds) nodes x)):=by
 intro S
 have cp:=RPure_v x.op
 have cm:=RMade_v f hf hts hds hdl
 have ci:=fun v=>RIn_v (nodes.map Int.ofNat) v (by rw [List.length_map]; exact hn)
 rw [←vl_nat] at ci
 rw [←hdl] at hxa hts
 clear hds hdl hf
 obtain ⟨⟨fi,fo⟩,ts,bs⟩:=f
 obtain ⟨xo,xn,xa,xs⟩:=x
 simp only at hal hxa cp
 have cm':VPure Tryz.prog 62 [.agg [vl vint fi,vl vint fo,vl vint ts,vl je bs]] (vl vint (ds.map Ss.rDefB)):=cm
 have hres:Ss.canMove (Ss.rHome ds) nodes ⟨xo,xn,xa,xs⟩=(Ss.pure xo&&xa.all fun a => !decide (Ss.rHome ds a∈nodes.map Int.ofNat)):=rfl
 rw [hres]
 clear hres
 refine jb (c:=jf Tryz.f22) Tryz.func22 rfl rfl (by simp [Tryz.ntmps22]) ?_
 rw [Tryz.ntmps22]
 intro hwf
 repeat refine QS ?_
 refine QP ?_
 refine QN ?_
 refine ji 3 rfl ((zP (k:=0) (by simp) (by rfl) (by rfl) (by simp))) (by conv=>lhs; simp [Fr.set]) ?_
 simp only [List.set_cons_succ,List.set_cons_zero]
 refine ji 4 rfl ((zP (k:=1) (by simp) (by rfl) (by rfl) (by simp))) (by conv=>lhs; simp [Fr.set]) ?_
 simp only [List.set_cons_succ,List.set_cons_zero]
 repeat refine QS ?_
 refine QP ?_
 refine jc (cp) (by rfl) ?_
 cases hpu:Ss.pure xo with
 | false =>
  refine QM (by conv=>lhs;simp[-List.map_set,QV]) ?_
  refine QN ?_
  repeat (first|refine QG ?_|refine QY ?_)
  exact ja (X := .bool false) hwf (by simp) rfl
 | true =>
  refine QM (by conv=>lhs;simp[-List.map_set,QV]) ?_
  refine QN ?_
  repeat (first|refine QG ?_|refine QY ?_)
  repeat refine QS ?_
  refine QP ?_
  refine jc (cm') (by rfl) ?_
  refine QM (by conv=>lhs;simp[-List.map_set,QV]) ?_
  refine QN ?_
  refine jK [2,4,7] (by conv=>lhs; simp [Fr.only,Fr.look]) ?_
  refine zo [] hwf (by decide) (by simp [-List.map_set]) (by conv=>lhs; simp [-List.map_set]) (by conv=>lhs; simp [-List.map_set]) (by conv=>lhs; simp [-List.map_set]) ?_
  simp only [Bool.true_and]
  repeat (first|refine QG ?_|refine QY ?_)
  repeat refine QS ?_
  refine jd [2,4,7,8] rfl (fun c σ S' => ∃ (k:Nat),k≤xa.length∧c=xa.length-k∧((xa.drop k).all fun a => !decide (Ss.rHome ds a∈nodes.map Int.ofNat))=(xa.all fun a => !decide (Ss.rHome ds a∈nodes.map Int.ofNat))∧σ=[(2,vl vnat nodes),(4,(V.agg [vint xo,vu xn,vl vint xa,vl vint xs]).ref),(7,vl vint (ds.map Ss.rDefB)),(8,vnat k)]∧S'=St S [] []) xa.length ?_ ?_
  ·exact ⟨0,by omega,rfl,rfl,by simp [Fr.only,Fr.look],by simp⟩
  ·rintro c σ T ⟨k,hk,rfl,hd,rfl,rfl⟩
   by_cases hkt:k<xa.length
   ·have hw:=jn hkt (by omega)
    rw [List.drop_eq_getElem_cons hkt,List.all_cons] at hd
    obtain ⟨h0,h1⟩:=hxa _ (List.getElem_mem hkt)
    obtain ⟨m,hm⟩ : ∃ m:Nat,xa[k]=(m:Int):=⟨xa[k].toNat,by omega⟩
    rw [hm] at hd h0 h1
    have hml:m<(ds.map Ss.rDefB).length:=by rw [List.length_map]; omega
    have hrh:Ss.rHome ds (m:Int)=(ds.map Ss.rDefB)[m]:=by rw [Ss.rHome,Int.toNat_natCast,List.getD_eq_getElem?_getD,List.getElem?_eq_getElem hml]; rfl
    rw [hrh] at hd
    have ci2:=ci (ds.map Ss.rDefB)[m]
    generalize hL:ds.map Ss.rDefB=L at *
    cases hin:decide (L[m]∈nodes.map Int.ofNat) with
    | true =>
     rw [hin] at hd ci2
     rw [←hd]
     repeat (first|refine QG ?_|refine QY ?_ (r:=by conv=>lhs;simp[-List.map_set,QV,hkt]))
     repeat refine QS ?_
     refine QP ?_ (r:=by conv=>lhs;simp[-List.map_set,QV,hkt,hm,hml])
     refine jo rfl (ci2) ?_
     refine QM (by conv=>lhs;simp[-List.map_set,QV]) ?_
     refine QN ?_
     repeat (first|refine QG ?_|refine QY ?_)
     exact ja (X := .bool false) hwf (by simp) rfl
    | false =>
     rw [hin] at hd ci2
     simp only [Bool.not_false,Bool.true_and] at hd
     repeat (first|refine QG ?_|refine QY ?_ (r:=by conv=>lhs;simp[-List.map_set,QV,hkt]))
     repeat refine QS ?_
     refine QP ?_ (r:=by conv=>lhs;simp[-List.map_set,QV,hkt,hm,hml])
     refine jo rfl (ci2) ?_
     refine QM (by conv=>lhs;simp[-List.map_set,QV]) ?_
     refine QN ?_
     repeat (first|refine QG ?_|refine QY ?_ (r:=by conv=>lhs;simp[-List.map_set,QV,hw]))
     show jv _ _ _ _ _ _ _
     exact again ⟨Nat.sub_lt_sub_left hkt (Nat.lt_succ_self k),k+1,hkt,rfl,hd,by simp [Fr.only,Fr.look],rfl⟩
   ·have e:xa.drop k=[]:=by rw [List.drop_eq_nil_iff]; omega
    rw [e] at hd
    rw [←hd]
    repeat (first|refine QG ?_|refine QY ?_ (r:=by conv=>lhs;simp[-List.map_set,QV,hkt]))
    exact ja (X := .bool true) hwf (by simp) rfl
end Go.Vw

namespace Go.Vw
open Go.Proofs Go.RowKit
set_option maxRecDepth 10000
set_option maxHeartbeats 8000000
theorem RSuccO_v (S:Store) (f:Ss.Fn) (hf:f.Fits) (hs:f.small=true):VCalls Tryz.prog 20 [qW f] S (fun r T=>r = .slice (lid S.nx 0) 0 f.blocks.length∧T=St S [] [some (1,(Ss.succs f.blocks).map (vl vint))]):=by
 have cs:=jca f hf
 have hsb := @jZ f
 obtain ⟨⟨fi,fo⟩,ts,bs⟩:=f
 rw [hs] at cs
 obtain ⟨sm,hsm⟩ : ∃ sm,sm=true:=⟨_,rfl⟩
 rw [←hsm] at cs
 have cs':VPure Tryz.prog 35 [.agg [vl vint fi,vl vint fo,vl vint ts,vl je bs]] (.bool sm):=cs
 obtain ⟨_,hbl,hbf,_⟩:=hsb hs
 simp only at hbl hbf ⊢
 refine jb (c:=jf Tryz.f20) Tryz.func20 rfl rfl (by simp [Tryz.ntmps20]) ?_
 rw [Tryz.ntmps20]
 intro hwf
 repeat (first|refine QG ?_|refine QY ?_)
 repeat refine QS ?_
 refine QP ?_
 refine jc (cs') (by rfl) ?_
 refine QM (by conv=>lhs;simp[-List.map_set,QV,hsm]) ?_
 refine QN ?_
 repeat (first|refine QG ?_|refine QY ?_)
 refine qP 3 1 rfl (by conv=>lhs; simp [Fr.set]) ?_
 repeat refine QS ?_
 refine jd [1,3,4] rfl (fun c σ S' => ∃ (k:Nat) (out:List (List Int)),k≤bs.length∧c=bs.length-k∧out.length=k∧out=(bs.take k).map Ss.rowOf∧σ=[(1, .ptr (lid S.nx 0) 0),(3, .slice (lid S.nx 1) 0 k),(4,vnat k)]∧S'=St S [] [some (4,[vl vint fi,vl vint fo,vl vint ts,vl je bs]),some (1,out.map (vl vint))]) bs.length ?_ ?_
 ·exact ⟨0,[],by omega,rfl,rfl,by simp,by simp [Fr.only],by simp⟩
 ·rintro c σ T ⟨k,out,hk,rfl,hol,ho,rfl,rfl⟩
  by_cases hkt:k<bs.length
  ·have hw:=jn hkt (by omega)
   obtain ⟨_,htl,_,_⟩:=hbf _ (List.getElem_mem hkt)
   obtain ⟨⟨ps,code,⟨tk,ta,to,az⟩⟩,hx⟩ : ∃ b,bs[k]=b:=⟨_,rfl⟩
   rw [hx] at htl
   simp only at htl
   have htk:bs.take (k+1)=bs.take k++[⟨ps,code,⟨tk,ta,to,az⟩⟩]:=by rw [List.take_add_one,List.getElem?_eq_getElem hkt,hx]; rfl
   repeat (first|refine QG ?_|refine QY ?_ (r:=by conv=>lhs;simp[-List.map_set,QV,hkt,hx]))
   refine qP 5 1 rfl (by conv=>lhs; simp [Fr.set]) ?_
   repeat refine QS ?_
   refine jd [1,3,4,5,6] rfl (fun c σ S' => ∃ (j:Nat) (r:List Int),j≤to.length∧c=to.length-j∧r.length=j∧r=(to.take j).map Ss.Edge.to∧σ=[(1, .ptr (lid S.nx 0) 0),(3, .slice (lid S.nx 1) 0 k),(4,vnat k),(5, .slice (lid S.nx 2) 0 j),(6,vnat j)]∧S'=St S [] [some (4,[vl vint fi,vl vint fo,vl vint ts,vl je bs]),some (1,out.map (vl vint)),some (1,r.map vint)]) to.length ?_ ?_
   ·exact ⟨0,[],by omega,rfl,rfl,by simp,by simp [Fr.only],by simp⟩
   ·rintro c σ T ⟨j,r,hj,rfl,hrl,hr,rfl,rfl⟩
    by_cases hjt:j<to.length
    ·have hwj:=jn hjt (by omega)
     have hb:(j+1)*8≤140737488355328:=by omega
     have hb':j+1≤140737488355328:=by omega
     obtain ⟨⟨xt,xa⟩,hx2⟩ : ∃ b,to[j]=b:=⟨_,rfl⟩
     have htj:to.take (j+1)=to.take j++[⟨xt,xa⟩]:=by rw [List.take_add_one,List.getElem?_eq_getElem hjt,hx2]; rfl
     repeat (first|refine QG ?_|refine QY ?_ (r:=by conv=>lhs;simp[-List.map_set,QV,hkt,hx,hjt,hx2,hb,hb',hrl]))
     refine QA [0,1,4] (h:=⟨?_,j+1,r++[xt],hjt,rfl,by simp [hrl],by rw [htj,List.map_append,hr]; rfl,by simp [hwj],by simp⟩)
     omega
    ·have hje:j=to.length:=by omega
     subst hje
     rw [List.take_length] at hr
     have hb:(k+1)*24≤140737488355328:=by omega
     have hb':k+1≤140737488355328:=by omega
     repeat refine QS ?_
     refine QP ?_ (r:=by conv=>lhs;simp[-List.map_set,QV,hkt,hx,hjt])
     refine QN ?_
     repeat refine QS ?_
     refine jD rfl rfl rfl ?_
     repeat refine QS ?_
     refine jL 2 rfl rfl ?_
     refine ji 5 rfl ((frz1 (k:=2) (len:=to.length) (by simp) (by rfl) (jF vint (fun _=>rfl) _) (by simpa using hrl))) (by conv=>lhs; simp [Fr.set]) ?_
     simp only [List.set_cons_succ,List.set_cons_zero]
     repeat (first|refine QG ?_|refine QY ?_ (r:=by conv=>lhs;simp[-List.map_set,QV,hb,hb',hol]))
     refine QA [0,4] (h:=⟨?_,k+1,out++[r],hkt,rfl,by simp [hol],by rw [htk,List.map_append, ←ho,hr]; rfl,by simp [hw],by simp [vl]⟩)
     omega
  ·have hke:k=bs.length:=by omega
   subst hke
   rw [List.take_length] at ho
   repeat refine QS ?_
   refine QP ?_ (r:=by conv=>lhs;simp[-List.map_set,QV,hkt])
   refine QN ?_
   repeat refine QS ?_
   refine jD rfl rfl rfl ?_
   repeat refine QS ?_
   refine jL 0 rfl rfl ?_
   refine jK [3] (by conv=>lhs; simp [Fr.only,Fr.look]) ?_
   refine zo [1] hwf (by decide) (by simp [-List.map_set]) (by conv=>lhs; simp [-List.map_set]) (by conv=>lhs; simp [-List.map_set]) (by conv=>lhs; simp [-List.map_set]) ?_
   repeat (first|refine QG ?_|refine QY ?_)
   rw [Ss.succs, ←ho]
   exact zF ⟨by simp,rfl⟩
end Go.Vw

namespace Go.Vw
open Go.Proofs Go.RowKit
set_option maxRecDepth 10000
set_option maxHeartbeats 4000000
theorem RSucc_v (f:Ss.Fn) (hf:f.Fits) (hs:f.small=true):VPure Tryz.prog 20 [qW f] (vl (vl vint) (Ss.succs f.blocks)):=by
 intro S
 refine JB fun hwf=>zJ ((RSuccO_v S f hf hs).mono ?_)
 rintro r T ⟨rfl,rfl⟩
 exact jh hwf ((frz1 (k:=0) (cells:=(Ss.succs f.blocks).map (vl vint)) (by simp) (by rfl) (jF (vl vint) (fun _=>rfl) _) (by simp [Ss.succs])).toB _) rfl
theorem any_drop {α:Type} (p:α→Bool) {l:List α} {k:Nat} (h:k<l.length):(l.drop k).any p=(p l[k]||(l.drop (k+1)).any p):=by
 rw [List.drop_eq_getElem_cons h,List.any_cons]
theorem any_drop_end {α:Type} (p:α→Bool) {l:List α} {k:Nat} (h : ¬ k<l.length):(l.drop k).any p=false:=by
 have:l.drop k=[]:=by rw [List.drop_eq_nil_iff]; omega
 rw [this]; rfl
theorem ticks_v (b:Ss.Block) (hb:b.code.length<2^63):VPure Tryz.prog 87 [je b] (.bool (Ss.tickB b)):=by
 intro S
 obtain ⟨ps,code,⟨tk,ta,to,az⟩⟩:=b
 simp only at hb
 have hX:Ss.tickB ⟨ps,code,⟨tk,ta,to,az⟩⟩=code.any fun x=>decide (x.op=258):=rfl
 rw [hX]
 generalize hP:(fun x:Ss.Ins=>decide (x.op=258))=P
 refine jb (c:=jf Tryz.f87) Tryz.func87 rfl rfl (by simp [Tryz.ntmps87]) ?_
 rw [Tryz.ntmps87]
 intro hwf
 repeat (first|refine QG ?_|refine QY ?_)
 repeat refine QS ?_
 refine jd [1,3] rfl (fun c σ S' => ∃ (k:Nat),k≤code.length∧c=code.length-k∧(code.drop k).any P=code.any P∧σ=[(1, .ptr (lid S.nx 0) 0),(3,vnat k)]∧S'=St S [] [some (6,[vl vint ps,vl jt code,vint tk,vint ta,vl jq to,vl vint az])]) code.length ?_ ?_
 ·exact ⟨0,by omega,rfl,rfl,by simp [Fr.only],rfl⟩
 ·rintro c σ T ⟨k,hk,rfl,hd,rfl,rfl⟩
  by_cases hkt:k<code.length
  ·have hst:=any_drop P hkt
   have hw:=jn hkt hb
   obtain ⟨⟨o,n,a,u⟩,hx⟩ : ∃ x,code[k]=x:=⟨_,rfl⟩
   have hp:P ⟨o,n,a,u⟩=decide (o=258):=by rw [←hP]
   rw [hx,hp] at hst
   by_cases h1:o=258
   ·rw [decide_eq_true h1,Bool.true_or,hd] at hst
    repeat (first|refine QG ?_|refine QY ?_ (r:=by conv=>lhs;simp[-List.map_set,QV,hkt,hx,h1]))
    rw [hst]
    exact ja hwf rfl rfl
   ·rw [decide_eq_false h1,Bool.false_or,hd] at hst
    repeat (first|refine QG ?_|refine QY ?_ (r:=by conv=>lhs;simp[-List.map_set,QV,hkt,hx,h1,hw]))
    show jv _ _ _ _ _ _ _
    exact again ⟨by omega,k+1,by omega,rfl,hst.symm,by simp [Fr.only],rfl⟩
  ·repeat (first|refine QG ?_|refine QY ?_ (r:=by conv=>lhs;simp[-List.map_set,QV,hkt]))
   rw [←hd,any_drop_end _ hkt]
   exact ja hwf rfl rfl
end Go.Vw

namespace Ss
theorem rHome_home {e:Env} {f:Fn} (h:check e f=true) {ds:List Def} (hds:defsOf f=some ds) : ∀ b∈f.blocks, ∀ x∈b.code, ∀ a∈x.args,rHome ds a=ql f a:=by
 intro b hb x hx a ha
 have hin:=(check_dok h).args b hb x hx a ha
 obtain ⟨hdl,_⟩:=defs_in hds
 obtain ⟨_,ds',hds',_,hbs⟩:=check_spec h
 rw [hds] at hds'
 cases hds'
 obtain ⟨j,hj⟩:=List.mem_iff_getElem?.1 hb
 obtain ⟨k,hk⟩:=List.mem_iff_getElem?.1 hx
 obtain ⟨c1,_⟩:=qu hbs hj
 have hins:=qZ c1 hk
 simp only [insOk,Bool.and_eq_true] at hins
 obtain ⟨t,ht⟩:=jae hins.2 a ha
 simp only [askOk,Bool.and_eq_true,decide_eq_true_eq] at ht
 obtain ⟨⟨⟨⟨q1,q2⟩,q3⟩,q4⟩,q5⟩:=ht
 have hm:a.toNat<ds.length:=by have:=hin.1; have:=hin.2; omega
 have q4:(ds.getD a.toNat default).made=true:=q4
 rw [List.getD_eq_getElem?_getD,List.getElem?_eq_getElem hm,Option.getD_some] at q4
 rw [rHome,List.getD_eq_getElem?_getD,List.getElem?_map,List.getElem?_eq_getElem hm,ql,hds,Option.getD_some,List.getD_eq_getElem?_getD,List.getElem?_eq_getElem hm]
 simp [rDefB,q4]
theorem rFirst_eq {e:Env} {f:Fn} (h:check e f=true) {ds:List Def} (hds:defsOf f=some ds):first f.blocks (rHome ds) (lps f.blocks)=first f.blocks (ql f) (lps f.blocks):=by
 refine KU (fun n x hx a ha => ?_) _
 have hb:f.blocks.getD n default∈f.blocks∨f.blocks.getD n default=default:=by
  rw [List.getD_eq_getElem?_getD]
  cases hn:f.blocks[n]? with
  | none=>exact .inr rfl
  | some b=>exact .inl (List.mem_of_getElem? hn)
 rcases hb with hb | hb
 ·exact rHome_home h hds _ hb x hx a ha
 ·rw [hb] at hx
  cases hx
end Ss
namespace Go.Vw
open Go.Proofs Go.RowKit
set_option maxRecDepth 10000
set_option maxHeartbeats 4000000
def firstV:Option (Nat × Nat × Nat)→V
 | none => .tuple [vint 0,vint 0,vint 0, .bool false]
 | some m => .tuple [vnat m.1,vnat m.2.1,vnat m.2.2, .bool true]
end Go.Vw
