import Derived.Test.YtkfllaokjaldnaaC16
import Derived.Test.YtkfllaokjaldnaaC19
import Derived.Test.YtkfllaokjaldnaaC28
import Derived.Test.YtkfllaokjaldnaaC26
import Derived.Test.YtkfllaokjaldnaaC11
import Derived.Test.YtkfllaokjaldnaaProg
import Derived.Test.YtkfllaokjaldnaaC12
import Derived.Test.YtkfllaokjaldnaaC13
import Derived.Test.YtkfllaokjaldnaaC15
/-
  Part of the proof (texts LBin, LPor, LHomeP, GWalk, GOrder, GWithout, GTable, GRNear, LGA).
-/
set_option linter.unusedVariables false
set_option linter.unusedSimpArgs false
namespace Go.Vw
open Go.Proofs Go.RowKit
set_option maxRecDepth 10000
set_option maxHeartbeats 4000000
theorem Nan0_v (x:Int):VPure Try.prog 64 [vint x] (.bool false):=by
 intro S
 refine ja (c:=jf Try.f64) Try.func64 rfl rfl (by simp [Try.ntmps64]) ?_
 rw [Try.ntmps64]
 intro hwf
 repeat (first|refine QG ?_|refine QY ?_)
 exact jb hwf rfl rfl
theorem Nan1_v (x:Int):VPure Try.prog 42 [vint x] (.bool false):=by
 intro S
 refine ja (c:=jf Try.f42) Try.func42 rfl rfl (by simp [Try.ntmps42]) ?_
 rw [Try.ntmps42]
 intro hwf
 repeat (first|refine QG ?_|refine QY ?_)
 exact jb hwf rfl rfl
theorem Less_int_v (x y:Int):VPure Try.prog 41 [vint x,vint y] (.bool (decide (x<y))):=by
 intro S
 have cn:=Nan0_v x
 refine ja (c:=jf Try.f41) Try.func41 rfl rfl (by simp [Try.ntmps41]) ?_
 rw [Try.ntmps41]
 intro hwf
 repeat (first|refine QG ?_|refine QY ?_)
 repeat refine QS ?_
 refine QP ?_
 refine jm rfl (cn) ?_
 by_cases h:x<y
 ·refine QM (by conv=>lhs;simp[-List.map_set,QV,h]) ?_
  refine QN ?_
  repeat (first|refine QG ?_|refine QY ?_ (r:=by conv=>lhs;simp[-List.map_set,QV,h]))
  exact jb hwf (by simp [h]) rfl
 ·refine QM (by conv=>lhs;simp[-List.map_set,QV,h]) ?_
  refine QN ?_
  repeat (first|refine QG ?_|refine QY ?_ (r:=by conv=>lhs;simp[-List.map_set,QV,h]))
  exact jb hwf (by simp [h]) rfl
theorem Index_v (l:List Int) (x:Int) (hl:l.length<2^63):VPure Try.prog 14 [vl vint l,vint x] (vint (jP (fun y=>decide (x=y)) l 0)):=by
 intro S
 refine ja (c:=jf Try.f14) Try.func14 rfl rfl (by simp [Try.ntmps14]) ?_
 rw [Try.ntmps14]
 intro hwf
 repeat (first|refine QG ?_|refine QY ?_)
 repeat refine QS ?_
 refine je [0,1,7,8] rfl (fun c σ S' => ∃ (k:Nat),k≤l.length∧c=l.length-k∧jP (fun y=>decide (x=y)) (l.drop k) k=jP (fun y=>decide (x=y)) l 0∧σ=[(0,vl vint l),(1,vint x),(7,vnat l.length),(8,vnat k)]∧S'=St S [] []) l.length ?_ ?_
 ·exact ⟨0,by omega,rfl,rfl,by simp [Fr.only],rfl⟩
 ·rintro c σ T ⟨k,hk,rfl,hd,rfl,rfl⟩
  by_cases hkt:k<l.length
  ·have hst:jP (fun y=>decide (x=y)) (l.drop k) k=if decide (x=l[k])=true then (k:Int) else jP (fun y=>decide (x=y)) (l.drop (k+1)) (k+1):=by rw [List.drop_eq_getElem_cons hkt,jP]
   have hw:=jn hkt hl
   by_cases hp:x=l[k]
   ·rw [if_pos (by simpa using hp)] at hst
    repeat (first|refine QG ?_|refine QY ?_ (r:=by conv=>lhs;simp[-List.map_set,QV,hkt,hp]))
    exact jb hwf (by rw [←hd,hst]; rfl) rfl
   ·rw [if_neg (by simpa using hp)] at hst
    repeat (first|refine QG ?_|refine QY ?_ (r:=by conv=>lhs;simp[-List.map_set,QV,hkt,hp]))
    show jC _ _ _ _ _ _ _
    exact again ⟨Nat.sub_lt_sub_left hkt (Nat.lt_succ_self k),k+1,hkt,rfl,by rw [←hd,hst],by simp [Fr.only,hw],rfl⟩
  ·have e:l.drop k=[]:=by rw [List.drop_eq_nil_iff]; omega
   rw [e] at hd
   repeat (first|refine QG ?_|refine QY ?_ (r:=by conv=>lhs;simp[-List.map_set,QV,hkt]))
   exact jb hwf (by rw [←hd]; rfl) rfl
theorem Contains_v (l:List Int) (x:Int) (hl:l.length<2^63):VPure Try.prog 8 [vl vint l,vint x] (.bool (decide (x∈l))):=by
 intro S
 have ci:=Index_v l x hl
 have he:decide (x∈l)=decide (0≤jP (fun y=>decide (x=y)) l 0):=by
  rw [zr,Bool.eq_iff_iff]
  simp
 rw [he]
 refine ja (c:=jf Try.f8) Try.func8 rfl rfl (by simp [Try.ntmps8]) ?_
 rw [Try.ntmps8]
 intro hwf
 repeat (first|refine QG ?_|refine QY ?_)
 repeat refine QS ?_
 refine QP ?_
 refine jm rfl (ci) ?_
 refine QM (by conv=>lhs;simp[-List.map_set,QV]) ?_
 refine QN ?_
 repeat (first|refine QG ?_|refine QY ?_)
 exact jb hwf rfl rfl
def bsI (l:List Int) (x:Int) (i j:Nat):Nat:=if h:i<j then (if l.getD ((i+j) / 2) 0<x then bsI l x ((i+j) / 2+1) j else bsI l x i ((i+j) / 2)) else i
termination_by j-i
theorem BinSearch_v (l:List Int) (x:Int) (hl:l.length<4611686018427387904) (hs:l.Pairwise (· < ·)):VPure Try.prog 20 [vl vint l,vint x] (.tuple [vnat (bsI l x 0 l.length), .bool (decide (x∈l))]):=by
 intro S
 have hle : ∀ (a b:Nat) (ha:a<l.length) (hb:b<l.length),a<b→l[a]<l[b]:=fun a b ha hb hab=>List.pairwise_iff_getElem.1 hs a b ha hb hab
 refine ja (c:=jf Try.f20) Try.func20 rfl rfl (by simp [Try.ntmps20]) ?_
 rw [Try.ntmps20]
 intro hwf
 repeat (first|refine QG ?_|refine QY ?_)
 repeat refine QS ?_
 refine je [0,1,6,7,8] rfl (fun c σ S' => ∃ (i j:Nat),i≤j∧j≤l.length∧c=j-i∧bsI l x i j=bsI l x 0 l.length∧(∀ (k:Nat) (hk:k<l.length),k<i→l[k]<x)∧(∀ (k:Nat) (hk:k<l.length),j≤k→x≤l[k])∧σ=[(0,vl vint l),(1,vint x),(6,vnat l.length),(7,vnat i),(8,vnat j)]∧S'=St S [] []) l.length ?_ ?_
 ·exact ⟨0,l.length,by omega,by omega,rfl,rfl,fun k hk h=>by omega,fun k hk h=>by omega,by simp [Fr.only],rfl⟩
 ·rintro c σ T ⟨i,j,hij,hj,rfl,hbs,hlo,hhi,rfl,rfl⟩
  by_cases hlt:i<j
  ·obtain ⟨h,hh⟩ : ∃ h,h=(i+j) / 2:=⟨_,rfl⟩
   have h1:i≤h:=by omega
   have h2:h<j:=by omega
   have h3:h<l.length:=by omega
   have cl:=Less_int_v l[h] x
   have hw:IntKind.i64.wrap ((IntKind.u64.wrap (IntKind.i64.wrap ((i:Int)+(j:Int)))).fdiv (2^min 1 IntKind.u64.bits))=(h:Int):=by
    have e1:IntKind.i64.wrap ((i:Int)+(j:Int))=((i+j:Nat):Int):=by
     rw [wrap_i64 (by omega) (by omega)]; omega
    have e2:IntKind.u64.wrap ((i+j:Nat):Int)=((i+j:Nat):Int):=by
     show ((i+j:Nat):Int) % 18446744073709551616=_
     omega
    have e3:((i+j:Nat):Int).fdiv (2^min 1 IntKind.u64.bits)=((h:Nat):Int):=by
     show ((i+j:Nat):Int).fdiv 2=_
     rw [Int.fdiv_eq_ediv_of_nonneg _ (by omega),hh]; omega
    rw [e1,e2,e3]
    exact wrap_i64 (by omega) (by omega)
   have hw2:=jn (k:=h) (n:=l.length) h3 (by omega)
   have hgd:l.getD h 0=l[h]:=by rw [List.getD_eq_getElem?_getD,List.getElem?_eq_getElem h3]; rfl
   rw [bsI,dif_pos hlt, ←hh,hgd] at hbs
   repeat (first|refine QG ?_|refine QY ?_ (r:=by conv=>lhs;simp[-List.map_set,QV,hlt]))
   repeat refine QS ?_
   refine QP ?_ (r:=by conv=>lhs;simp[-List.map_set,QV,hw,h3])
   refine jm rfl (cl) ?_
   by_cases hx:l[h]<x
   ·have hlo2 : ∀ (k:Nat) (hk:k<l.length),k<h+1→l[k]<x:=fun k hk hkh=>by
     rcases Nat.lt_or_ge k h with h5 | h5
     ·exact Int.lt_trans (hle k h hk h3 h5) hx
     ·have:k=h:=by omega
      subst this; exact hx
    refine QM (by conv=>lhs;simp[-List.map_set,QV,hx]) ?_
    refine QN ?_
    repeat (first|refine QG ?_|refine QY ?_ (r:=by conv=>lhs;simp[-List.map_set,QV,hx,hw2]))
    show jC _ _ _ _ _ _ _
    exact again ⟨(by omega),h+1,j,by omega,hj,rfl,(by rw [if_pos hx] at hbs; exact hbs),hlo2,hhi,by simp [Fr.only,Fr.look],rfl⟩
   ·have hhi2 : ∀ (k:Nat) (hk:k<l.length),h≤k→x≤l[k]:=fun k hk hkh=>by
     rcases Nat.lt_or_ge h k with h5 | h5
     ·have:=hle h k h3 hk h5; omega
     ·have:k=h:=by omega
      subst this; omega
    refine QM (by conv=>lhs;simp[-List.map_set,QV,hx]) ?_
    refine QN ?_
    repeat (first|refine QG ?_|refine QY ?_ (r:=by conv=>lhs;simp[-List.map_set,QV,hx]))
    show jC _ _ _ _ _ _ _
    exact again ⟨(by omega),i,h,by omega,by omega,rfl,(by rw [if_neg hx] at hbs; exact hbs),hlo,hhi2,by simp [Fr.only,Fr.look],rfl⟩
  ·have e:i=j:=by omega
   subst e
   have c1:=Nan1_v
   rw [bsI,dif_neg hlt] at hbs
   rw [←hbs]
   by_cases hil:i<l.length
   ·by_cases he:l[i]=x
    ·have hm:decide (x∈l)=true:=decide_eq_true (he▸List.getElem_mem hil)
     rw [hm]
     repeat (first|refine QG ?_|refine QY ?_ (r:=by conv=>lhs;simp[-List.map_set,QV,hlt]))
     repeat refine QS ?_
     refine QP ?_ (r:=by conv=>lhs;simp[-List.map_set,QV,hil,he])
     refine QN ?_
     repeat (first|refine QG ?_|refine QY ?_)
     exact jb hwf rfl rfl
    ·have hm:decide (x∈l)=false:=decide_eq_false fun hx=>by
      obtain ⟨k,hk,rfl⟩:=List.getElem_of_mem hx
      rcases Nat.lt_or_ge k i with h5 | h5
      ·have:=hlo k hk h5; omega
      ·rcases Nat.lt_or_ge i k with h6 | h6
       ·have h7:=hle i k hil hk h6
        have:=hhi i hil (Nat.le_refl _); omega
       ·have:k=i:=by omega
        subst this; exact he rfl
     rw [hm]
     repeat (first|refine QG ?_|refine QY ?_ (r:=by conv=>lhs;simp[-List.map_set,QV,hlt]))
     repeat refine QS ?_
     refine QP ?_ (r:=by conv=>lhs;simp[-List.map_set,QV,hil,he])
     refine jm rfl (c1 l[i]) ?_
     refine QM (by conv=>lhs;simp[-List.map_set,QV,hil,he]) ?_
     refine QN ?_
     repeat (first|refine QG ?_|refine QY ?_)
     exact jb hwf rfl rfl
   ·have hm:decide (x∈l)=false:=decide_eq_false fun hx=>by
     obtain ⟨k,hk,rfl⟩:=List.getElem_of_mem hx
     have:=hlo k hk (by omega); omega
    rw [hm]
    repeat (first|refine QG ?_|refine QY ?_ (r:=by conv=>lhs;simp[-List.map_set,QV,hlt]))
    repeat refine QS ?_
    refine QP ?_ (r:=by conv=>lhs;simp[-List.map_set,QV,hil])
    refine QN ?_
    repeat (first|refine QG ?_|refine QY ?_)
    exact jb hwf rfl rfl
end Go.Vw

namespace Ss
def porchF (f:Fn) (head:Int) (nodes:List Int):Option Int:=if f.small then porch f.blocks head nodes else none
theorem scanRow_cons (head:Int) (i:Nat) (a:Int) (l:List Int) (st:Int × Nat):scanRow head i (a::l) st=scanRow head i l (if a=head then ((i:Int),st.2+1) else st):=by simp [scanRow]
end Ss
namespace Go.Vw
open Go.Proofs Go.RowKit
set_option maxRecDepth 10000
set_option maxHeartbeats 4000000
def Kh:Option Int→V
 | none => .tuple [vint 0, .bool false]
 | some p => .tuple [vint p, .bool true]
theorem vl_nat (l:List Nat):vl vnat l=vl vint (l.map Int.ofNat):=by simp [vl,List.map_map]
theorem Porch_v (f:Ss.Fn) (hf:f.Fits) (head:Int) (nodes:List Int) (hn:nodes.length<2^63):VPure Try.prog 4 [za f,vint head,vl vint nodes] (Kh (Ss.porchF f head nodes)):=by
 intro S
 have cs:=Succ_v f hf
 have cc:=fun x=>Contains_v nodes x hn
 have hsb := @qq f
 have hfb:=hf.2.2.2
 obtain ⟨rows,hrows⟩ : ∃ rows,rows=if f.small then Ss.succs f.blocks else []:=⟨_,rfl⟩
 have hrl:rows.length≤4096 ∧ ∀ r∈rows,r.length≤4096:=by
  rw [hrows]
  split
  ·rename_i h
   obtain ⟨_,h1,h2,_⟩:=hsb h
   refine ⟨by simpa [Ss.succs] using h1,fun r hr => ?_⟩
   obtain ⟨b,hb,rfl⟩:=List.mem_map.1 hr
   simpa [Ss.rowOf] using (h2 b hb).2.1
  ·simp
 obtain ⟨R,hR⟩ : ∃ R,Ss.scanG head nodes 0 rows (0,0)=R:=⟨_,rfl⟩
 have hsp:=(Ss.scan_spec head nodes rows 0 (0,0)).2.2
 rw [hR] at hsp
 have hres:Ss.porchF f head nodes=if R.2≠1∨(f.blocks.getD R.1.toNat default).term.kind≠1 then none else some R.1:=by
  unfold Ss.porchF Ss.porch
  cases hs:f.small with
  | true=>rw [hs] at hrows; rw [if_pos rfl] at hrows; rw [←hrows,hR]; rfl
  | false=>rw [hs] at hrows; simp only [Bool.false_eq_true,if_false] at hrows; rw [hrows] at hR; rw [←hR]; simp [Ss.scanG]
 have hin:R.2=1 → ∃ j:Nat,R.1=(j:Int)∧j<f.blocks.length:=fun h=>by
  obtain ⟨j,l,h1,_,_,h4,_⟩:=hsp (by simpa using h)
  refine ⟨j,by simpa using h4, ?_⟩
  have:=(List.getElem?_eq_some_iff.1 h1).1
  rw [hrows] at this
  split at this
  ·simpa [Ss.succs] using this
  ·simp at this
 rw [←hrows] at cs
 rw [hres]
 clear hres hrows hsp hsb hf
 obtain ⟨⟨fi,fo⟩,ts,bs⟩:=f
 have cs':VPure Try.prog 7 [.agg [vl vint fi,vl vint fo,vl vint ts,vl jd bs]] (vl (vl vint) rows):=cs
 simp only at *
 refine ja (c:=jf Try.f4) Try.func4 rfl rfl (by simp [Try.ntmps4]) ?_
 rw [Try.ntmps4]
 intro hwf
 repeat refine QS ?_
 refine QP ?_
 refine QN ?_
 refine jh 3 rfl ((Kr (k:=0) (by simp) (by rfl) (by rfl) (by simp))) (by conv=>lhs; simp [Fr.set]) ?_
 simp only [List.set_cons_succ,List.set_cons_zero]
 refine jD [1,2,3] (by conv=>lhs; simp [Fr.only,Fr.look]) ?_
 refine zK [] hwf (by decide) (by simp [-List.map_set]) (by conv=>lhs; simp [-List.map_set]) (by conv=>lhs; simp [-List.map_set]) (by conv=>lhs; simp [-List.map_set]) ?_
 repeat (first|refine QG ?_|refine QY ?_)
 repeat refine QS ?_
 refine QP ?_
 refine jc (cs') (by rfl) ?_
 refine QM (by conv=>lhs;simp[-List.map_set,QV]) ?_
 refine QN ?_
 repeat (first|refine QG ?_|refine QY ?_)
 repeat refine QS ?_
 refine je [1,2,3,8,9,15,16,17] rfl (fun c σ S' => ∃ (k:Nat) (at':Int) (many:Nat),k≤rows.length∧c=rows.length-k∧many≤4096*k∧Ss.scanG head nodes k (rows.drop k) (at',many)=R∧σ=[(1,vint head),(2,vl vint nodes),(3,(V.agg [vl vint fi,vl vint fo,vl vint ts,vl jd bs]).ref),(8,vint at'),(9,vnat many),(15,vl (vl vint) rows),(16,vnat rows.length),(17,vnat k)]∧S'=St S [] []) rows.length ?_ ?_
 ·exact ⟨0,0,0,by omega,rfl,by omega,hR,by simp [Fr.only],rfl⟩
 ·rintro c σ T ⟨k,at',many,hk,rfl,hm,hsc,rfl,rfl⟩
  by_cases hkt:k<rows.length
  ·have hw:=jn hkt (by omega)
   rw [List.drop_eq_getElem_cons hkt,Ss.scanG] at hsc
   have hr4:=hrl.2 _ (List.getElem_mem hkt)
   by_cases hin2:(k:Int)∈nodes
   ·rw [if_pos hin2] at hsc
    repeat (first|refine QG ?_|refine QY ?_ (r:=by conv=>lhs;simp[-List.map_set,QV,hkt]))
    repeat refine QS ?_
    refine QP ?_
    refine jm rfl (cc (k:Int)) ?_
    refine QM (by conv=>lhs;simp[-List.map_set,QV,hin2]) ?_
    refine QN ?_
    repeat (first|refine QG ?_|refine QY ?_ (r:=by conv=>lhs;simp[-List.map_set,QV,hin2,hw]))
    show jC _ _ _ _ _ _ _
    exact again ⟨Nat.sub_lt_sub_left hkt (Nat.lt_succ_self k),k+1,at',many,hkt,rfl,by omega,hsc,by simp [Fr.only,Fr.look],rfl⟩
   ·rw [if_neg hin2] at hsc
    obtain ⟨row,hrow⟩ : ∃ r,rows[k]=r:=⟨_,rfl⟩
    rw [hrow] at hsc hr4
    repeat (first|refine QG ?_|refine QY ?_ (r:=by conv=>lhs;simp[-List.map_set,QV,hkt,hrow]))
    repeat refine QS ?_
    refine QP ?_
    refine jm rfl (cc (k:Int)) ?_
    refine QM (by conv=>lhs;simp[-List.map_set,QV,hin2]) ?_
    refine QN ?_
    repeat (first|refine QG ?_|refine QY ?_ (r:=by conv=>lhs;simp[-List.map_set,QV,hin2]))
    repeat refine QS ?_
    refine je [1,2,3,8,9,10,15,16,17,25,26,27] rfl (fun c σ S' => ∃ (j:Nat) (at':Int) (many:Nat),j≤row.length∧c=row.length-j∧many≤4096*k+j∧Ss.scanG head nodes (k+1) (rows.drop (k+1)) (Ss.scanRow head k (row.drop j) (at',many))=R∧σ=[(1,vint head),(2,vl vint nodes),(3,(V.agg [vl vint fi,vl vint fo,vl vint ts,vl jd bs]).ref),(8,vint at'),(9,vnat many),(10,vnat k),(15,vl (vl vint) rows),(16,vnat rows.length),(17,vnat k),(25,vl vint row),(26,vnat row.length),(27,vnat j)]∧S'=St S [] []) row.length ?_ ?_
    ·exact ⟨0,at',many,by omega,rfl,by omega,hsc,by simp [Fr.only,Fr.look],rfl⟩
    ·rintro c σ T ⟨j,at',many,hj,rfl,hm,hsc,rfl,rfl⟩
     by_cases hjt:j<row.length
     ·have hwj:=jn hjt (by omega)
      rw [List.drop_eq_getElem_cons hjt,Ss.scanRow_cons] at hsc
      have hwm:=jn (k:=many) (n:=many+1) (by omega) (by omega)
      by_cases he:row[j]=head
      ·rw [if_pos he] at hsc
       repeat (first|refine QG ?_|refine QY ?_ (r:=by conv=>lhs;simp[-List.map_set,QV,hjt,he,hwm,hwj]))
       show jC _ _ _ _ _ _ _
       exact again ⟨Nat.sub_lt_sub_left hjt (Nat.lt_succ_self j),j+1,(k:Int),many+1,hjt,rfl,by omega,hsc,by simp [Fr.only,Fr.look],rfl⟩
      ·rw [if_neg he] at hsc
       repeat (first|refine QG ?_|refine QY ?_ (r:=by conv=>lhs;simp[-List.map_set,QV,hjt,he,hwj]))
       show jC _ _ _ _ _ _ _
       exact again ⟨Nat.sub_lt_sub_left hjt (Nat.lt_succ_self j),j+1,at',many,hjt,rfl,by omega,hsc,by simp [Fr.only,Fr.look],rfl⟩
     ·have e:row.drop j=[]:=by rw [List.drop_eq_nil_iff]; omega
      rw [e] at hsc
      have hsc':Ss.scanG head nodes (k+1) (rows.drop (k+1)) (at',many)=R:=hsc
      repeat (first|refine QG ?_|refine QY ?_ (r:=by conv=>lhs;simp[-List.map_set,QV,hjt,hw]))
      show jC _ _ _ _ _ _ _
      exact again ⟨Nat.sub_lt_sub_left hkt (Nat.lt_succ_self k),k+1,at',many,hkt,rfl,by omega,hsc',by simp [Fr.only,Fr.look],rfl⟩
  ·have e:rows.drop k=[]:=by rw [List.drop_eq_nil_iff]; omega
   rw [e] at hsc
   have hsc':(at',many)=R:=hsc
   subst hsc'
   simp only at hin ⊢
   by_cases h1:many=1
   ·obtain ⟨q,rfl,hq⟩:=hin h1
    obtain ⟨⟨ps,code,⟨tk,ta,to,az⟩⟩,hx⟩ : ∃ b,bs[q]=b:=⟨_,rfl⟩
    have hgd:bs.getD ((q:Int)).toNat default=⟨ps,code,⟨tk,ta,to,az⟩⟩:=by rw [List.getD_eq_getElem?_getD,Int.toNat_natCast,List.getElem?_eq_getElem hq,hx]; rfl
    rw [hgd]
    subst h1
    by_cases ht:tk=1
    ·subst ht
     rw [if_neg (by simp)]
     repeat (first|refine QG ?_|refine QY ?_ (r:=by conv=>lhs;simp[-List.map_set,QV,hkt,hq,hx]))
     exact jb hwf rfl rfl
    ·rw [if_pos (.inr ht)]
     repeat (first|refine QG ?_|refine QY ?_ (r:=by conv=>lhs;simp[-List.map_set,QV,hkt,hq,hx,ht]))
     exact jb hwf rfl rfl
   ·rw [if_pos (.inl h1)]
    have h2 : ¬ (many:Int)=1:=by omega
    repeat (first|refine QG ?_|refine QY ?_ (r:=by conv=>lhs;simp[-List.map_set,QV,hkt,h1,h2]))
    exact jb hwf rfl rfl
end Go.Vw

namespace Ss
/-! ### Where each value is made: the KF -/
def hmPut (i:Int) (out:List Int) (l:List Int):List Int:=l.foldl (fun o v=>o.set v.toNat i) out
def hmCode (i:Int) (out:List Int) (code:List Ins):List Int:=code.foldl (fun o x=>hmPut i o x.outs) out
def hmBlk (i:Int) (out:List Int) (b:Block):List Int:=hmCode i (hmPut i out b.params) b.code
def hmAll:Nat→List Block→List Int→List Int
 | _,[],o=>o
 | i,b::r,o=>hmAll (i+1) r (hmBlk (i:Int) o b)
def homesI (f:Fn):List Int:=hmAll 0 f.blocks (List.replicate f.types.length 0)
theorem JL (i:Int) : ∀ (l out:List Int),(hmPut i out l).length=out.length
 | [],out=>rfl
 | v::l,out=>by
  have:=JL i l (out.set v.toNat i)
  rw [List.length_set] at this
  exact this
theorem jac (i:Int) : ∀ (l:List Ins) (out:List Int),(hmCode i out l).length=out.length
 | [],out=>rfl
 | x::l,out=>(jac i l (hmPut i out x.outs)).trans (JL i x.outs out)
theorem hmBlk_len (i:Int) (out:List Int) (b:Block):(hmBlk i out b).length=out.length:=(jac i _ _).trans (JL i _ _)
theorem hmAll_len : ∀ (bs:List Block) (i:Nat) (out:List Int),(hmAll i bs out).length=out.length
 | [],_,_=>rfl
 | b::r,i,out=>(hmAll_len r (i+1) _).trans (hmBlk_len _ _ _)
theorem homesI_len (f:Fn):(homesI f).length=f.types.length:=by rw [homesI,hmAll_len,List.length_replicate]
theorem jaM (i:Int) {N:Nat} {v:Int} (hv:InR N v) : ∀ (l out:List Int),out.length=N→(∀ w∈l,InR N w)→(hmPut i out l).getD v.toNat 0=if v∈l then i else out.getD v.toNat 0
 | [],out,_,_=>by simp [hmPut]
 | w::l,out,ho,hl=>by
  have ih:=jaM i hv l (out.set w.toNat i) (by simpa using ho) (fun u hu=>hl u (by simp [hu]))
  have e:hmPut i out (w::l)=hmPut i (out.set w.toNat i) l:=rfl
  rw [e,ih]
  have hw:=hl w (by simp)
  by_cases h1:v∈l
  ·rw [if_pos h1,if_pos (by simp [h1])]
  ·rw [if_neg h1]
   by_cases h2:v=w
   ·subst h2
    rw [if_pos (by simp),List.getD_eq_getElem?_getD,List.getElem?_set_self (by have:=hv.1; have:=hv.2; omega)]; rfl
   ·rw [if_neg (by simp [h1,h2]),List.getD_eq_getElem?_getD,List.getElem?_set_ne (by have:=hv.1; have:=hw.1; omega),List.getD_eq_getElem?_getD]
theorem hmCode_at (i:Int) {N:Nat} {v:Int} (hv:InR N v) : ∀ (l:List Ins) (out:List Int),out.length=N→(∀ x∈l, ∀ w∈x.outs,InR N w)→(hmCode i out l).getD v.toNat 0=if v∈zh l then i else out.getD v.toNat 0
 | [],out,_,_=>by simp [hmCode,zh]
 | x::l,out,ho,hl=>by
  have ih:=hmCode_at i hv l (hmPut i out x.outs) (by rw [JL]; exact ho) (fun u hu=>hl u (by simp [hu]))
  have e:hmCode i out (x::l)=hmCode i (hmPut i out x.outs) l:=rfl
  rw [e,ih,jaM i hv _ _ ho (hl x (by simp))]
  have e2:zh (x::l)=x.outs++zh l:=by simp [zh]
  rw [e2]
  by_cases h1:v∈zh l
  ·rw [if_pos h1,if_pos (by simp [h1])]
  ·rw [if_neg h1]
   by_cases h2:v∈x.outs
   ·rw [if_pos h2,if_pos (by simp [h2])]
   ·rw [if_neg h2,if_neg (by simp [h1,h2])]
theorem hmBlk_at (i:Int) {N:Nat} {v:Int} (hv:InR N v) (b:Block) (out:List Int) (ho:out.length=N) (hp : ∀ w∈b.params,InR N w) (hl : ∀ x∈b.code, ∀ w∈x.outs,InR N w):(hmBlk i out b).getD v.toNat 0=if v∈allB b then i else out.getD v.toNat 0:=by
 rw [hmBlk,hmCode_at i hv _ _ (by rw [JL]; exact ho) hl,jaM i hv _ _ ho hp,allB]
 by_cases h1:v∈zh b.code
 ·rw [if_pos h1,if_pos (by simp [h1])]
 ·rw [if_neg h1]
  by_cases h2:v∈b.params
  ·rw [if_pos h2,if_pos (by simp [h2])]
  ·rw [if_neg h2,if_neg (by simp [h1,h2])]
theorem hmAll_at {N:Nat} {v:Int} (hv:InR N v) : ∀ (bs:List Block) (i:Nat) (out:List Int),out.length=N→(∀ b∈bs, ∀ w∈b.params,InR N w)→(∀ b∈bs, ∀ x∈b.code, ∀ w∈x.outs,InR N w)→(allL bs).Nodup →
  (v∉allL bs→(hmAll i bs out).getD v.toNat 0=out.getD v.toNat 0) ∧ ∀ (j:Nat) (b:Block),bs[j]? = some b→v∈allB b→(hmAll i bs out).getD v.toNat 0=((i+j:Nat):Int)
 | [],i,out,_,_,_,_=>⟨fun _=>rfl,by simp⟩
 | b::r,i,out,ho,hp,hl,hnd=>by
  have eL:allL (b::r)=allB b++allL r:=by simp [allL]
  rw [eL] at hnd
  obtain ⟨_,n2,n3⟩:=List.nodup_append.1 hnd
  obtain ⟨k1,k2⟩:=hmAll_at hv r (i+1) (hmBlk (i:Int) out b) (by rw [hmBlk_len]; exact ho) (fun c hc=>hp c (by simp [hc])) (fun c hc=>hl c (by simp [hc])) n2
  have hb:=hmBlk_at (i:Int) hv b out ho (hp b (by simp)) (hl b (by simp))
  rw [eL,hmAll]
  refine ⟨fun hn => ?_,fun j c hj hc => ?_⟩
  ·simp only [List.mem_append,not_or] at hn
   rw [k1 hn.2,hb,if_neg hn.1]
  ·cases j with
   | zero =>
    simp only [List.getElem?_cons_zero,Option.some.injEq] at hj
    subst hj
    rw [k1 (fun h=>n3 v hc v h rfl),hb,if_pos hc]; rfl
   | succ j =>
    rw [k2 j c (by simpa using hj) hc]
    congr 1; omega
theorem all_in {f:Fn} (hd:DOk f) : ∀ v∈allL f.blocks,InR f.types.length v:=fun v hv=>by
 obtain ⟨b,hb,hv⟩:=List.mem_flatMap.1 hv
 rcases List.mem_append.1 hv with h | h
 ·exact hd.pars b hb v h
 ·obtain ⟨x,hx,h⟩:=List.mem_flatMap.1 h
  exact hd.outs b hb x hx v h
theorem homes_home {e:Env} {f:Fn} (h:check e f=true) : ∀ v∈allL f.blocks,(homesI f).getD v.toNat 0=qj f v:=by
 intro v hv
 have hd:=check_dok h
 obtain ⟨_,ds,hds,_,_⟩:=qE h
 obtain ⟨hnd,_,hout⟩:=zu hds
 obtain ⟨b,hb,hvb⟩:=List.mem_flatMap.1 hv
 obtain ⟨j,hj⟩:=List.mem_iff_getElem?.1 hb
 have:=(hmAll_at (all_in hd v hv) f.blocks 0 (List.replicate f.types.length 0) (by simp) hd.pars hd.outs hnd).2 j b hj hvb
 rw [homesI,this,Nat.zero_add]
 simp only [qj,hds,Option.getD_some]
 rcases List.mem_append.1 hvb with hp | ho
 ·have:=jI hds j b hj v hp
  rw [Nat.zero_add] at this
  exact (congrArg Def.block this).symm
 ·obtain ⟨y,hy,hvy⟩:=List.mem_flatMap.1 ho
  obtain ⟨k,hk⟩:=List.mem_iff_getElem?.1 hy
  exact (congrArg Def.block (hout j b hj k y hk v hvy)).symm
theorem arg_made {e:Env} {f:Fn} (h:check e f=true) : ∀ b∈f.blocks, ∀ x∈b.code, ∀ a∈x.args,a∈allL f.blocks:=by
 intro b hb x hx a ha
 obtain ⟨_,ds,hds,_,hbs⟩:=qE h
 obtain ⟨_,hmade,_⟩:=zu hds
 obtain ⟨j,hj⟩:=List.mem_iff_getElem?.1 hb
 obtain ⟨k,hk⟩:=List.mem_iff_getElem?.1 hx
 obtain ⟨c1,_⟩:=qg hbs hj
 have hins:=qR c1 hk
 simp only [insOk,Bool.and_eq_true] at hins
 obtain ⟨t,ht⟩:=jaQ hins.2 a ha
 simp only [askOk,Bool.and_eq_true,decide_eq_true_eq] at ht
 obtain ⟨⟨⟨⟨q1,q2⟩,q3⟩,q4⟩,q5⟩:=ht
 exact hmade a q1 q4
end Ss

namespace Go.Vw
open Go.Proofs Go.RowKit
set_option maxRecDepth 10000
set_option maxHeartbeats 4000000
def Store.push (S:Store) (o:Nat) (cs:List V) (x:V):Store:=((S.add (1,[x])).del o).add (1,cs++[x])
def Store.push0 (S:Store) (x:V):Store:=(S.add (1,[x])).add (1,[x])
section
variable {S:Store} {o:Nat} {cs:List V} {x:V}
theorem Agree.push {S0:Store} (h:Agree S0 S) (ho:S0.nx≤o):Agree S0 (S.push o cs x):=((h.add _).del ho).add _
end
namespace G
def DoneAt (S:Store) (b ow om:Nat) (dv:V) (done:List Nat):Prop :=
 (dv = .nils∧done=[]) ∨ ∃ od,dv = .slice od 0 done.length∧S.get od=some (1,done.map vnat)∧od≠ow∧od≠om∧b≤od∧od<S.nx
def WAt (S:Store) (g:List (List Nat)) (b ow om:Nat) (s:WS):Prop :=
 s.1.length=g.length∧ow≠om∧b≤ow∧b≤om∧ow<S.nx∧om<S.nx∧S.get om=some (1,s.1.map V.bool) ∧
 ∃ dv,S.get ow=some (3,[vl (vl vnat) g, .slice om 0 g.length,dv])∧DoneAt S b ow om dv s.2
end G
end Go.Vw

namespace Go.Vw
open Go.Proofs Go.RowKit
set_option maxRecDepth 10000
set_option maxHeartbeats 4000000
end Go.Vw

namespace Go.Vw
open Go.Proofs Go.RowKit
set_option maxRecDepth 10000
set_option maxHeartbeats 4000000
end Go.Vw

namespace Go.Vw
open Go.Proofs Go.RowKit
set_option maxRecDepth 10000
set_option maxHeartbeats 4000000
def tabCells (g:List (List Nat)) (a:Nat):List V:=((List.range a).map (G.tableRow g)).map (vl V.bool)++List.replicate (g.length-a) .nils
def fill (f:Nat→Bool) (n b:Nat):List Bool:=(List.range b).map f++List.replicate (n-b) false
end Go.Vw

namespace Go.Vw
open Go.Proofs Go.RowKit
set_option maxRecDepth 10000
set_option maxHeartbeats 4000000
end Go.Vw

namespace Go.Vw
open Go.Proofs Go.RowKit
set_option maxRecDepth 10000
set_option maxHeartbeats 4000000
theorem FromAll_v (g:List (List Int)) (h:Fits g):VPure Try.prog 39 [vl (vl vint) g] (.tuple [vl (vl vnat) (G.fromI g),vint (G.err g)]):=by
 cases hr:G.right g with
 | false =>
  simp only [G.fromI,G.err,hr]
  exact FromErr_v g h.1 h.2 hr
 | true =>
  simp only [G.fromI,G.err,hr,if_true]
  rw [G.right_enc hr]
  exact From_v _ (G.right_ok hr) (Wh g h hr)
end Go.Vw
