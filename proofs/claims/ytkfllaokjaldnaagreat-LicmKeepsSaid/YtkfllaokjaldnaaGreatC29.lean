import Derived.Test.YtkfllaokjaldnaaGreatC16
import Derived.Test.YtkfllaokjaldnaaGreatC19
import Derived.Test.YtkfllaokjaldnaaGreatC28
import Derived.Test.YtkfllaokjaldnaaGreatC26
import Derived.Test.YtkfllaokjaldnaaGreatC11
import Derived.Test.YtkfllaokjaldnaaGreatProg
import Derived.Test.YtkfllaokjaldnaaGreatC12
import Derived.Test.YtkfllaokjaldnaaGreatC13
/-
  Part of the proof (texts LBin, LPor, LHomeP, GWalk, GOrder, GWithout).
-/
set_option linter.unusedVariables false
set_option linter.unusedSimpArgs false
namespace Go.Vw
open Go.Proofs Go.RowKit
set_option maxRecDepth 10000
set_option maxHeartbeats 4000000
theorem Nan0_v (x:Int):VPure Tryz.prog 116 [vint x] (.bool false):=by
 intro S;refine jb (c:=jg Tryz.f116) Tryz.func116 rfl rfl (by simp [Tryz.ntmps116]) ?_;rw [Tryz.ntmps116];intro hwf
 repeat first|refine QG ?_|refine QY ?_
 exact ja hwf rfl rfl
theorem Nan1_v (x:Int):VPure Tryz.prog 82 [vint x] (.bool false):=by
 intro S;refine jb (c:=jg Tryz.f82) Tryz.func82 rfl rfl (by simp [Tryz.ntmps82]) ?_;rw [Tryz.ntmps82];intro hwf
 repeat first|refine QG ?_|refine QY ?_
 exact ja hwf rfl rfl
theorem Less_int_v (x y:Int):VPure Tryz.prog 81 [vint x,vint y] (.bool (decide (x<y))):=by
 intro S;have cn:=Nan0_v x;refine jb (c:=jg Tryz.f81) Tryz.func81 rfl rfl (by simp [Tryz.ntmps81]) ?_;rw [Tryz.ntmps81];intro hwf
 repeat first|refine QG ?_|refine QY ?_
 repeat refine QS ?_
 refine QP ?_;refine jp rfl (cn) ?_
 by_cases h:x<y
 ·refine QM (by conv=>lhs;simp[-List.map_set,QV,h]) ?_;refine QN ?_
  repeat first|refine QG ?_|refine QY ?_ (r:=by conv=>lhs;simp[-List.map_set,QV,h])
  exact ja hwf (by simp [h]) rfl
 ·refine QM (by conv=>lhs;simp[-List.map_set,QV,h]) ?_;refine QN ?_
  repeat first|refine QG ?_|refine QY ?_ (r:=by conv=>lhs;simp[-List.map_set,QV,h])
  exact ja hwf (by simp [h]) rfl
theorem Index_v (l:List Int) (x:Int) (hl:l.length<2^63):VPure Tryz.prog 115 [vl vint l,vint x] (vint (qw (fun y=>decide (x=y)) l 0)):=by
 intro S;refine jb (c:=jg Tryz.f115) Tryz.func115 rfl rfl (by simp [Tryz.ntmps115]) ?_;rw [Tryz.ntmps115];intro hwf
 repeat first|refine QG ?_|refine QY ?_
 repeat refine QS ?_
 refine je [0,1,7,8] rfl (fun c σ S' => ∃ (k:Nat),k≤l.length∧c=l.length-k∧qw (fun y=>decide (x=y)) (l.drop k) k=qw (fun y=>decide (x=y)) l 0∧σ=[(0,vl vint l),(1,vint x),(7,vnat l.length),(8,vnat k)]∧S'=St S [] []) l.length ?_ ?_
 ·exact ⟨0,by omega,rfl,rfl,by simp [Fr.only],rfl⟩
 ·rintro c σ T ⟨k,hk,rfl,hd,rfl,rfl⟩
  by_cases hkt:k<l.length
  ·have hst:qw (fun y=>decide (x=y)) (l.drop k) k=if decide (x=l[k])=true then (k:Int) else qw (fun y=>decide (x=y)) (l.drop (k+1)) (k+1):=by rw [List.drop_eq_getElem_cons hkt,qw]
   have hw:=jn hkt hl
   by_cases hp:x=l[k]
   ·rw [if_pos (by simpa using hp)] at hst
    repeat first|refine QG ?_|refine QY ?_ (r:=by conv=>lhs;simp[-List.map_set,QV,hkt,hp])
    exact ja hwf (by rw [←hd,hst]; rfl) rfl
   ·rw [if_neg (by simpa using hp)] at hst
    repeat first|refine QG ?_|refine QY ?_ (r:=by conv=>lhs;simp[-List.map_set,QV,hkt,hp])
    show jz _ _ _ _ _ _ _;exact again ⟨Nat.sub_lt_sub_left hkt (Nat.lt_succ_self k),k+1,hkt,rfl,by rw [←hd,hst],by simp [Fr.only,hw],rfl⟩
  ·have e:l.drop k=[]:=by rw [List.drop_eq_nil_iff]; omega
   rw [e] at hd
   repeat first|refine QG ?_|refine QY ?_ (r:=by conv=>lhs;simp[-List.map_set,QV,hkt])
   exact ja hwf (by rw [←hd]; rfl) rfl
theorem Contains_v (l:List Int) (x:Int) (hl:l.length<2^63):VPure Tryz.prog 80 [vl vint l,vint x] (.bool (decide (x∈l))):=by
 intro S;have ci:=Index_v l x hl;have he:decide (x∈l)=decide (0≤qw (fun y=>decide (x=y)) l 0):=by
  rw [Jd,Bool.eq_iff_iff];simp
 rw [he];refine jb (c:=jg Tryz.f80) Tryz.func80 rfl rfl (by simp [Tryz.ntmps80]) ?_;rw [Tryz.ntmps80];intro hwf
 repeat first|refine QG ?_|refine QY ?_
 repeat refine QS ?_
 refine QP ?_;refine jp rfl (ci) ?_;refine QW ?_
 repeat first|refine QG ?_|refine QY ?_
 exact ja hwf rfl rfl
def bsI (l:List Int) (x:Int) (i j:Nat):Nat:=if h:i<j then (if l.getD ((i+j) / 2) 0<x then bsI l x ((i+j) / 2+1) j else bsI l x i ((i+j) / 2)) else i
termination_by j-i
theorem BinSearch_v (l:List Int) (x:Int) (hl:l.length<4611686018427387904) (hs:l.Pairwise (· < ·)):VPure Tryz.prog 30 [vl vint l,vint x] (.tuple [vnat (bsI l x 0 l.length), .bool (decide (x∈l))]):=by
 intro S;have hle : ∀ (a b:Nat) (ha:a<l.length) (hb:b<l.length),a<b→l[a]<l[b]:=fun a b ha hb hab=>List.pairwise_iff_getElem.1 hs a b ha hb hab
 refine jb (c:=jg Tryz.f30) Tryz.func30 rfl rfl (by simp [Tryz.ntmps30]) ?_;rw [Tryz.ntmps30];intro hwf
 repeat first|refine QG ?_|refine QY ?_
 repeat refine QS ?_
 refine je [0,1,6,7,8] rfl (fun c σ S' => ∃ (i j:Nat),i≤j∧j≤l.length∧c=j-i∧bsI l x i j=bsI l x 0 l.length∧(∀ (k:Nat) (hk:k<l.length),k<i→l[k]<x)∧(∀ (k:Nat) (hk:k<l.length),j≤k→x≤l[k])∧σ=[(0,vl vint l),(1,vint x),(6,vnat l.length),(7,vnat i),(8,vnat j)]∧S'=St S [] []) l.length ?_ ?_
 ·exact ⟨0,l.length,by omega,by omega,rfl,rfl,fun k hk h=>by omega,fun k hk h=>by omega,by simp [Fr.only],rfl⟩
 ·rintro c σ T ⟨i,j,hij,hj,rfl,hbs,hlo,hhi,rfl,rfl⟩
  by_cases hlt:i<j
  ·obtain ⟨h,hh⟩ : ∃ h,h=(i+j) / 2:=⟨_,rfl⟩
   have h1:i≤h:=by omega
   have h2:h<j:=by omega
   have h3:h<l.length:=by omega
   have cl:=Less_int_v l[h] x;have hw:IntKind.i64.wrap ((IntKind.u64.wrap (IntKind.i64.wrap ((i:Int)+(j:Int)))).fdiv (2^min 1 IntKind.u64.bits))=(h:Int):=by
    have e1:IntKind.i64.wrap ((i:Int)+(j:Int))=((i+j:Nat):Int):=by
     rw [wrap_i64 (by omega) (by omega)]; omega
    have e2:IntKind.u64.wrap ((i+j:Nat):Int)=((i+j:Nat):Int):=by
     show ((i+j:Nat):Int) % 18446744073709551616=_;omega
    have e3:((i+j:Nat):Int).fdiv (2^min 1 IntKind.u64.bits)=((h:Nat):Int):=by
     show ((i+j:Nat):Int).fdiv 2=_;rw [Int.fdiv_eq_ediv_of_nonneg _ (by omega),hh]; omega
    rw [e1,e2,e3];exact wrap_i64 (by omega) (by omega)
   have hw2:=jn (k:=h) (n:=l.length) h3 (by omega);have hgd:l.getD h 0=l[h]:=by rw [List.getD_eq_getElem?_getD,List.getElem?_eq_getElem h3]; rfl
   rw [bsI,dif_pos hlt, ←hh,hgd] at hbs
   repeat first|refine QG ?_|refine QY ?_ (r:=by conv=>lhs;simp[-List.map_set,QV,hlt])
   repeat refine QS ?_
   refine QP ?_ (r:=by conv=>lhs;simp[-List.map_set,QV,hw,h3]);refine jp rfl (cl) ?_
   by_cases hx:l[h]<x
   ·have hlo2 : ∀ (k:Nat) (hk:k<l.length),k<h+1→l[k]<x:=fun k hk hkh=>by
     rcases Nat.lt_or_ge k h with h5 | h5
     ·exact Int.lt_trans (hle k h hk h3 h5) hx
     ·have:k=h:=by omega
      subst this; exact hx
    refine QM (by conv=>lhs;simp[-List.map_set,QV,hx]) ?_;refine QN ?_
    repeat first|refine QG ?_|refine QY ?_ (r:=by conv=>lhs;simp[-List.map_set,QV,hx,hw2])
    show jz _ _ _ _ _ _ _;exact again ⟨(by omega),h+1,j,by omega,hj,rfl,(by rw [if_pos hx] at hbs; exact hbs),hlo2,hhi,by simp [Fr.only,Fr.look],rfl⟩
   ·have hhi2 : ∀ (k:Nat) (hk:k<l.length),h≤k→x≤l[k]:=fun k hk hkh=>by
     rcases Nat.lt_or_ge h k with h5 | h5
     ·have:=hle h k h3 hk h5; omega
     ·have:k=h:=by omega
      subst this; omega
    refine QM (by conv=>lhs;simp[-List.map_set,QV,hx]) ?_;refine QN ?_
    repeat first|refine QG ?_|refine QY ?_ (r:=by conv=>lhs;simp[-List.map_set,QV,hx])
    show jz _ _ _ _ _ _ _;exact again ⟨(by omega),i,h,by omega,by omega,rfl,(by rw [if_neg hx] at hbs; exact hbs),hlo,hhi2,by simp [Fr.only,Fr.look],rfl⟩
  ·have e:i=j:=by omega
   subst e;have c1:=Nan1_v;rw [bsI,dif_neg hlt] at hbs;rw [←hbs]
   by_cases hil:i<l.length
   ·by_cases he:l[i]=x
    ·have hm:decide (x∈l)=true:=decide_eq_true (he▸List.getElem_mem hil);rw [hm]
     repeat first|refine QG ?_|refine QY ?_ (r:=by conv=>lhs;simp[-List.map_set,QV,hlt])
     repeat refine QS ?_
     refine QY ?_ (r:=by conv=>lhs;simp[-List.map_set,QV,hil,he])
     repeat first|refine QG ?_|refine QY ?_
     exact ja hwf rfl rfl
    ·have hm:decide (x∈l)=false:=decide_eq_false fun hx=>by
      obtain ⟨k,hk,rfl⟩:=List.getElem_of_mem hx;rcases Nat.lt_or_ge k i with h5 | h5
      ·have:=hlo k hk h5; omega
      ·rcases Nat.lt_or_ge i k with h6 | h6
       ·have h7:=hle i k hil hk h6;have:=hhi i hil (Nat.le_refl _); omega
       ·have:k=i:=by omega
        subst this; exact he rfl
     rw [hm]
     repeat first|refine QG ?_|refine QY ?_ (r:=by conv=>lhs;simp[-List.map_set,QV,hlt])
     repeat refine QS ?_
     refine QP ?_ (r:=by conv=>lhs;simp[-List.map_set,QV,hil,he]);refine jp rfl (c1 l[i]) ?_;refine QM (by conv=>lhs;simp[-List.map_set,QV,hil,he]) ?_;refine QN ?_
     repeat first|refine QG ?_|refine QY ?_
     exact ja hwf rfl rfl
   ·have hm:decide (x∈l)=false:=decide_eq_false fun hx=>by
     obtain ⟨k,hk,rfl⟩:=List.getElem_of_mem hx;have:=hlo k hk (by omega); omega
    rw [hm]
    repeat first|refine QG ?_|refine QY ?_ (r:=by conv=>lhs;simp[-List.map_set,QV,hlt])
    repeat refine QS ?_
    refine QY ?_ (r:=by conv=>lhs;simp[-List.map_set,QV,hil])
    repeat first|refine QG ?_|refine QY ?_
    exact ja hwf rfl rfl
end Go.Vw

namespace Ss
def porchF (f:Fn) (head:Int) (nodes:List Int):Option Int:=if f.small then porch f.blocks head nodes else none
theorem scanRow_cons (head:Int) (i:Nat) (a:Int) (l:List Int) (st:Int × Nat):scanRow head i (a::l) st=scanRow head i l (if a=head then ((i:Int),st.2+1) else st):=by simp [scanRow]
end Ss
namespace Go.Vw
open Go.Proofs Go.RowKit
set_option maxRecDepth 10000
set_option maxHeartbeats 4000000
def porchV:Option Int→V
 | none => .tuple [vint 0, .bool false]
 | some p => .tuple [vint p, .bool true]
theorem vl_nat (l:List Nat):vl vnat l=vl vint (l.map Int.ofNat):=by simp [vl,List.map_map]
theorem Porch_v (f:Ss.Fn) (hf:f.Fits) (head:Int) (nodes:List Int) (hn:nodes.length<2^63):VPure Tryz.prog 28 [qL f,vint head,vl vint nodes] (porchV (Ss.porchF f head nodes)):=by
 intro S;have cs:=Succ_v f hf;have cc:=fun x=>Contains_v nodes x hn
 have hsb := @qx f;have hfb:=hf.2.2.2;obtain ⟨rows,hrows⟩ : ∃ rows,rows=if f.small then Ss.succs f.blocks else []:=⟨_,rfl⟩
 have hrl:rows.length≤4096 ∧ ∀ r∈rows,r.length≤4096:=by
  rw [hrows];split
  ·rename_i h;obtain ⟨_,h1,h2,_⟩:=hsb h;refine ⟨by simpa [Ss.succs] using h1,fun r hr => ?_⟩;obtain ⟨b,hb,rfl⟩:=List.mem_map.1 hr;simpa [Ss.rowOf] using (h2 b hb).2.1
  ·simp
 obtain ⟨R,hR⟩ : ∃ R,Ss.scanG head nodes 0 rows (0,0)=R:=⟨_,rfl⟩
 have hsp:=(Ss.scan_spec head nodes rows 0 (0,0)).2.2;rw [hR] at hsp;have hres:Ss.porchF f head nodes=if R.2≠1∨(f.blocks.getD R.1.toNat default).term.kind≠1 then none else some R.1:=by
  unfold Ss.porchF Ss.porch
  cases hs:f.small with
  | true=>rw [hs] at hrows; rw [if_pos rfl] at hrows; rw [←hrows,hR]; rfl
  | false=>rw [hs] at hrows; simp only [Bool.false_eq_true,if_false] at hrows; rw [hrows] at hR; rw [←hR]; simp [Ss.scanG]
 have hin:R.2=1 → ∃ j:Nat,R.1=(j:Int)∧j<f.blocks.length:=fun h=>by
  obtain ⟨j,l,h1,_,_,h4,_⟩:=hsp (by simpa using h);refine ⟨j,by simpa using h4, ?_⟩;have:=(List.getElem?_eq_some_iff.1 h1).1;rw [hrows] at this;split at this
  ·simpa [Ss.succs] using this
  ·simp at this
 rw [←hrows] at cs;rw [hres];clear hres hrows hsp hsb hf;obtain ⟨⟨fi,fo⟩,ts,bs⟩:=f;have cs':VPure Tryz.prog 26 [.agg [vl vint fi,vl vint fo,vl vint ts,vl jd bs]] (vl (vl vint) rows):=cs;simp only at *
 refine jb (c:=jg Tryz.f28) Tryz.func28 rfl rfl (by simp [Tryz.ntmps28]) ?_;rw [Tryz.ntmps28];intro hwf
 repeat refine QS ?_
 refine QY ?_;refine QH 3 0 ?_;refine jI [1,2,3] (by conv=>lhs; simp [Fr.only,Fr.look]) ?_;refine zI [] hwf (by decide) (by simp [-List.map_set]) (by conv=>lhs; simp [-List.map_set]) (by conv=>lhs; simp [-List.map_set]) (by conv=>lhs; simp [-List.map_set]) ?_
 repeat first|refine QG ?_|refine QY ?_
 repeat refine QS ?_
 refine QP ?_;refine jc (cs') (by rfl) ?_;refine QW ?_
 repeat first|refine QG ?_|refine QY ?_
 repeat refine QS ?_
 refine je [1,2,3,8,9,15,16,17] rfl (fun c σ S' => ∃ (k:Nat) (at':Int) (many:Nat),k≤rows.length∧c=rows.length-k∧many≤4096*k∧Ss.scanG head nodes k (rows.drop k) (at',many)=R∧σ=[(1,vint head),(2,vl vint nodes),(3,(V.agg [vl vint fi,vl vint fo,vl vint ts,vl jd bs]).ref),(8,vint at'),(9,vnat many),(15,vl (vl vint) rows),(16,vnat rows.length),(17,vnat k)]∧S'=St S [] []) rows.length ?_ ?_
 ·exact ⟨0,0,0,by omega,rfl,by omega,hR,by simp [Fr.only],rfl⟩
 ·rintro c σ T ⟨k,at',many,hk,rfl,hm,hsc,rfl,rfl⟩
  by_cases hkt:k<rows.length
  ·have hw:=jn hkt (by omega);rw [List.drop_eq_getElem_cons hkt,Ss.scanG] at hsc;have hr4:=hrl.2 _ (List.getElem_mem hkt)
   by_cases hin2:(k:Int)∈nodes
   ·rw [if_pos hin2] at hsc
    repeat first|refine QG ?_|refine QY ?_ (r:=by conv=>lhs;simp[-List.map_set,QV,hkt])
    repeat refine QS ?_
    refine QP ?_;refine jp rfl (cc (k:Int)) ?_;refine QM (by conv=>lhs;simp[-List.map_set,QV,hin2]) ?_;refine QN ?_
    repeat first|refine QG ?_|refine QY ?_ (r:=by conv=>lhs;simp[-List.map_set,QV,hin2,hw])
    show jz _ _ _ _ _ _ _;exact again ⟨Nat.sub_lt_sub_left hkt (Nat.lt_succ_self k),k+1,at',many,hkt,rfl,by omega,hsc,by simp [Fr.only,Fr.look],rfl⟩
   ·rw [if_neg hin2] at hsc;obtain ⟨row,hrow⟩ : ∃ r,rows[k]=r:=⟨_,rfl⟩
    rw [hrow] at hsc hr4
    repeat first|refine QG ?_|refine QY ?_ (r:=by conv=>lhs;simp[-List.map_set,QV,hkt,hrow])
    repeat refine QS ?_
    refine QP ?_;refine jp rfl (cc (k:Int)) ?_;refine QM (by conv=>lhs;simp[-List.map_set,QV,hin2]) ?_;refine QN ?_
    repeat first|refine QG ?_|refine QY ?_ (r:=by conv=>lhs;simp[-List.map_set,QV,hin2])
    repeat refine QS ?_
    refine je [1,2,3,8,9,10,15,16,17,25,26,27] rfl (fun c σ S' => ∃ (j:Nat) (at':Int) (many:Nat),j≤row.length∧c=row.length-j∧many≤4096*k+j∧Ss.scanG head nodes (k+1) (rows.drop (k+1)) (Ss.scanRow head k (row.drop j) (at',many))=R∧σ=[(1,vint head),(2,vl vint nodes),(3,(V.agg [vl vint fi,vl vint fo,vl vint ts,vl jd bs]).ref),(8,vint at'),(9,vnat many),(10,vnat k),(15,vl (vl vint) rows),(16,vnat rows.length),(17,vnat k),(25,vl vint row),(26,vnat row.length),(27,vnat j)]∧S'=St S [] []) row.length ?_ ?_
    ·exact ⟨0,at',many,by omega,rfl,by omega,hsc,by simp [Fr.only,Fr.look],rfl⟩
    ·rintro c σ T ⟨j,at',many,hj,rfl,hm,hsc,rfl,rfl⟩
     by_cases hjt:j<row.length
     ·have hwj:=jn hjt (by omega);rw [List.drop_eq_getElem_cons hjt,Ss.scanRow_cons] at hsc;have hwm:=jn (k:=many) (n:=many+1) (by omega) (by omega)
      by_cases he:row[j]=head
      ·rw [if_pos he] at hsc
       repeat first|refine QG ?_|refine QY ?_ (r:=by conv=>lhs;simp[-List.map_set,QV,hjt,he,hwm,hwj])
       show jz _ _ _ _ _ _ _;exact again ⟨Nat.sub_lt_sub_left hjt (Nat.lt_succ_self j),j+1,(k:Int),many+1,hjt,rfl,by omega,hsc,by simp [Fr.only,Fr.look],rfl⟩
      ·rw [if_neg he] at hsc
       repeat first|refine QG ?_|refine QY ?_ (r:=by conv=>lhs;simp[-List.map_set,QV,hjt,he,hwj])
       show jz _ _ _ _ _ _ _;exact again ⟨Nat.sub_lt_sub_left hjt (Nat.lt_succ_self j),j+1,at',many,hjt,rfl,by omega,hsc,by simp [Fr.only,Fr.look],rfl⟩
     ·have e:row.drop j=[]:=by rw [List.drop_eq_nil_iff]; omega
      rw [e] at hsc;have hsc':Ss.scanG head nodes (k+1) (rows.drop (k+1)) (at',many)=R:=hsc
      repeat first|refine QG ?_|refine QY ?_ (r:=by conv=>lhs;simp[-List.map_set,QV,hjt,hw])
      show jz _ _ _ _ _ _ _;exact again ⟨Nat.sub_lt_sub_left hkt (Nat.lt_succ_self k),k+1,at',many,hkt,rfl,by omega,hsc',by simp [Fr.only,Fr.look],rfl⟩
  ·have e:rows.drop k=[]:=by rw [List.drop_eq_nil_iff]; omega
   rw [e] at hsc;have hsc':(at',many)=R:=hsc;subst hsc';simp only at hin ⊢
   by_cases h1:many=1
   ·obtain ⟨q,rfl,hq⟩:=hin h1;obtain ⟨⟨ps,code,⟨tk,ta,to,az⟩⟩,hx⟩ : ∃ b,bs[q]=b:=⟨_,rfl⟩
    have hgd:bs.getD ((q:Int)).toNat default=⟨ps,code,⟨tk,ta,to,az⟩⟩:=by rw [List.getD_eq_getElem?_getD,Int.toNat_natCast,List.getElem?_eq_getElem hq,hx]; rfl
    rw [hgd];subst h1
    by_cases ht:tk=1
    ·subst ht;rw [if_neg (by simp)]
     repeat first|refine QG ?_|refine QY ?_ (r:=by conv=>lhs;simp[-List.map_set,QV,hkt,hq,hx])
     exact ja hwf rfl rfl
    ·rw [if_pos (.inr ht)]
     repeat first|refine QG ?_|refine QY ?_ (r:=by conv=>lhs;simp[-List.map_set,QV,hkt,hq,hx,ht])
     exact ja hwf rfl rfl
   ·rw [if_pos (.inl h1)];have h2 : ¬ (many:Int)=1:=by omega
    repeat first|refine QG ?_|refine QY ?_ (r:=by conv=>lhs;simp[-List.map_set,QV,hkt,h1,h2])
    exact ja hwf rfl rfl
end Go.Vw

namespace Ss
/-! ### Where each value is made: the table -/
def hmPut (i:Int) (out:List Int) (l:List Int):List Int:=l.foldl (fun o v=>o.set v.toNat i) out
def hmCode (i:Int) (out:List Int) (code:List Ins):List Int:=code.foldl (fun o x=>hmPut i o x.outs) out
def hmBlk (i:Int) (out:List Int) (b:Block):List Int:=hmCode i (hmPut i out b.params) b.code
def hmAll:Nat→List Block→List Int→List Int
 | _,[],o=>o
 | i,b::r,o=>hmAll (i+1) r (hmBlk (i:Int) o b)
def homesI (f:Fn):List Int:=hmAll 0 f.blocks (List.replicate f.types.length 0)
theorem Ky (i:Int) : ∀ (l out:List Int),(hmPut i out l).length=out.length
 | [],out=>rfl
 | v::l,out=>by
  have:=Ky i l (out.set v.toNat i);rw [List.length_set] at this;exact this
theorem jbj (i:Int) : ∀ (l:List Ins) (out:List Int),(hmCode i out l).length=out.length
 | [],out=>rfl
 | x::l,out=>(jbj i l (hmPut i out x.outs)).trans (Ky i x.outs out)
theorem hmBlk_len (i:Int) (out:List Int) (b:Block):(hmBlk i out b).length=out.length:=(jbj i _ _).trans (Ky i _ _)
theorem hmAll_len : ∀ (bs:List Block) (i:Nat) (out:List Int),(hmAll i bs out).length=out.length
 | [],_,_=>rfl
 | b::r,i,out=>(hmAll_len r (i+1) _).trans (hmBlk_len _ _ _)
theorem homesI_len (f:Fn):(homesI f).length=f.types.length:=by rw [homesI,hmAll_len,List.length_replicate]
theorem jbY (i:Int) {N:Nat} {v:Int} (hv:InR N v) : ∀ (l out:List Int),out.length=N→(∀ w∈l,InR N w)→(hmPut i out l).getD v.toNat 0=if v∈l then i else out.getD v.toNat 0
 | [],out,_,_=>by simp [hmPut]
 | w::l,out,ho,hl=>by
  have ih:=jbY i hv l (out.set w.toNat i) (by simpa using ho) (fun u hu=>hl u (by simp [hu]));have e:hmPut i out (w::l)=hmPut i (out.set w.toNat i) l:=rfl;rw [e,ih];have hw:=hl w (by simp)
  by_cases h1:v∈l
  ·rw [if_pos h1,if_pos (by simp [h1])]
  ·rw [if_neg h1]
   by_cases h2:v=w
   ·subst h2;rw [if_pos (by simp),List.getD_eq_getElem?_getD,List.getElem?_set_self (by have:=hv.1; have:=hv.2; omega)]; rfl
   ·rw [if_neg (by simp [h1,h2]),List.getD_eq_getElem?_getD,List.getElem?_set_ne (by have:=hv.1; have:=hw.1; omega),List.getD_eq_getElem?_getD]
theorem hmCode_at (i:Int) {N:Nat} {v:Int} (hv:InR N v) : ∀ (l:List Ins) (out:List Int),out.length=N→(∀ x∈l, ∀ w∈x.outs,InR N w)→(hmCode i out l).getD v.toNat 0=if v∈zV l then i else out.getD v.toNat 0
 | [],out,_,_=>by simp [hmCode,zV]
 | x::l,out,ho,hl=>by
  have ih:=hmCode_at i hv l (hmPut i out x.outs) (by rw [Ky]; exact ho) (fun u hu=>hl u (by simp [hu]));have e:hmCode i out (x::l)=hmCode i (hmPut i out x.outs) l:=rfl;rw [e,ih,jbY i hv _ _ ho (hl x (by simp))];have e2:zV (x::l)=x.outs++zV l:=by simp [zV]
  rw [e2]
  by_cases h1:v∈zV l
  ·rw [if_pos h1,if_pos (by simp [h1])]
  ·rw [if_neg h1]
   by_cases h2:v∈x.outs
   ·rw [if_pos h2,if_pos (by simp [h2])]
   ·rw [if_neg h2,if_neg (by simp [h1,h2])]
theorem hmBlk_at (i:Int) {N:Nat} {v:Int} (hv:InR N v) (b:Block) (out:List Int) (ho:out.length=N) (hp : ∀ w∈b.params,InR N w) (hl : ∀ x∈b.code, ∀ w∈x.outs,InR N w):(hmBlk i out b).getD v.toNat 0=if v∈allB b then i else out.getD v.toNat 0:=by
 rw [hmBlk,hmCode_at i hv _ _ (by rw [Ky]; exact ho) hl,jbY i hv _ _ ho hp,allB]
 by_cases h1:v∈zV b.code
 ·rw [if_pos h1,if_pos (by simp [h1])]
 ·rw [if_neg h1]
  by_cases h2:v∈b.params
  ·rw [if_pos h2,if_pos (by simp [h2])]
  ·rw [if_neg h2,if_neg (by simp [h1,h2])]
theorem hmAll_at {N:Nat} {v:Int} (hv:InR N v) : ∀ (bs:List Block) (i:Nat) (out:List Int),out.length=N→(∀ b∈bs, ∀ w∈b.params,InR N w)→(∀ b∈bs, ∀ x∈b.code, ∀ w∈x.outs,InR N w)→(allL bs).Nodup →
  (v∉allL bs→(hmAll i bs out).getD v.toNat 0=out.getD v.toNat 0) ∧ ∀ (j:Nat) (b:Block),bs[j]? = some b→v∈allB b→(hmAll i bs out).getD v.toNat 0=((i+j:Nat):Int)
 | [],i,out,_,_,_,_=>⟨fun _=>rfl,by simp⟩
 | b::r,i,out,ho,hp,hl,hnd=>by
  have eL:allL (b::r)=allB b++allL r:=by simp [allL]
  rw [eL] at hnd;obtain ⟨_,n2,n3⟩:=List.nodup_append.1 hnd;obtain ⟨k1,k2⟩:=hmAll_at hv r (i+1) (hmBlk (i:Int) out b) (by rw [hmBlk_len]; exact ho) (fun c hc=>hp c (by simp [hc])) (fun c hc=>hl c (by simp [hc])) n2;have hb:=hmBlk_at (i:Int) hv b out ho (hp b (by simp)) (hl b (by simp));rw [eL,hmAll];refine ⟨fun hn => ?_,fun j c hj hc => ?_⟩
  ·simp only [List.mem_append,not_or] at hn;rw [k1 hn.2,hb,if_neg hn.1]
  ·cases j with
   | zero =>
    simp only [List.getElem?_cons_zero,Option.some.injEq] at hj;subst hj;rw [k1 (fun h=>n3 v hc v h rfl),hb,if_pos hc]; rfl
   | succ j =>
    rw [k2 j c (by simpa using hj) hc]
    congr 1; omega
theorem all_in {f:Fn} (hd:DOk f) : ∀ v∈allL f.blocks,InR f.types.length v:=fun v hv=>by
 obtain ⟨b,hb,hv⟩:=List.mem_flatMap.1 hv;rcases List.mem_append.1 hv with h | h
 ·exact hd.pars b hb v h
 ·obtain ⟨x,hx,h⟩:=List.mem_flatMap.1 h;exact hd.outs b hb x hx v h
theorem homes_home {e:Env} {f:Fn} (h:check e f=true) : ∀ v∈allL f.blocks,(homesI f).getD v.toNat 0=qD f v:=by
 intro v hv;have hd:=check_dok h;obtain ⟨_,ds,hds,_,_⟩:=zq h;obtain ⟨hnd,_,hout⟩:=Je hds;obtain ⟨b,hb,hvb⟩:=List.mem_flatMap.1 hv;obtain ⟨j,hj⟩:=List.mem_iff_getElem?.1 hb;have:=(hmAll_at (all_in hd v hv) f.blocks 0 (List.replicate f.types.length 0) (by simp) hd.pars hd.outs hnd).2 j b hj hvb;rw [homesI,this,Nat.zero_add];simp only [qD,hds,Option.getD_some];rcases List.mem_append.1 hvb with hp | ho
 ·have:=qh hds j b hj v hp;rw [Nat.zero_add] at this;exact (congrArg Def.block this).symm
 ·obtain ⟨y,hy,hvy⟩:=List.mem_flatMap.1 ho;obtain ⟨k,hk⟩:=List.mem_iff_getElem?.1 hy;exact (congrArg Def.block (hout j b hj k y hk v hvy)).symm
theorem arg_made {e:Env} {f:Fn} (h:check e f=true) : ∀ b∈f.blocks, ∀ x∈b.code, ∀ a∈x.args,a∈allL f.blocks:=by
 intro b hb x hx a ha;obtain ⟨_,ds,hds,_,hbs⟩:=zq h;obtain ⟨_,hmade,_⟩:=Je hds;obtain ⟨j,hj⟩:=List.mem_iff_getElem?.1 hb;obtain ⟨k,hk⟩:=List.mem_iff_getElem?.1 hx;obtain ⟨c1,_⟩:=qO hbs hj;have hins:=zH c1 hk;simp only [insOk,Bool.and_eq_true] at hins;obtain ⟨t,ht⟩:=jcb hins.2 a ha;simp only [askOk,Bool.and_eq_true,decide_eq_true_eq] at ht;obtain ⟨⟨⟨⟨q1,q2⟩,q3⟩,q4⟩,q5⟩:=ht;exact hmade a q1 q4
end Ss

namespace Go.Vw
open Go.Proofs Go.RowKit
set_option maxRecDepth 10000
set_option maxHeartbeats 4000000
theorem opIndex_sl {s:Nat} {S:Store} {k:IntKind} {o off len n:Nat} {c} (h:S.get o=some c) (hn:n<len):qo s S (.slice o off len) (.int k (n:Int))=some (.ptr o (off+n*s)):=by
 simp [qo,h,hn]
def Store.push (S:Store) (o:Nat) (cs:List V) (x:V):Store:=((S.add (1,[x])).del o).add (1,cs++[x])
def Store.push0 (S:Store) (x:V):Store:=(S.add (1,[x])).add (1,[x])
section
variable {S:Store} {o:Nat} {cs:List V} {x:V}
theorem push_new:(S.push o cs x).get (S.nx+1)=some (1,cs++[x]):=by simp [Store.push,Store.add,Store.del]
theorem push0_new:(S.push0 x).get (S.nx+1)=some (1,[x]):=by simp [Store.push0,Store.add]
theorem push_old {o':Nat} (h:o'<S.nx) (hn:o'≠o):(S.push o cs x).get o'=S.get o':=by
 have e1 : ¬ o'=S.nx+1:=by omega
 have e2 : ¬ o'=S.nx:=by omega
 simp [Store.push,Store.add,Store.del,e1,e2,hn]
theorem push0_old {o':Nat} (h:o'<S.nx):(S.push0 x).get o'=S.get o':=by
 have e1 : ¬ o'=S.nx+1:=by omega
 have e2 : ¬ o'=S.nx:=by omega
 simp [Store.push0,Store.add,e1,e2]
theorem Agree.push {S0:Store} (h:Agree S0 S) (ho:S0.nx≤o):Agree S0 (S.push o cs x):=((h.add _).del ho).add _
theorem Agree.push0 {S0:Store} (h:Agree S0 S):Agree S0 (S.push0 x):=(h.add _).add _
theorem jbT {b len:Nat} (h:S.get o=some (1,cs)) (ho:o<S.nx) (hl:cs.length=len) (hb:(len+1)*b≤140737488355328) (hb1:len+1≤140737488355328) :
  qR 1 b (S.add (1,[x])) (.slice o 0 len) (.slice S.nx 0 1)=some (.slice (S.nx+1) 0 (len+1),S.push o cs x):=by
 have:o≠S.nx:=by omega
 subst hl;simp [qR,qr,Store.add,Store.push,this,h,hb,hb1,Store.del]
 rfl
theorem jaG {b:Nat} (hb:b≤140737488355328) :
  qR 1 b (S.add (1,[x])) .nils (.slice S.nx 0 1)=some (.slice (S.nx+1) 0 1,S.push0 x):=by
 simp [qR,qr,Store.add,Store.push0,hb]
end
namespace G
def DoneAt (S:Store) (b ow om:Nat) (dv:V) (done:List Nat):Prop :=
 (dv = .nils∧done=[]) ∨ ∃ od,dv = .slice od 0 done.length∧S.get od=some (1,done.map vnat)∧od≠ow∧od≠om∧b≤od∧od<S.nx
def WAt (S:Store) (g:List (List Nat)) (b ow om:Nat) (s:WS):Prop :=
 s.1.length=g.length∧ow≠om∧b≤ow∧b≤om∧ow<S.nx∧om<S.nx∧S.get om=some (1,s.1.map V.bool) ∧
 ∃ dv,S.get ow=some (3,[vl (vl vnat) g, .slice om 0 g.length,dv])∧DoneAt S b ow om dv s.2
end G
theorem get_upd (S:Store) (o:Nat) (c:Nat × List V):(S.upd o c).get o=some c:=by simp [Store.upd]
theorem KN (S:Store) {o o':Nat} (c:Nat × List V) (h:o'≠o):(S.upd o c).get o'=S.get o':=by simp [Store.upd,h]
theorem Walk_v (g:List (List Nat)) (hg:G.Ok g) (S0:Store) (ow om:Nat) : ∀ (f n:Nat) (s s':G.WS) (S:Store),n<g.length→G.walk g f n s=some s'→s'.2.length≤2^30→Agree S0 S→G.WAt S g S0.nx ow om s →
  VCalls Tryz.prog 86 [.ptr ow 0,vnat n] S (fun r S'=>r = .tuple []∧Agree S0 S'∧G.WAt S' g S0.nx ow om s')
 | 0,n,s,s',S,hn,hw,hb,hag,hW=>by cases hw
 | f+1,n,s,s',S,hn,hw,hb,hag,hW=>by
  rw [G.walk_succ] at hw;obtain ⟨h1,h2,h3,h4,l1,l2,h5,dv,h6,h7⟩:=hW;refine qM (c:=jg Tryz.f86) Tryz.func86 rfl rfl (by simp [Tryz.ntmps86]) ?_;rw [Tryz.ntmps86];have hn1:n<s.1.length:=by omega
  repeat refine QS ?_
  refine qg rfl (by conv=>lhs; reduce) (by conv=>lhs; simp [-qi, -jX,h6,jK,qo,h5,hn,hn1]) ?_;refine QN ?_;have hag1:Agree S0 (S.upd om (1,(List.map V.bool s.1).set n (V.bool true))):=hag.upd h4 _;have hW1:G.WAt (S.upd om (1,(List.map V.bool s.1).set n (V.bool true))) g S0.nx ow om (s.1.set n true,s.2):=by
   refine ⟨by simpa using h1,h2,h3,h4,l1,l2,by rw [get_upd, ←List.map_set],dv,by rw [KN _ _ h2]; exact h6, ?_⟩;rcases h7 with h7 | ⟨od,k1,k2,k3,k4,k5,k6⟩
   ·exact .inl h7
   ·exact .inr ⟨od,k1,by rw [KN _ _ k4]; exact k2,k3,k4,k5,k6⟩
  generalize S.upd om (1,(List.map V.bool s.1).set n (V.bool true))=S1 at hag1 hW1 ⊢;have hgn:g.getD n []=g[n]:=by simp [hn]
  rw [hgn] at hw;obtain ⟨sk,hk,rfl⟩:=Option.map_eq_some_iff.1 hw
  repeat refine QS ?_
  refine qg rfl (by conv=>lhs; reduce) (by conv=>lhs; simp [-qi, -jX]) ?_;refine QN ?_
  repeat refine QS ?_
  refine jN 0 rfl rfl ?_
  repeat refine QS ?_
  refine je [0,1,4] rfl (fun c σ S' => ∃ (k:Nat) (t:G.WS),k≤g[n].length∧c=g[n].length-k∧G.kids g f (g[n].drop k) t=some sk∧Agree S0 S'∧G.WAt S' g S0.nx ow om t∧σ=[(0, .ptr ow 0),(1,vnat n),(4,vnat k)]) g[n].length ?_ ?_
  ·exact ⟨0,_,by omega,rfl,hk,hag1,hW1,by simp [Fr.only,Fr.look,vnat,vint]⟩
  ·rintro c σ S' ⟨k,t,hkl,rfl,hd,hag2,hW2,rfl⟩;obtain ⟨g1,g2,g3,g4,l3,l4,g5,du,g6,g7⟩:=hW2
   by_cases hk6:k<g[n].length
   ·have h7:(k:Int)<(g[n].length:Int):=by omega
    have hst:G.kids g f (g[n].drop k) t=if t.1.getD g[n][k] false then G.kids g f (g[n].drop (k+1)) t else (G.walk g f g[n][k] t).bind (G.kids g f (g[n].drop (k+1))):=by
     rw [List.drop_eq_getElem_cons hk6,G.kids_cons]
    rw [hst] at hd;have hkn:g[n][k]<g.length:=hg.elt _ (List.getElem_mem hn) _ (List.getElem_mem hk6);have hkt:g[n][k]<t.1.length:=by omega
    have hr:=hg.row _ (List.getElem_mem hn);have hw1:IntKind.i64.wrap ((k:Int)+1)=(k:Int)+1:=wrap_i64 (by omega) (by omega);have hgd:t.1.getD g[n][k] false=t.1[g[n][k]]:=by simp [hkt]
    rw [hgd] at hd
    repeat refine QS ?_
    refine qg rfl (by conv=>lhs; reduce) (by conv=>lhs; simp [-qi, -jX,g6,jK,qf,jG,hn,h7]) ?_;refine QN ?_
    repeat refine QS ?_
    refine jF rfl rfl rfl ?_
    repeat refine QS ?_
    refine jE rfl ?_
    repeat refine QS ?_
    refine jN 1 rfl rfl ?_;have ix:=opIndex_sl (s:=1) (k := .i64) (off:=0) g5 hkn
    repeat refine QS ?_
    refine Kp rfl (by kernel_rfl) (by conv=>lhs; reduce) (by conv=>lhs; reduce) (by kernel_rfl) (by conv=>lhs; simp [-qi, -jX,g6,g5,jK,qf,ix,hn,hk6,hkt]) ?_;refine QN ?_
    cases hm:t.1[g[n][k]]
    ·rw [hm] at hd;obtain ⟨u,e1,e2⟩:=Option.bind_eq_some_iff.1 hd;refine jF rfl rfl (by simp [ev,Fr.look,hm]) ?_
     repeat refine QS ?_
     refine qg rfl (by conv=>lhs; reduce) (by conv=>lhs; simp [-qi, -jX,g6,jK,qf,hn,hk6]) ?_;refine ql rfl (Walk_v g hg S0 ow om f g[n][k] t u S' hkn e1 ?_ hag2 ⟨g1,g2,g3,g4,l3,l4,g5,du,g6,g7⟩) ?_
     ·have:=(G.kids_len (G.walk_len g f) _ _ _ e2).1;simp at hb; omega
     ·rintro X S2 ⟨rfl,hag3,hW3⟩;refine Wu (by conv=>lhs; simp [-qi, -jX]) ?_;refine QN ?_
      repeat refine QS ?_
      refine qg rfl (by conv=>lhs; reduce) (by conv=>lhs; simp [-qi, -jX,hw1]) ?_;refine QN ?_;exact again ⟨Nat.sub_lt_sub_left (by omega) (Nat.lt_succ_self k),k+1,u,by omega,rfl,e2,hag3,hW3,by simp [Fr.only,Fr.look,vnat,vint]⟩
    ·rw [hm] at hd;refine jJ rfl rfl (by simp [ev,Fr.look,hm]) ?_
     repeat refine QS ?_
     refine jE rfl ?_
     repeat refine QS ?_
     refine qg rfl (by conv=>lhs; reduce) (by conv=>lhs; simp [-qi, -jX,hw1]) ?_;refine QN ?_;exact again ⟨Nat.sub_lt_sub_left (by omega) (Nat.lt_succ_self k),k+1,t,by omega,rfl,hd,hag2,⟨g1,g2,g3,g4,l3,l4,g5,du,g6,g7⟩,by simp [Fr.only,Fr.look,vnat,vint]⟩
   ·have h7 : ¬ (k:Int)<(g[n].length:Int):=by omega
    repeat refine QS ?_
    refine qg rfl (by conv=>lhs; reduce) (by conv=>lhs; simp [-qi, -jX,g6,jK,qf,jG,hn,h7]) ?_;refine QN ?_
    repeat refine QS ?_
    refine jJ rfl rfl rfl ?_
    repeat refine QS ?_
    refine jV 0 rfl rfl ?_;have hz:g[n].drop k=[]:=by rw [List.drop_eq_nil_iff]; omega
    rw [hz,G.kids_nil] at hd
    cases hd
    rcases g7 with ⟨rfl,hnil⟩ | ⟨od,rfl,k2,k3,k4,k5,k6⟩
    ·have ap:=jaG (S:=S') (x := .int .i64 (n:Int)) (b:=8) (by omega);have gp:(S'.push0 (.int .i64 (n:Int))).get ow=some (3,[vl (vl vnat) g,V.slice om 0 g.length,V.nils]):=(push0_old l3).trans g6
     repeat refine QS ?_
     refine qg rfl (by conv=>lhs; reduce) (by conv=>lhs; simp [-qi, -jX,g6,jK,qv,rep0,jB,ap,gp]) ?_;refine QN ?_;refine ⟨rfl,hag2.push0.upd g3 _,g1,g2,g3,g4,Nat.lt_add_right 2 l3,Nat.lt_add_right 2 l4, ?_,_,get_upd _ _ _, .inr ⟨S'.nx+1, ?_, ?_, ?_, ?_, ?_, ?_⟩⟩
     ·rw [KN _ _ (Ne.symm g2),push0_old l4]; exact g5
     ·simp [hnil]
     ·rw [KN _ _ (by omega),push0_new]; simp [hnil,vnat]
     ·omega
     ·omega
     ·omega
     ·show S'.nx+1<S'.nx+2; omega
    ·have hb2:sk.2.length+1≤2^30:=by simpa using hb
     have ap:=jbT (S:=S') (x := .int .i64 (n:Int)) (b:=8) k2 k6 (by simp:_=sk.2.length) (by omega) (by omega);have gp:(S'.push od (List.map vnat sk.2) (.int .i64 (n:Int))).get ow=some (3,[vl (vl vnat) g,V.slice om 0 g.length,V.slice od 0 sk.2.length]):=(push_old l3 (Ne.symm k3)).trans g6
     repeat refine QS ?_
     refine qg rfl (by conv=>lhs; reduce) (by conv=>lhs; simp [-qi, -jX,g6,jK,qv,rep0,jB,ap,gp]) ?_;refine QN ?_;refine ⟨rfl,(hag2.push k5).upd g3 _,g1,g2,g3,g4,Nat.lt_add_right 2 l3,Nat.lt_add_right 2 l4, ?_,_,get_upd _ _ _, .inr ⟨S'.nx+1, ?_, ?_, ?_, ?_, ?_, ?_⟩⟩
     ·rw [KN _ _ (Ne.symm g2),push_old l4 (Ne.symm k4)]; exact g5
     ·simp
     ·rw [KN _ _ (by omega),push_new]; simp [vnat]
     ·omega
     ·omega
     ·omega
     ·show S'.nx+1<S'.nx+2; omega
end Go.Vw

namespace Go.Vw
open Go.Proofs Go.RowKit
set_option maxRecDepth 10000
set_option maxHeartbeats 4000000
end Go.Vw

namespace Go.Vw
open Go.Proofs Go.RowKit
set_option maxRecDepth 10000
set_option maxHeartbeats 4000000
theorem jaz (g:List (List Nat)) (hg:G.Ok g) (a:Option Nat) (ha : ∀ n,a=some n→n<g.length):VPure Tryz.prog 46 [vl (vl vnat) g,vint (a.elim (-1) Int.ofNat)] (vl V.bool (G.without g a)):=by
 intro S;refine jb (c:=jg Tryz.f46) Tryz.func46 rfl rfl (by simp [Tryz.ntmps46]) ?_;rw [Tryz.ntmps46];intro hwf;have hm256:=hg.max;have hp:0<g.length:=hg.pos;have hb1:g.length*1≤140737488355328:=by omega
 have hb0:g.length≤140737488355328:=by omega
 have wat : ∀ m:List Bool,m.length=g.length→G.WAt (St S [] [some (1,m.map V.bool),some (3,[vl (vl vnat) g, .slice (lid S.nx 0) 0 g.length, .nils])]) g S.nx (lid S.nx 1) (lid S.nx 0) (m,[]):=by
  intro m hm;refine ⟨hm,by simp [lid],by simp [lid],by simp [lid],by rw [qp]; simp [lid],by rw [qp]; simp [lid],by simp [jT], .nils,by simp [jT], .inl ⟨rfl,rfl⟩⟩
 cases a with
 | none =>
  obtain ⟨t,w1,w2,w3,w4⟩:=G.metFrom_ends hg (m:=List.replicate g.length false) (by simp) (G.rep_getD _ _);have hX:G.without g none=t.1:=w2;have e1:(-1:Int) = -1:=rfl;simp only [Option.elim];have hrep:List.replicate g.length (V.bool false)=(List.replicate g.length false).map V.bool:=by simp
  repeat first|refine QG ?_|refine QY ?_ (r:=by conv=>lhs;simp[-List.map_set,QV,hb1,hb0])
  repeat refine QS ?_
  refine QP ?_;refine ql rfl (Walk_v g hg S (lid S.nx 1) (lid S.nx 0) g.length 0 _ t _ hp w1 (by omega) WV (by rw [hrep]; exact wat _ (by simp))) ?_;rintro X T ⟨rfl,hag,hW⟩;have hom:=hW.2.2.2.2.2.2.1;obtain ⟨dv,how,_⟩:=hW.2.2.2.2.2.2.2;have hol:=hW.2.2.2.2.2.1;refine QW ?_
  repeat first|refine QG ?_|refine QY ?_ (r:=by conv=>lhs;simp[-List.map_set,QV,how])
  have hfr:=Ghost.freeze1 (len:=g.length) hom (by simp [V.closed1]) (by simp [w4]);rw [hX];exact JS hwf (hfr.toB _) (hag.del (by simp [lid])) rfl
 | some a =>
  have hal:=ha a rfl;simp only [Option.elim];have hrep:List.replicate g.length (V.bool false)=(List.replicate g.length false).map V.bool:=by simp
  by_cases h0:a=0
  ·subst h0;have hX:G.without g (some 0)=List.replicate g.length false:=by simp [G.without]
   repeat first|refine QG ?_|refine QY ?_ (r:=by conv=>lhs;simp[-List.map_set,QV,hb1,hb0,hal])
   have hfr:=frz1 (B:=S) (u:=[]) (l:=[some (1,(List.replicate g.length false).map V.bool),some (3,[vl (vl vnat) g,V.slice (lid S.nx 0) 0 g.length,V.nils])]) (k:=0) (len:=g.length) (cells:=(List.replicate g.length false).map V.bool) (by simp) rfl (by simp [V.closed1]) (by simp);rw [hX];rw [hrep];exact ji hwf (hfr.toB _) rfl
  ·have hz:((List.replicate g.length false).set a true).getD 0 false=false:=by rw [G.getD_set_other h0]; exact G.rep_getD _ _
   obtain ⟨t,w1,w2,w3,w4⟩:=G.metFrom_ends hg (m:=(List.replicate g.length false).set a true) (by simp) hz;have hX:G.without g (some a)=t.1.set a false:=by simp [G.without,h0,w2]
   have ha0 : ¬ (a:Int)=0:=by omega
   have hat:a<t.1.length:=by omega
   repeat first|refine QG ?_|refine QY ?_ (r:=by conv=>lhs;simp[-List.map_set,QV,hb1,hb0,hal,ha0,h0])
   repeat refine QS ?_
   refine QP ?_;refine ql rfl (Walk_v g hg S (lid S.nx 1) (lid S.nx 0) g.length 0 _ t _ hp w1 (by omega) WV (by rw [hrep, ←List.map_set]; exact wat _ (by simp))) ?_;rintro X T ⟨rfl,hag,hW⟩;have hom:=hW.2.2.2.2.2.2.1;obtain ⟨dv,how,_⟩:=hW.2.2.2.2.2.2.2;have hol:=hW.2.2.2.2.2.1;refine QW ?_;have hne : ¬ lid S.nx 1=lid S.nx 0:=by simp [lid]
   repeat first|refine QG ?_|refine QY ?_ (r:=by conv=>lhs;simp[-List.map_set,QV,how,hom,hal,hat,qE,JW,hne])
   have hfr:=Ghost.freeze1 (S:=T.upd (lid S.nx 0) (1,(t.1.set a false).map V.bool)) (o:=lid S.nx 0) (cells:=(t.1.set a false).map V.bool) (len:=g.length) JW (jL V.bool (fun _=>rfl) _) (by simp [w4]);rw [hX];exact JS hwf (hfr.toB _) ((hag.upd (by simp [lid]) _).del (by simp [lid])) rfl
end Go.Vw
