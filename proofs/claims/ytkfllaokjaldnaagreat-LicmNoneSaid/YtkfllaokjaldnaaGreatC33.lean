import Derived.Test.YtkfllaokjaldnaaGreatC29
import Derived.Test.YtkfllaokjaldnaaGreatC19
import Derived.Test.YtkfllaokjaldnaaGreatC31
import Derived.Test.YtkfllaokjaldnaaGreatC32
import Derived.Test.YtkfllaokjaldnaaGreatC27
import Derived.Test.YtkfllaokjaldnaaGreatProg
import Derived.WalkKit
import Derived.Deep.RegionLaw
import Derived.Lib.SliceRun
import Derived.Test.YtkfllaokjaldnaaGreatC4
import Derived.Test.YtkfllaokjaldnaaGreatC10
/-
  Part of the proof (texts LHome, LClo, LRunH, LDelM, LDel).
-/
set_option linter.unusedVariables false
set_option linter.unusedSimpArgs false
namespace Go.Vw
open Go.Proofs Go.RowKit
set_option maxRecDepth 10000
set_option maxHeartbeats 4000000
theorem Homes_v (f:Ss.Fn) (hf:f.Fits) (hs:f.small=true) (hp : ∀ b∈f.blocks, ∀ v∈b.params,Ss.InR f.types.length v) (ho : ∀ b∈f.blocks, ∀ x∈b.code, ∀ v∈x.outs,Ss.InR f.types.length v) (S:Store) (hwf0:S.Wf) :
  VCalls Tryz.prog 27 [qW f] S fun r T=>r = .slice S.nx 0 f.types.length∧T=St S [] [some (1,(Ss.homesI f).map vint)]:=by
 obtain ⟨hb0,hb1,hb2,_⟩:=jZ hs
 have hfb:=hf.2.2.2
 unfold Ss.homesI
 obtain ⟨⟨fi,fo⟩,ts,bs⟩:=f
 simp only at *
 generalize hN:ts.length=N at *
 generalize hz:List.replicate N (0:Int)=z0
 have hzl:z0.length=N:=by rw [←hz]; simp
 have e3:List.replicate N (V.int IntKind.i64 0)=z0.map vint:=by rw [←hz]; simp
 refine jb (c:=jf Tryz.f27) Tryz.func27 rfl rfl (by simp [Tryz.ntmps27]) ?_
 rw [Tryz.ntmps27]
 intro hwf
 repeat refine QS ?_
 refine QP ?_
 refine QN ?_
 refine ji 1 rfl ((zP (k:=0) (by simp) (by rfl) (by rfl) (by simp))) (by conv=>lhs; simp [Fr.set]) ?_
 simp only [List.set_cons_succ,List.set_cons_zero]
 have e1:N*8≤140737488355328:=by omega
 have e2:N≤140737488355328:=by omega
 repeat (first|refine QG ?_|refine QY ?_ (r:=by conv=>lhs;simp[-List.map_set,QV,hN,e1,e2]))
 rw [e3]
 refine jK [3,17,18,19] (by conv=>lhs; simp [Fr.only,Fr.look]) ?_
 refine zo [1] hwf (by decide) (by simp [-List.map_set]) (by conv=>lhs; simp [-List.map_set]) (by conv=>lhs; simp [-List.map_set]) (by conv=>lhs; simp [-List.map_set]) ?_
 repeat refine QS ?_
 refine jd [3,17,18,19] rfl (fun c σ S' => ∃ (k:Nat) (out:List Int),k≤bs.length∧c=bs.length-k∧out.length=N∧Ss.hmAll k (bs.drop k) out=Ss.hmAll 0 bs z0∧σ=[(3, .slice (lid S.nx 0) 0 N),(17,vl je bs),(18,vnat bs.length),(19,vnat k)]∧S'=St S [] [some (1,out.map vint)]) bs.length ?_ ?_
 ·exact ⟨0,_,by omega,rfl,hzl,rfl,by simp [Fr.only],rfl⟩
 ·rintro c σ T ⟨k,out,hk,rfl,hol,hout,rfl,rfl⟩
  by_cases hkt:k<bs.length
  ·have hw:=jn hkt (by omega)
   have hbm:bs[k]∈bs:=List.getElem_mem hkt
   obtain ⟨hbp,_,_,hbc⟩:=hb2 _ hbm
   have hpk:=hp _ hbm
   have hok:=ho _ hbm
   have hfk:=hfb _ hbm
   rw [List.drop_eq_getElem_cons hkt,Ss.hmAll] at hout
   obtain ⟨⟨ps,code,⟨tk,ta,to,az⟩⟩,hx⟩ : ∃ b,bs[k]=b:=⟨_,rfl⟩
   rw [hx] at hout hbp hbc hpk hok hfk
   simp only at hbp hbc hpk hok
   have hcf:=hfk.2.1.2
   simp only at hcf
   have hout0:Ss.hmAll (k+1) (bs.drop (k+1)) (Ss.hmCode (k:Int) (Ss.hmPut (k:Int) out (ps.drop 0)) code)=Ss.hmAll 0 bs z0:=hout
   repeat refine QS ?_
   refine QP ?_ (r:=by conv=>lhs;simp[-List.map_set,QV,hkt,hx])
   refine QN ?_
   repeat refine QS ?_
   refine jC rfl rfl rfl ?_
   repeat refine QS ?_
   refine jz rfl ?_
   repeat refine QS ?_
   refine jH 1 rfl rfl ?_
   repeat refine QS ?_
   refine QP ?_ (r:=by conv=>lhs;simp[-List.map_set,QV,hkt,hx])
   refine QN ?_
   repeat (first|refine QG ?_|refine QY ?_)
   refine jK [3,4,5,17,18,19,25,26,27] (by conv=>lhs; simp [Fr.only,Fr.look]) ?_
   repeat refine QS ?_
   refine jd [3,4,5,17,18,19,25,26,27] rfl (fun c σ S' => ∃ (j:Nat) (out:List Int),j≤ps.length∧c=ps.length-j∧out.length=N∧Ss.hmAll (k+1) (bs.drop (k+1)) (Ss.hmCode (k:Int) (Ss.hmPut (k:Int) out (ps.drop j)) code)=Ss.hmAll 0 bs z0∧σ=[(3, .slice (lid S.nx 0) 0 N),(4,vnat k),(5, .ptr (lid S.nx 1) 0),(17,vl je bs),(18,vnat bs.length),(19,vnat k),(25,vl vint ps),(26,vnat ps.length),(27,vnat j)]∧S'=St S [] [some (1,out.map vint),some (6,[vl vint ps,vl jt code,vint tk,vint ta,vl jq to,vl vint az])]) ps.length ?_ ?_
   ·exact ⟨0,out,by omega,rfl,hol,hout0,by simp [Fr.only,Fr.look],rfl⟩
   ·rintro c σ T ⟨j,out,hj,rfl,hol,hout,rfl,rfl⟩
    by_cases hjt:j<ps.length
    ·have hwj:=jn hjt (by omega)
     obtain ⟨m,hm⟩ : ∃ m:Nat,ps[j]=(m:Int):=⟨ps[j].toNat,by have:=(hpk _ (List.getElem_mem hjt)).1; omega⟩
     have hmN:m<N:=by have:=(hpk _ (List.getElem_mem hjt)).2; omega
     have hmo:m<out.length:=by omega
     rw [List.drop_eq_getElem_cons hjt] at hout
     have hout2:Ss.hmAll (k+1) (bs.drop (k+1)) (Ss.hmCode (k:Int) (Ss.hmPut (k:Int) (out.set m (k:Int)) (ps.drop (j+1))) code)=Ss.hmAll 0 bs z0:=by
      rw [←hout,hm]; rfl
     repeat (first|refine QG ?_|refine QY ?_ (r:=by conv=>lhs;simp[-List.map_set,QV,hjt,hm,hmN,hmo,hwj]))
     show jv _ _ _ _ _ _ _
     exact again ⟨Nat.sub_lt_sub_left hjt (Nat.lt_succ_self j),j+1,out.set m (k:Int),hjt,rfl,by rw [List.length_set]; exact hol,hout2,by simp [Fr.only,Fr.look],rfl⟩
    ·have e:ps.drop j=[]:=by rw [List.drop_eq_nil_iff]; omega
     rw [e] at hout
     have hout3:Ss.hmAll (k+1) (bs.drop (k+1)) (Ss.hmCode (k:Int) out (code.drop 0))=Ss.hmAll 0 bs z0:=hout
     clear hout hout0 e
     repeat (first|refine QG ?_|refine QY ?_ (r:=by conv=>lhs;simp[-List.map_set,QV,hjt]))
     refine jK [3,4,17,18,19,37,38,39] (by conv=>lhs; simp [Fr.only,Fr.look]) ?_
     refine zo [0] hwf (by decide) (by simp [-List.map_set]) (by conv=>lhs; simp [-List.map_set]) (by conv=>lhs; simp [-List.map_set]) (by conv=>lhs; simp [-List.map_set]) ?_
     repeat refine QS ?_
     refine jd [3,4,17,18,19,37,38,39] rfl (fun c σ S' => ∃ (i:Nat) (out:List Int),i≤code.length∧c=code.length-i∧out.length=N∧Ss.hmAll (k+1) (bs.drop (k+1)) (Ss.hmCode (k:Int) out (code.drop i))=Ss.hmAll 0 bs z0∧σ=[(3, .slice (lid S.nx 0) 0 N),(4,vnat k),(17,vl je bs),(18,vnat bs.length),(19,vnat k),(37,vl jt code),(38,vnat code.length),(39,vnat i)]∧S'=St S [] [some (1,out.map vint)]) code.length ?_ ?_
     ·exact ⟨0,out,by omega,rfl,hol,hout3,by simp [Fr.only,Fr.look],rfl⟩
     ·rintro c σ T ⟨i,out,hi,rfl,hol,hout,rfl,rfl⟩
      by_cases hit:i<code.length
      ·have hwi:=jn hit (by omega)
       rw [List.drop_eq_getElem_cons hit] at hout
       have hoi:=hok _ (List.getElem_mem hit)
       have hci:=hcf _ (List.getElem_mem hit)
       obtain ⟨⟨xo,xn,xa,xs⟩,hx2⟩ : ∃ b,code[i]=b:=⟨_,rfl⟩
       rw [hx2] at hout hoi hci
       simp only at hoi
       have hxl:xs.length<2^62:=by
        have:=hci.2.2.2.1
        simp only at this
        omega
       have hout4:Ss.hmAll (k+1) (bs.drop (k+1)) (Ss.hmCode (k:Int) (Ss.hmPut (k:Int) out (xs.drop 0)) (code.drop (i+1)))=Ss.hmAll 0 bs z0:=hout
       clear hout hout3
       repeat refine QS ?_
       refine QP ?_ (r:=by conv=>lhs;simp[-List.map_set,QV,hit,hx2])
       refine QN ?_
       repeat refine QS ?_
       refine jC rfl rfl rfl ?_
       repeat refine QS ?_
       refine jz rfl ?_
       repeat refine QS ?_
       refine jH 5 rfl rfl ?_
       repeat refine QS ?_
       refine QP ?_ (r:=by conv=>lhs;simp[-List.map_set,QV,hit,hx2])
       refine QN ?_
       repeat (first|refine QG ?_|refine QY ?_)
       refine jK [3,4,17,18,19,37,38,39,44,45,46] (by conv=>lhs; simp [Fr.only,Fr.look]) ?_
       refine zo [0] hwf (by decide) (by simp [-List.map_set]) (by conv=>lhs; simp [-List.map_set]) (by conv=>lhs; simp [-List.map_set]) (by conv=>lhs; simp [-List.map_set]) ?_
       repeat refine QS ?_
       refine jd [3,4,17,18,19,37,38,39,44,45,46] rfl (fun c σ S' => ∃ (q:Nat) (out:List Int),q≤xs.length∧c=xs.length-q∧out.length=N∧Ss.hmAll (k+1) (bs.drop (k+1)) (Ss.hmCode (k:Int) (Ss.hmPut (k:Int) out (xs.drop q)) (code.drop (i+1)))=Ss.hmAll 0 bs z0∧σ=[(3, .slice (lid S.nx 0) 0 N),(4,vnat k),(17,vl je bs),(18,vnat bs.length),(19,vnat k),(37,vl jt code),(38,vnat code.length),(39,vnat i),(44,vl vint xs),(45,vnat xs.length),(46,vnat q)]∧S'=St S [] [some (1,out.map vint)]) xs.length ?_ ?_
       ·exact ⟨0,out,by omega,rfl,hol,hout4,by simp [Fr.only,Fr.look],rfl⟩
       ·rintro c σ T ⟨q,out,hq,rfl,hol,hout,rfl,rfl⟩
        by_cases hqt:q<xs.length
        ·have hwq:=jn hqt (by omega)
         obtain ⟨m,hm⟩ : ∃ m:Nat,xs[q]=(m:Int):=⟨xs[q].toNat,by have:=(hoi _ (List.getElem_mem hqt)).1; omega⟩
         have hmN:m<N:=by have:=(hoi _ (List.getElem_mem hqt)).2; omega
         have hmo:m<out.length:=by omega
         rw [List.drop_eq_getElem_cons hqt] at hout
         have hout2:Ss.hmAll (k+1) (bs.drop (k+1)) (Ss.hmCode (k:Int) (Ss.hmPut (k:Int) (out.set m (k:Int)) (xs.drop (q+1))) (code.drop (i+1)))=Ss.hmAll 0 bs z0:=by
          rw [←hout,hm]; rfl
         repeat (first|refine QG ?_|refine QY ?_ (r:=by conv=>lhs;simp[-List.map_set,QV,hqt,hm,hmN,hmo,hwq]))
         show jv _ _ _ _ _ _ _
         exact again ⟨Nat.sub_lt_sub_left hqt (Nat.lt_succ_self q),q+1,out.set m (k:Int),hqt,rfl,by rw [List.length_set]; exact hol,hout2,by simp [Fr.only,Fr.look],rfl⟩
        ·have e:xs.drop q=[]:=by rw [List.drop_eq_nil_iff]; omega
         rw [e] at hout
         have hout5:Ss.hmAll (k+1) (bs.drop (k+1)) (Ss.hmCode (k:Int) out (code.drop (i+1)))=Ss.hmAll 0 bs z0:=hout
         repeat (first|refine QG ?_|refine QY ?_ (r:=by conv=>lhs;simp[-List.map_set,QV,hqt,hwi]))
         show jv _ _ _ _ _ _ _
         exact again ⟨Nat.sub_lt_sub_left hit (Nat.lt_succ_self i),i+1,out,hit,rfl,hol,hout5,by simp [Fr.only,Fr.look],rfl⟩
      ·have e:code.drop i=[]:=by rw [List.drop_eq_nil_iff]; omega
       rw [e] at hout
       have hout5:Ss.hmAll (k+1) (bs.drop (k+1)) out=Ss.hmAll 0 bs z0:=hout
       repeat (first|refine QG ?_|refine QY ?_ (r:=by conv=>lhs;simp[-List.map_set,QV,hit,hw]))
       show jv _ _ _ _ _ _ _
       exact again ⟨Nat.sub_lt_sub_left hkt (Nat.lt_succ_self k),k+1,out,hkt,rfl,hol,hout5,by simp [Fr.only,Fr.look],rfl⟩
  ·have hke:bs.drop k=[]:=by rw [List.drop_eq_nil_iff]; omega
   rw [hke] at hout
   have hout5:out=Ss.hmAll 0 bs z0:=hout
   rw [←hout5]
   repeat (first|refine QG ?_|refine QY ?_ (r:=by conv=>lhs;simp[-List.map_set,QV,hkt]))
   exact zF ⟨by simp [lid],rfl⟩
end Go.Vw

namespace Go.Vw
open Go.Proofs Go.RowKit
set_option maxRecDepth 10000
set_option maxHeartbeats 4000000
theorem LClo_v (S:Store) {ph oh:Nat} {hm:List Int} {h:Int} {nodes:List Int} (hp:S.get ph=some (1,[.slice oh 0 hm.length])) (ho:S.get oh=some (1,hm.map vint)) (hs:nodes.Pairwise (· < ·)) (hl:nodes.length<4611686018427387904) {m:Nat} (hmN:m<hm.length) :
  VCalls Tryz.prog 29 [vint (m:Int), .ref (.agg [vint h,vl vint nodes]), .ptr ph 0] S fun r T=>r = .bool (decide (hm[m]∈nodes))∧T=S:=by
 have cb:=BinSearch_v nodes hm[m] hl hs
 refine jb (c:=jf Tryz.f29) Tryz.func29 rfl rfl (by simp [Tryz.ntmps29]) ?_
 rw [Tryz.ntmps29]
 intro hwf
 have lp:=jV hwf hp
 have lo:=jV hwf ho
 have bp:=fun u l => @jy S u l ph lp
 have bo:=fun u l => @jy S u l oh lo
 repeat (first|refine QG ?_|refine QY ?_)
 repeat refine QS ?_
 refine QD (r:=by conv=>lhs;simp[-List.map_set,QV,bp,bo,hp,ho,hmN]) (k:=?_)
 refine jo rfl (cb) ?_
 refine QM (by conv=>lhs;simp[-List.map_set,QV]) ?_
 refine QN ?_
 repeat (first|refine QG ?_|refine QY ?_)
 exact zF ⟨rfl,qI hwf⟩
theorem LIdx_v {S:Store} {l:List Int} {oc:Nat} {fid:FuncId} {caps:List V} {p:Int→Bool} (hc:jU Tryz.prog fid=true) (hlim:l.length<2^62) (hclo : ∀ v∈l,VCalls Tryz.prog fid (vint v::caps) S fun r T=>r = .bool (p v)∧T=S) (hg:S.get oc=some (1,l.map vint)) :
  VCalls Tryz.prog 84 [.slice oc 0 l.length, .func fid caps] S fun v T=>v=vint (qq p l 0)∧T=S:=by
 refine jb (c:=jf Tryz.f84) Tryz.func84 rfl rfl (by simp [Tryz.ntmps84]) ?_
 rw [Tryz.ntmps84]
 intro hwf
 have lo:=jV hwf hg
 have b0:=fun u m => @jy S u m oc lo
 repeat (first|refine QG ?_|refine QY ?_ (r:=by conv=>lhs;simp[-List.map_set,QV,b0,hg]))
 repeat refine QS ?_
 refine jd [0,1,7,8] rfl (fun c σ S' => ∃ (k:Nat),k≤l.length∧c=l.length-k∧qq p (l.drop k) k=qq p l 0∧σ=[(0, .slice oc 0 l.length),(1, .func fid caps),(7,vnat l.length),(8,vnat k)]∧S'=St S [] []) l.length ?_ ?_
 ·exact ⟨0,by omega,rfl,rfl,by simp [Fr.only],rfl⟩
 ·rintro c σ T ⟨k,hk,rfl,hd,rfl,rfl⟩
  by_cases hkt:k<l.length
  ·have hst:qq p (l.drop k) k=if p l[k]=true then (k:Int) else qq p (l.drop (k+1)) (k+1):=by rw [List.drop_eq_getElem_cons hkt,qq]
   have hw:=jn hkt (by omega)
   have cc:=hclo l[k] (List.getElem_mem hkt)
   rw [←qI hwf] at cc
   repeat (first|refine QG ?_|refine QY ?_ (r:=by conv=>lhs;simp[-List.map_set,QV,hkt,b0,hg]))
   repeat refine QS ?_
   refine QP ?_ (r:=by conv=>lhs;simp[-List.map_set,QV,hkt,b0,hg])
   refine zz rfl hc rfl cc ?_
   rintro X T9 ⟨rfl,rfl⟩
   cases hp:p l[k] with
   | true =>
    rw [hp,if_pos rfl] at hst
    refine QM (by conv=>lhs;simp[-List.map_set,QV]) ?_
    refine QN ?_
    repeat (first|refine QG ?_|refine QY ?_)
    exact zF ⟨by rw [←hd,hst]; rfl,by first | exact qI hwf | (rw [qI hwf]; exact qI hwf)⟩
   | false =>
    rw [hp,if_neg (by simp)] at hst
    refine QM (by conv=>lhs;simp[-List.map_set,QV]) ?_
    refine QN ?_
    repeat (first|refine QG ?_|refine QY ?_ (r:=by conv=>lhs;simp[-List.map_set,QV,hw]))
    show jv _ _ _ _ _ _ _
    exact again ⟨Nat.sub_lt_sub_left hkt (Nat.lt_succ_self k),k+1,hkt,rfl,by rw [←hst,hd],by simp [Fr.only,Fr.look],by first | rfl | (rw [qI hwf]; rfl)⟩
  ·have e:l.drop k=[]:=by rw [List.drop_eq_nil_iff]; omega
   rw [e] at hd
   simp only [qq] at hd
   repeat (first|refine QG ?_|refine QY ?_ (r:=by conv=>lhs;simp[-List.map_set,QV,hkt]))
   exact zF ⟨congrArg vint hd,qI hwf⟩
theorem LAny_v {S:Store} {l:List Int} {oc:Nat} {fid:FuncId} {caps:List V} {p:Int→Bool} (hc:jU Tryz.prog fid=true) (hlim:l.length<2^62) (hclo : ∀ v∈l,VCalls Tryz.prog fid (vint v::caps) S fun r T=>r = .bool (p v)∧T=S) (hg:S.get oc=some (1,l.map vint)) :
  VCalls Tryz.prog 32 [.slice oc 0 l.length, .func fid caps] S fun v T=>v = .bool (l.any p)∧T=S:=by
 have ci:=LIdx_v hc hlim hclo hg
 rw [←zM p l 0]
 refine jb (c:=jf Tryz.f32) Tryz.func32 rfl rfl (by simp [Tryz.ntmps32]) ?_
 rw [Tryz.ntmps32]
 intro hwf
 rw [←qI hwf] at ci
 repeat (first|refine QG ?_|refine QY ?_)
 repeat refine QS ?_
 refine QP ?_
 refine qh rfl ci ?_
 rintro X T9 ⟨rfl,rfl⟩
 refine QM (by conv=>lhs;simp[-List.map_set,QV]) ?_
 refine QN ?_
 repeat (first|refine QG ?_|refine QY ?_)
 exact zF ⟨rfl,by first | exact qI hwf | (rw [qI hwf]; exact qI hwf)⟩
end Go.Vw

namespace Go.Vw
open Go.Proofs Go.RowKit
set_option maxRecDepth 10000
set_option maxHeartbeats 2000000
theorem plus_none {S:Store} (h:S.Wf):plus S ⟨fun _=>none,0⟩=S:=by
 refine Store.ext' (funext fun o => ?_) rfl
 simp only [plus]
 split
 ·rfl
 ·rw [h.gone o (by omega)]; rfl
theorem VPure.thawF {P:Program} {f:FuncId} {xs xs':List V} {S S':Store} {X:V} (h:VPure P f xs' X) (hg:GhostArgs xs S xs' S') (hcl : ∀ x∈xs',x.closed=true) (hf:flatV X=true) (hsx : ∀ n,jaH n X=X):VCalls P f xs S fun r T=>r=X∧T=S:=by
 refine JB fun hw => ?_
 refine ((h ⟨fun _=>none,0⟩).thaw hg hcl ?_).mono ?_
 ·rintro r T ⟨rfl,rfl⟩
  exact ⟨hf,fun o c hc=>by cases hc⟩
 ·rintro r T ⟨r0,T0,⟨rfl,rfl⟩,rfl,rfl⟩
  exact ⟨hsx _,plus_none hw⟩
theorem plus_one {S:Store} (h:S.Wf) (l:List Int):plus S (St ⟨fun _=>none,0⟩ [] [some (1,l.map vint)])=St S [] [some (1,l.map vint)]:=by
 refine Store.ext' (funext fun o => ?_) ?_
 ·simp only [plus,St]
  by_cases ho:o<S.nx
  ·simp [ho,uGet]
  ·rw [if_neg ho,if_neg ho]
   simp only [Nat.not_lt_zero,if_false,Nat.sub_zero]
   cases hk:o-S.nx with
   | zero=>simp [Wh,vint]
   | succ k=>simp
 ·simp [plus,St,lid]
def y1 (o:Nat) (c:Nat × List V):Store:=⟨fun q=>if q=o then some c else none,0⟩
theorem y1_sub {o:Nat} {c:Nat × List V} {S:Store} (h:S.get o=some c):(y1 o c).Sub S:=fun q d hd=>by
 simp only [y1] at hd; split at hd
 ·rename_i e; subst e; cases hd; exact h
 ·cases hd
theorem y1_get {o:Nat} {c:Nat × List V}:(y1 o c).get o=some c:=by simp [y1]
def y2 (o:Nat) (c:Nat × List V) (p:Nat) (d:Nat × List V):Store:=⟨fun q=>if q=o then some c else if q=p then some d else none,0⟩
theorem y2_sub {o p:Nat} {c d:Nat × List V} {S:Store} (h:S.get o=some c) (h2:S.get p=some d):(y2 o c p d).Sub S:=fun q e he=>by
 simp only [y2] at he; split at he
 ·rename_i e2; subst e2; cases he; exact h
 ·split at he
  ·rename_i e2; subst e2; cases he; exact h2
  ·cases he
theorem y2_shp {o p:Nat} {c d c' d':Nat × List V} {S:Store} (h:S.get o=some c') (hc:c'.1=c.1) (h2:S.get p=some d') (hd:d'.1=d.1):(y2 o c p d).Shp S:=fun q e he=>by
 simp only [y2] at he; split at he
 ·rename_i e2; subst e2; cases he; exact ⟨c',h,hc⟩
 ·split at he
  ·rename_i e2; subst e2; cases he; exact ⟨d',h2,hd⟩
  ·cases he
theorem y2_get {o p:Nat} {c d:Nat × List V}:(y2 o c p d).get o=some c:=by simp [y2]
theorem y2_get2 {o p:Nat} {c d:Nat × List V} (h:p≠o):(y2 o c p d).get p=some d:=by simp [y2,h]
def y3 (o:Nat) (c:Nat × List V) (p:Nat) (d:Nat × List V) (q:Nat) (e:Nat × List V):Store:=⟨fun r=>if r=o then some c else if r=p then some d else if r=q then some e else none,0⟩
theorem y3_shp {o p q:Nat} {c d e c' d' e':Nat × List V} {S:Store} (h:S.get o=some c') (hc:c'.1=c.1) (h2:S.get p=some d') (hd:d'.1=d.1) (h3:S.get q=some e') (he:e'.1=e.1):(y3 o c p d q e).Shp S:=fun r x hx=>by
 simp only [y3] at hx; split at hx
 ·rename_i e2; subst e2; cases hx; exact ⟨c',h,hc⟩
 ·split at hx
  ·rename_i e2; subst e2; cases hx; exact ⟨d',h2,hd⟩
  ·split at hx
   ·rename_i e2; subst e2; cases hx; exact ⟨e',h3,he⟩
   ·cases hx
theorem y3_get {o p q:Nat} {c d e:Nat × List V}:(y3 o c p d q e).get o=some c:=by simp [y3]
theorem y3_get2 {o p q:Nat} {c d e:Nat × List V} (h:p≠o):(y3 o c p d q e).get p=some d:=by simp [y3,h]
theorem y3_get3 {o p q:Nat} {c d e:Nat × List V} (h:q≠o) (h2:q≠p):(y3 o c p d q e).get q=some e:=by simp [y3,h,h2]
section
variable {S H:Store} {hs:List Nat} {ob:Nat} {bs:List Ss.Block} {T:Store} {rs:List (List V)} {ids:List Nat}
theorem BInv.ext (h:BInv S H hs ob bs T rs ids) (hw:T.Wf) {T':Store} (hn:T.nx≤T'.nx) (hk : ∀ o,o<T.nx→T'.get o=T.get o):BInv S H hs ob bs T' rs ids:=by
 have hlt:=h.all_lt hw
 obtain ⟨old,hd,al,cb,own,nd,lt⟩:=h
 exact ⟨⟨Nat.le_trans old.1 hn,fun o ho=>(hk o (Nat.lt_of_lt_of_le ho old.1)).trans (old.2 o ho)⟩,fun o ho=>(hk o (hlt o (by simp [ho]))).trans (hd o ho),al,(hk ob (hlt ob (by simp))).trans cb,own.mono fun o ho=>hk o (hlt o (by simp [ho])),nd,lt⟩
theorem BInv.st (h:BInv S H hs ob bs T rs ids) (hw:T.Wf) (l:List (Option (Nat × List V))):BInv S H hs ob bs (St T [] l) rs ids :=
 h.ext hw (by rw [qo,lid]; omega) fun o ho=>by rw [jy ho]; rfl
theorem BInv.ghost (h:BInv S H hs ob bs T rs ids) {fi fo ts:List Int} {ot:Nat} (hot:ot∈hs) (ht:T.get ot=some (1,ts.map vint)) (post:List V) :
  ∃ S',GhostArgs (.agg [vl vint fi,vl vint fo, .slice ot 0 ts.length, .slice ob 0 bs.length]::post) T (qW ⟨⟨fi,fo⟩,ts,bs⟩::post) S':=by
 have hnd:(ot::ob::ids).Nodup:=List.Sublist.nodup ((List.singleton_sublist.2 hot).append (List.Sublist.refl (ob::ids))) h.nd
 exact ⟨_,GhostArgs.one [] post (fn_ghostD (fi:=fi) (fo:=fo) h.own.owl h.cb rfl ht rfl hnd)⟩
end
end Go.Vw

namespace Go.Vw
open Go.Proofs Go.RowKit
theorem insInfo:(Tryz.prog.info? 65).map (fun i=>(i.zero,i.size,i.bytes))=some (some (.agg #[.int .i64 0, .int .u64 0, .slice none 0 0, .slice none 0 0]),4,64):=by kernel_rfl
set_option maxHeartbeats 1600000 in
set_option maxRecDepth 1000000 in
theorem InsDel_calls (b off n cap i:Nat) (cells:List Value) (w:World) (hl:cells.length=n*4) (hi:i<n) (hcap:n≤cap) (hm:cap≤9223372036854775807)
  (hc : ∀ t,t<cells.length→w.cell? ⟨b,off+t,none⟩=cells[t]?) (hf : ∀ t,t<cells.length→w.frozen? ⟨b,off+t,none⟩=false) (h1 : ∀ u∈cells,u.oneCell'=true)
  (W1:World) (hW1:W1=w.drew.setCells b (off+i*4) (cells.drop ((i+1)*4))) (W2:World)
  (hcl : ∀ ty,(Builtin.clear_ #[57] ty #[.slice (some ⟨b,off+(i+(n-(i+1)))*4,none⟩) (n-(i+(n-(i+1)))) (cap-(i+(n-(i+1))))]).run Tryz.prog W1 = .ok (.tuple #[]) W2) :
  Calls Tryz.prog 33 #[.slice (some ⟨b,off,none⟩) n cap, .int .i64 i, .int .i64 ((i:Int)+1)] w fun e w'=>e = .returned (.slice (some ⟨b,off,none⟩) (i+(n-(i+1))) cap)∧w'=W2:=by
 obtain ⟨i0,hi0,hz0,hz1,hz2⟩:=info_parts insInfo
 obtain ⟨news,hnews⟩ : ∃ news,news=cells.drop ((i+1)*4):=⟨_,rfl⟩
 have hlen:news.length=(n-(i+1))*4:=by rw [hnews,List.length_drop,hl]; omega
 have hget : ∀ t,t<(n-(i+1))*4→news[t]? = cells[(i+1)*4+t]? := fun t ht=>by rw [hnews,List.getElem?_drop]
 obtain ⟨A,hA,hsrc⟩ : ∃ A:Addr,(if cap=i+1 then some (⟨b,off,none⟩:Addr) else some ⟨b,off+(i+1)*4,none⟩)=some A∧Hid (∀ t u,news[t]? = some u→w.drew.cell? (A.add t)=some u):=by
  by_cases h:cap=i+1
  ·refine ⟨⟨b,off,none⟩,by simp [h],fun t u hu => ?_⟩
   have h0:news.length=0:=by rw [hlen]; omega
   rw [List.length_eq_zero_iff.1 h0] at hu
   simp at hu
  ·refine ⟨⟨b,off+(i+1)*4,none⟩,by simp [h],fun t u hu => ?_⟩
   have ht:t<(n-(i+1))*4:=by
    have:=(List.getElem?_eq_some_iff.1 hu).1
    rwa [hlen] at this
   rw [hget t ht] at hu
   rw [Addr.add_lit,show off+(i+1)*4+t=off+((i+1)*4+t) by omega]
   exact (hc ((i+1)*4+t) (by omega)).trans hu
 have s1:Hid (news.length=(n-(i+1))*4):=hlen
 have s2:Hid (∀ u∈news,u.oneCell'=true):=by
  intro u hu
  rw [hnews] at hu
  exact h1 u (List.mem_of_mem_drop hu)
 have s3:Hid (∀ t,t<news.length→(w.drew.cell? ⟨b,off+i*4+t,none⟩).isSome=true∧w.drew.frozen? ⟨b,off+i*4+t,none⟩=false):=by
  intro t ht
  rw [hlen] at ht
  rw [Nat.add_assoc]
  have hlt:i*4+t<cells.length:=by omega
  exact ⟨by show (w.cell? _).isSome=true; rw [hc _ hlt,List.getElem?_eq_getElem hlt]; rfl,hf _ hlt⟩
 have hW:Hid (W1=w.drew.setCells b (off+i*4) news):=hW1.trans (by rw [hnews])
 have hic:i≤cap:=by omega
 have hp0:(0:Int)≤(i:Int)+1:=by omega
 have hp1:(i:Int)+1≤(n:Int):=by omega
 have hp2:((i:Int)+1).toNat=i+1:=by omega
 have hp3:(i:Int)≤(i:Int)+1:=by omega
 have hp4 : ¬ (i:Int)=(i:Int)+1:=by omega
 have hp5:(i:Int)+1≤(cap:Int):=by omega
 clear hc hf hget hnews hlen hW1
 go_enter Tryz.func33,Tryz.ntmps33
 go_wp2_with fail
 go_region_law (refine step_append_room rfl (.tmp 22) (.tmp 25) 57 rfl 65 i0 4 Tryz.underlying57 hi0 hz1 b off i cap (by simp [Act.eval,Act.put]) A (n-(i+1)) (cap-(i+1)) news (by simp [Act.eval,Act.put]) s1.out hsrc.out s2.out (by omega) s3.out ?_; rw [←hW.out])
 go_wp2
 go_ret
 exact ⟨rfl,rfl⟩
end Go.Vw

namespace Go.Vw
open Go.Proofs Go.RowKit
theorem zL {m:Nat} : ∀ {rows:List (List V)},(∀ r∈rows,r.length=m)→rows.flatten.length=rows.length*m
 | [],_=>by simp
 | r::rows,h=>by rw [List.flatten_cons,List.length_append,h r (by simp),zL fun x hx=>h x (by simp [hx]),List.length_cons,Nat.add_mul,Nat.one_mul,Nat.add_comm]
theorem Yg {m:Nat} : ∀ {rows:List (List V)} (k:Nat),(∀ r∈rows,r.length=m)→rows.flatten.take (k*m)=(rows.take k).flatten
 | [],_,_=>by simp
 | r::rows,0,h=>by simp
 | r::rows,k+1,h=>by
  have hr:=h r (by simp)
  rw [List.flatten_cons,List.take_append,hr,List.take_of_length_le (by rw [hr,Nat.add_mul]; omega),show (k+1)*m-m=k*m by rw [Nat.add_mul]; omega,Yg k fun x hx=>h x (by simp [hx]),List.take_succ_cons,List.flatten_cons]
theorem lflat_drop {m:Nat} {rows:List (List V)} (k:Nat) (h : ∀ r∈rows,r.length=m):rows.flatten.drop (k*m)=(rows.drop k).flatten:=by
 have h1:=List.take_append_drop (k*m) rows.flatten
 rw [Yg k h] at h1
 have h2:rows.flatten=(rows.take k).flatten++(rows.drop k).flatten:=by rw [←List.flatten_append,List.take_append_drop]
 exact List.append_cancel_left (h1.trans h2)
theorem lflat_splice {rows:List (List V)} (h : ∀ r∈rows,r.length=4) {i:Nat} (hi:i<rows.length) {z:List V} (hz:z.length=4) :
  qj (qj rows.flatten (i*4) (rows.flatten.drop ((i+1)*4))) ((rows.length-1)*4) z=(rows.eraseIdx i).flatten++z:=by
 have e0:(rows.eraseIdx i).flatten=(rows.take i).flatten++(rows.drop (i+1)).flatten:=by rw [List.eraseIdx_eq_take_drop_succ,List.flatten_append]
 have l1:((rows.take i).flatten).length=i*4:=by rw [zL fun r hr=>h r (List.mem_of_mem_take hr),List.length_take,Nat.min_eq_left (by omega)]
 have l2:((rows.drop (i+1)).flatten).length=(rows.length-(i+1))*4:=by rw [zL fun r hr=>h r (List.mem_of_mem_drop hr),List.length_drop]
 have l3:((rows.take i).flatten++(rows.drop (i+1)).flatten).length=(rows.length-1)*4:=by rw [List.length_append,l1,l2]; omega
 rw [e0]
 unfold qj
 rw [Yg i h,lflat_drop (i+1) h,List.take_append,List.take_of_length_le (by rw [l3]; omega),l3,Nat.sub_self,List.take_zero,List.append_nil]
 have l4:((List.take i rows).flatten++(List.drop (i+1) rows).flatten++List.drop (i*4+(List.drop (i+1) rows).flatten.length) rows.flatten).length=rows.length*4:=by
  rw [List.length_append,l3,List.length_drop,zL h,l2]; omega
 rw [List.drop_eq_nil_of_le (i:=(rows.length-1)*4+z.length) (by rw [l4,hz]; omega),List.append_nil]
def zIns:List V:=[.int .i64 0, .int .u64 0, .nils, .nils]
theorem clear1 {S:Store} {m:Imm} {β:Objs} {w:World} (hS:Holds S m β w) {o b base s n:Nat} {c:Nat × List V} (ho:S.get o=some c) (hob:β o = .lies b base s n) (off cap:Nat) (hle:off+4≤c.2.length) :
  ∃ w',(∀ ty,(Builtin.clear_ #[57] ty #[.slice (some ⟨b,base+off,none⟩) 1 cap]).run Tryz.prog w = .ok (.tuple #[]) w')∧Holds (S.upd o (c.1,qj c.2 off zIns)) m β w'∧Ext m β w m β w':=by
 obtain ⟨i0,hi0,hz0,hz1,hz2⟩:=info_parts insInfo
 obtain ⟨w',h1,h2,h3⟩:=hS.store (P:=Tryz.prog) ho hob off zIns [.int .i64 0, .int .u64 0, .slice none 0 0, .slice none 0 0]
  (.cons (.imm (.int _ _)) (.cons (.imm (.int _ _)) (.cons (.imm (.nils _)) (.cons (.imm (.nils _)) (.nil _ _))))) (by simp [Value.oneCell']) (by simpa [zIns] using hle)
 refine ⟨w',fun ty => ?_,h2,h3⟩
 have hzv:(zeroValue 65).run Tryz.prog w = .ok (.agg #[.int .i64 0, .int .u64 0, .slice none 0 0, .slice none 0 0]) w:=by simp [zeroValue,typeInfo,hi0,hz0]
 have hzc:(Builtin.zeroCells (Value.agg #[.int .i64 0, .int .u64 0, .slice none 0 0, .slice none 0 0]).cells 1).toList=[.int .i64 0, .int .u64 0, .slice none 0 0, .slice none 0 0]:=by simp [Builtin.zeroCells,Value.cells,List.range_succ]
 simp [Builtin.clear_,run_underlying Tryz.underlying57,Result.andThen,hzv,hzc,h1]
theorem Holds.trim {S:Store} {m:Imm} {β:Objs} {w:World} (hS:Holds S m β w) {o s:Nat} {a z:List V} (hc:S.get o=some (s,a++z)) {b base s2 n2:Nat} (hob:β o = .lies b base s2 n2):Holds (S.upd o (s,a)) m β w:=by
 refine ⟨hS.imm,hS.apart,hS.inj,hS.fresh,fun o' ho' => ?_,fun o' ho' hn => ?_,fun o' c' hc' => ?_⟩
 ·have:=hS.lt hc
  rw [qi]
  have:S.nx≤o':=ho'
  rw [if_neg (by omega)]; exact hS.gone o' ho'
 ·rw [qi] at hn
  by_cases e:o'=o
  ·rw [if_pos e] at hn; cases hn
  ·rw [if_neg e] at hn; exact hS.dead o' ho' hn
 ·rw [qi] at hc'
  by_cases e:o'=o
  ·rw [if_pos e] at hc'
   cases hc'
   subst e
   have hl:=hS.live o' _ hc
   rw [hob] at hl ⊢
   obtain ⟨h1,arr,TT,h2,h3,h4,h5⟩:=hl
   refine ⟨h1,arr,TT,h2,h3, ?_,fun i x hx => ?_⟩
   ·simp only [List.length_append] at h4; simp only; omega
   ·have hi:=(List.getElem?_eq_some_iff.1 hx).1
    exact h5 i x (by simp only; rw [List.getElem?_append_left hi]; exact hx)
  ·rw [if_neg e] at hc'
   exact hS.live o' c' hc'
theorem InsDel_v {S:Store} {oc i:Nat} {rows:List (List V)} (hg:S.get oc=some (4,rows.flatten)) (h4 : ∀ r∈rows,r.length=4) (hi:i<rows.length) :
  VCalls Tryz.prog 33 [.slice oc 0 rows.length,vint i,vint (i+1)] S fun r T=>r = .slice oc 0 (rows.length-1)∧T=S.upd oc (4,(rows.eraseIdx i).flatten):=by
 intro m β w vs hS hr
 obtain ⟨v0,v1,v2,rfl⟩ : ∃ v0 v1 v2,vs=[v0,v1,v2]:=by
  have:=hr.1
  match vs,this with
  | [a,b,c],_=>exact ⟨a,b,c,rfl⟩
 have r0:=hr.2 0 _ _ rfl rfl
 have r1:=hr.2 1 _ _ rfl rfl
 have r2:=hr.2 2 _ _ rfl rfl
 have e1:v1 = .int .i64 i:=by cases r1 with | imm h=>cases h; rfl
 have e2:v2 = .int .i64 ((i:Int)+1):=by cases r2 with | imm h=>cases h; rfl
 subst e1 e2
 obtain ⟨a,cap,rfl,hlc,hcm,hcase⟩:=r0.inv_slice (hS.alive hg)
 rcases hcase with ⟨_,h0,_⟩ | ⟨b,base,s,n,hob,hcase⟩
 ·omega
 rcases hcase with h0 | ⟨rfl,hroom⟩
 ·omega
 have hfl:=zL h4
 obtain ⟨hs4,arr,TT,ha1,ha2,ha3,ha4⟩:=hS.cells_at hg hob
 simp only at hs4 ha3 ha4
 subst hs4
 obtain ⟨cells,hc1,hc2,hc3,hc4⟩:=Je ha4 0 (rows.length*4) (by simp [hfl])
 rw [List.drop_zero,List.take_of_length_le (by rw [hfl]; exact Nat.le_refl _)] at hc3
 have hcell : ∀ t,t<cells.length→w.cell? ⟨b,base+0+t,none⟩=cells[t]? := fun t ht=>by
  have:=hc2 t cells[t] (List.getElem?_eq_getElem ht)
  simp [World.cell?,ha1,this,List.getElem?_eq_getElem ht]
  simpa using this
 have hfz : ∀ t,t<cells.length→w.frozen? ⟨b,base+0+t,none⟩=false:=fun t ht=>by simp [World.frozen?,ha1]
 have hdl:(rows.flatten.drop ((i+1)*4)).length=(rows.length-(i+1))*4:=by rw [List.length_drop,hfl]; omega
 have hrd:RepL m β (rows.flatten.drop ((i+1)*4)) (cells.drop ((i+1)*4)):=by
  refine ⟨by rw [List.length_drop,List.length_drop,hc3.1],fun k x v hx hv => ?_⟩
  rw [List.getElem?_drop] at hx hv
  exact hc3.2 _ x v hx hv
 obtain ⟨w1,hst,hS1,hE1⟩:=(hS.drew).store (P:=Tryz.prog) hg hob (i*4) (rows.flatten.drop ((i+1)*4)) (cells.drop ((i+1)*4)) hrd (fun v hv=>hc4 v (List.mem_of_mem_drop hv)) (by simp only; rw [hdl,hfl]; omega)
 have hw1:w1=w.drew.setCells b (base+0+i*4) (cells.drop ((i+1)*4)):=by
  have k:=run_storeCells_cells (P:=Tryz.prog) b (base+i*4) (cells.drop ((i+1)*4)) 0 w.drew
   (fun j hj=>by
    rw [List.length_drop] at hj
    have:=hcell (i*4+j) (by omega)
    show (w.cell? _).isSome=true
    rw [show base+i*4+0+j=base+0+(i*4+j) by omega,this,List.getElem?_eq_getElem (by omega)]; rfl)
   (fun j hj=>by
    rw [List.length_drop] at hj
    have:=hfz (i*4+j) (by omega)
    show w.frozen? _=false
    rw [show base+i*4+0+j=base+0+(i*4+j) by omega]; exact this)
   (fun v hv=>hc4 v (List.mem_of_mem_drop hv))
  rw [hst] at k
  have:=congrArg (fun r=>match r with | .ok _ w=>some w | _=>none) k
  simpa using this
 have hl1:(qj rows.flatten (i*4) (rows.flatten.drop ((i+1)*4))).length=rows.length*4:=by rw [zT _ _ _ (by rw [hdl,hfl]; omega),hfl]
 obtain ⟨w2,hcl,hS2,hE2⟩:=clear1 hS1 (o:=oc) (c:=(4,qj rows.flatten (i*4) (rows.flatten.drop ((i+1)*4)))) (by simp [Store.upd]) hob ((rows.length-1)*4) (cap-(rows.length-1)) (by simp only; rw [hl1]; omega)
 have hn1:i+(rows.length-(i+1))=rows.length-1:=by omega
 have hd:=InsDel_calls b (base+0) rows.length cap i cells w (by rw [hc1]) hi hlc hcm hcell hfz hc4 w1 hw1 w2 (by
  intro ty
  rw [hn1,show rows.length-(rows.length-1)=1 by omega]
  exact hcl ty)
 refine hd.mono ?_
 rintro e w' ⟨rfl,rfl⟩
 refine ⟨_, .slice oc 0 (rows.length-1),_,m,β,rfl,⟨rfl,rfl⟩, ?_, ?_, ?_⟩
 ·rw [hn1]
  exact .slice oc 0 _ b base 4 n cap _ hob (by omega) hcm (.inr ⟨rfl,hroom⟩)
 ·have e3:(S.upd oc (4,qj rows.flatten (i*4) (rows.flatten.drop ((i+1)*4)))).upd oc (4,qj (qj rows.flatten (i*4) (rows.flatten.drop ((i+1)*4))) ((rows.length-1)*4) zIns)=S.upd oc (4,(rows.eraseIdx i).flatten++zIns):=by
   rw [lflat_splice h4 hi rfl]
   refine Store.ext' (funext fun o2 => ?_) rfl
   simp only [Store.upd]
   split<;>rfl
  rw [e3] at hS2
  have h:=hS2.trim (o:=oc) (s:=4) (a:=(rows.eraseIdx i).flatten) (z:=zIns) (by simp [Store.upd]) hob
  have e5:(S.upd oc (4,(rows.eraseIdx i).flatten++zIns)).upd oc (4,(rows.eraseIdx i).flatten)=S.upd oc (4,(rows.eraseIdx i).flatten):=by
   refine Store.ext' (funext fun o2 => ?_) rfl
   simp only [Store.upd]
   split<;>rfl
  rw [←e5]
  exact h
 ·exact (Ext.drew m β w).trans (hE1.trans hE2)
end Go.Vw
