import Derived.Test.YtkfllaokjaldnaaGreatC7
import Derived.Test.YtkfllaokjaldnaaGreatC18
import Derived.Test.YtkfllaokjaldnaaGreatC16
import Derived.Test.YtkfllaokjaldnaaGreatC17
import Derived.Test.YtkfllaokjaldnaaGreatC12
/- Part of the proof. -/
set_option linter.unusedVariables false
set_option linter.unusedSimpArgs false
set_option maxRecDepth 10000
set_option maxHeartbeats 16000000
namespace Go.Vw
open Go.Proofs Go.RowKit
attribute [-simp] List.map_set
theorem RNearest_v (g:List (List Nat)) (hg:G.Ok g) (hr:VPure Tryz.prog 45 [vl (vl vnat) g] (.bool true)):VPure Tryz.prog 47 [vl (vl vnat) g] (.tuple [vl vint (G.rNear g),vint 0]):=by
 intro S;refine QB (c:=jd Tryz.f47) Tryz.func47 Tryz.ntmps47 fun hwf=>?_
 have hm256:=hg.max
 repeat first|refine QG ?_|refine QY ?_
 refine QT ?_;refine QP ?_;refine jm rfl (hr) ?_;refine QW ?_
 repeat first|refine QG ?_|refine QY ?_
 refine QT ?_;refine QP ?_;refine jm rfl (Table_v g hg) ?_;refine QW ?_;generalize ht:G.table g=t;have htl:t.length=g.length:=by rw [←ht]; simp [G.table]
 have hrl : ∀ a,a<g.length → ∃ r,t[a]? = some r∧r.length=g.length:=by
  intro a ha;refine ⟨G.tableRow g a,by rw [←ht]; simp [G.table,ha],G.tableRow_length g a⟩
 obtain ⟨f,hf⟩ : ∃ f:Nat→Int,f=fun b=>(G.bestTo t g.length b g.length).1:=⟨_,rfl⟩
 have hfin:G.rNear g=upTo f g.length:=by rw [hf]; simp only [G.rNear,ht,upTo]
 rw [hfin];refine QT ?_;refine QY ?_;refine qW 5 1 rfl (by conv=>lhs; simp [Fr.set]) ?_
 repeat first|refine QG ?_|refine QY ?_
 refine QT ?_;refine jc [0,4,5,6] rfl (fun c σ S' => ∃ (b:Nat),b≤g.length∧c=g.length-b∧σ=[(0,vl (vl vnat) g),(4,vl (vl V.bool) t),(5, .slice (lid S.nx 0) 0 b),(6,vnat b)]∧S'=St S [] [some (1,(upTo f b).map vint)]) g.length ?_ ?_
 ·exact ⟨0,by omega,rfl,by simp [Fr.only,Fr.look,vnat],by simp [upTo_zero]⟩
 ·rintro c σ T ⟨b,hb,rfl,rfl,rfl⟩
  by_cases hbt:b<g.length
  ·have hwb:IntKind.i64.wrap ((b:Int)+1)=(b:Int)+1:=wrap_i64 (by omega) (by omega)
   repeat first|refine QG ?_|refine QY ?_ (r:=by conv=>lhs;simp[QV,hbt])
   refine QT ?_;refine jc [0,4,5,6,7,8,9] rfl (fun c σ S' => ∃ (a:Nat),a≤g.length∧c=g.length-a∧σ=[(0,vl (vl vnat) g),(4,vl (vl V.bool) t),(5, .slice (lid S.nx 0) 0 b),(6,vnat b),(7,vint (G.bestTo t g.length b a).1),(8,vnat (G.bestTo t g.length b a).2),(9,vnat a)]∧S'=St S [] [some (1,(upTo f b).map vint)]) g.length ?_ ?_
   ·exact ⟨0,by omega,rfl,by simp [Fr.only,Fr.look,vnat,vint,G.bestTo],by simp⟩
   ·rintro c σ T ⟨a,ha,rfl,rfl,rfl⟩
    by_cases hat:a<g.length
    ·have hwa:IntKind.i64.wrap ((a:Int)+1)=(a:Int)+1:=wrap_i64 (by omega) (by omega);have hst : ∀ x,x=G.bestTo t g.length b (a+1)→x=if a≠b∧G.tabAt t a b=true∧(G.bestTo t g.length b a).2<G.cntTo t a g.length then ((a:Int),G.cntTo t a g.length) else G.bestTo t g.length b a:=fun x h=>h
     have hst:=hst _ rfl;obtain ⟨r,hr,hrl'⟩:=hrl a hat;have hta:a<t.length:=by omega
     have hra:t[a]=r:=by simpa [hta] using hr
     by_cases hab:a=b
     ·subst hab;rw [if_neg (by simp)] at hst
      repeat first|refine QG ?_|refine QY ?_ (r:=by conv=>lhs;simp[QV,hat])
      show jp _ _ _ _ _ _ _;exact again ⟨Nat.sub_lt_sub_left hat (Nat.lt_succ_self a),a+1,hat,rfl,by rw [hst]; simp [Fr.only,Fr.look,vnat,vint]; exact hwa,rfl⟩
     ·have hab' : ¬ (a:Int)=(b:Int):=by omega
      by_cases htab:G.tabAt t a b=true
      ·have htb:r[b]'(by omega)=true:=by
        have:b<r.length:=by omega
        simpa [G.tabAt,hta,hra,this] using htab
       have hbr:b<r.length:=by omega
       have hab' : ¬ (a:Int)=(b:Int):=by omega
       repeat first|refine QG ?_|refine QY ?_ (r:=by conv=>lhs;simp[QV,hat,hab,hab',hta,hra,hbr,htb])
       refine QT ?_;refine jc [0,4,5,6,7,8,9,10,11] rfl (fun c σ S' => ∃ (k:Nat),k≤g.length∧c=g.length-k∧σ=[(0,vl (vl vnat) g),(4,vl (vl V.bool) t),(5, .slice (lid S.nx 0) 0 b),(6,vnat b),(7,vint (G.bestTo t g.length b a).1),(8,vnat (G.bestTo t g.length b a).2),(9,vnat a),(10,vnat (G.cntTo t a k)),(11,vnat k)]∧S'=St S [] [some (1,(upTo f b).map vint)]) g.length ?_ ?_
       ·exact ⟨0,by omega,rfl,by simp [Fr.only,Fr.look,vnat,vint,G.cntTo],rfl⟩
       ·rintro c σ T ⟨k,hk,rfl,rfl,rfl⟩;have hcle:=G.cntTo_le t a k
        by_cases hkt:k<g.length
        ·have hwk:IntKind.i64.wrap ((k:Int)+1)=(k:Int)+1:=wrap_i64 (by omega) (by omega);have hwc:IntKind.i64.wrap ((G.cntTo t a k:Int)+1)=(G.cntTo t a k:Int)+1:=wrap_i64 (by omega) (by omega);obtain ⟨q,hq,hql⟩:=hrl k hkt;have htk:k<t.length:=by omega
         have hqk:t[k]=q:=by simpa [htk] using hq
         have haq:a<q.length:=by omega
         obtain ⟨x,hx⟩ : ∃ x,q[a]=x:=⟨_,rfl⟩
         have hxt:G.tabAt t k a=x:=by simp [G.tabAt,htk,hqk,haq,hx]
         have hcs:G.cntTo t a (k+1)=if x=true then G.cntTo t a k+1 else G.cntTo t a k:=by simp only [G.cntTo,hxt]
         cases x with
         | true =>
          repeat first|refine QG ?_|refine QY ?_ (r:=by conv=>lhs;simp[QV,hkt,htk,hqk,haq,hx])
          show jp _ _ _ _ _ _ _;exact again ⟨Nat.sub_lt_sub_left hkt (Nat.lt_succ_self k),k+1,hkt,rfl,by rw [hcs]; simp [Fr.only,Fr.look,vnat,vint,hwk,hwc],rfl⟩
         | false =>
          repeat first|refine QG ?_|refine QY ?_ (r:=by conv=>lhs;simp[QV,hkt,htk,hqk,haq,hx])
          show jp _ _ _ _ _ _ _;exact again ⟨Nat.sub_lt_sub_left hkt (Nat.lt_succ_self k),k+1,hkt,rfl,by rw [hcs]; simp [Fr.only,Fr.look,vnat,vint,hwk,hwc],rfl⟩
        ·have hkg:k=g.length:=by omega
         subst hkg
         by_cases hgt:(G.bestTo t g.length b a).2<G.cntTo t a g.length
         ·rw [if_pos ⟨hab,htab,hgt⟩] at hst
          repeat first|refine QG ?_|refine QY ?_ (r:=by conv=>lhs;simp[QV,hkt,hgt])
          show jp _ _ _ _ _ _ _;exact again ⟨Nat.sub_lt_sub_left hat (Nat.lt_succ_self a),a+1,hat,rfl,by rw [hst]; simp [Fr.only,Fr.look,vnat,vint,hwa],rfl⟩
         ·rw [if_neg (fun h=>hgt h.2.2)] at hst
          repeat first|refine QG ?_|refine QY ?_ (r:=by conv=>lhs;simp[QV,hkt,hgt])
          show jp _ _ _ _ _ _ _;exact again ⟨Nat.sub_lt_sub_left hat (Nat.lt_succ_self a),a+1,hat,rfl,by rw [hst]; simp [Fr.only,Fr.look,vnat,vint,hwa],rfl⟩
      ·have htb:r[b]'(by omega)=false:=by
        have:b<r.length:=by omega
        simpa [G.tabAt,hta,hra,this] using htab
       have hbr:b<r.length:=by omega
       rw [if_neg (fun h=>htab h.2.1)] at hst
       repeat first|refine QG ?_|refine QY ?_ (r:=by conv=>lhs;simp[QV,hat,hab,hab',hta,hra,hbr,htb])
       show jp _ _ _ _ _ _ _;exact again ⟨Nat.sub_lt_sub_left hat (Nat.lt_succ_self a),a+1,hat,rfl,by rw [hst]; simp [Fr.only,Fr.look,vnat,vint,hwa],rfl⟩
    ·have hag:a=g.length:=by omega
     subst hag;have hfb:f b=(G.bestTo t g.length b g.length).1:=by rw [hf]
     have hc8:(b+1)*8≤140737488355328:=by omega
     have hc1:b+1≤140737488355328:=by omega
     repeat first|refine QG ?_|refine QY ?_ (r:=by conv=>lhs;simp[QV,hat,hc8,hc1])
     refine QA [2] (h:=⟨?_,b+1,hbt,rfl,by simp [vnat,hwb],by rw [upTo_succ,hfb]; simp [vint]⟩);omega
  ·repeat first|refine QG ?_|refine QY ?_ (r:=by conv=>lhs;simp[QV,hbt])
   have hag:b=g.length:=by omega
   subst hag;exact jh hwf ((Ghost.tuple [] [vint 0] (frz1 (by simp) (by rfl) (jF vint (fun _=>rfl) _) (by simp [upTo_len]))).toB _) rfl
end Go.Vw
namespace Ss
def rcheckCode (e:Env) (f:Fn) (ds:List Def) (near:List Int) (i:Int):Nat→List Ins→Bool
 | _,[]=>true
 | k,x::r=>rinsOk e f ds near i k x&&rcheckCode e f ds near i (k+1) r
def rcheckBlock (e:Env) (f:Fn) (ds:List Def) (near:List Int) (i:Int) (b:Block):Bool :=
 rcheckCode e f ds near i 0 b.code&&(rtermOk f ds near i b.code.length b.term&&b.term.to.all (redgeOk f ds near i b.code.length))
def rcheckBlocks (e:Env) (f:Fn) (ds:List Def) (near:List Int):Nat→List Block→Bool
 | _,[]=>true
 | i,b::bs=>rcheckBlock e f ds near i b&&rcheckBlocks e f ds near (i+1) bs
def firstTick:List Ins→Bool
 | []=>false
 | x::_=>decide (x.op=258)
noncomputable def rshape (f:Fn):Bool:=decide (typesOf f.types (f.blocks.getD 0 default).params=f.sig.inn)&&(firstTick (f.blocks.getD 0 default).code && !circ (msk f.blocks (Go.Vw.G.nats (succs f.blocks))))
noncomputable def rcheck (e:Env) (f:Fn):Bool:=checkHead e f&&decide (1≤f.blocks.length)&&match defsOf f with
 | none=>false
 | some ds=>Go.Vw.G.right (succs f.blocks)&&((Go.Vw.G.without (Go.Vw.G.nats (succs f.blocks)) none).all id&&(rshape f&&rcheckBlocks e f ds (Go.Vw.G.nearI (succs f.blocks)) 0 f.blocks))
end Ss
namespace Go.Vw
open Go.Proofs Go.RowKit
theorem RNearI_v (g:List (List Int)) (hl:g.length<2^63) (h : ∀ l∈g,l.length<2^63) (hr:G.right g=true):VPure Tryz.prog 47 [vl (vl vint) g] (.tuple [vl vint (G.nearI g),vint 0]):=by
 have h1:VPure Tryz.prog 45 [vl (vl vnat) (G.nats g)] (.bool true):=by
  have:=ZF g hl h;rw [hr,G.right_enc hr] at this;exact this
 have:=RNearest_v _ (G.right_ok hr) h1;rw [←G.right_enc hr] at this;simp only [G.nearI,hr,if_true];exact this
theorem WithoutI_v (g:List (List Int)) (hr:G.right g=true):VPure Tryz.prog 46 [vl (vl vint) g,vint (-1)] (vl V.bool (G.without (G.nats g) none)):=by
 have:=jaT _ (G.right_ok hr) none (fun _ h=>by cases h);rw [←G.right_enc hr] at this;exact this
end Go.Vw
namespace Ss
theorem put_nn {block pos:Int} (h0:0≤block) : ∀ {l:List Int} {ds d:List Def},put block pos ds l=some d→(∀ x∈ds,x.made=true→0≤x.block) → ∀ x∈d,x.made=true→0≤x.block
 | [],ds,d,h,hn=>by simp only [put,Option.some.injEq] at h; rw [←h]; exact hn
 | v::l,ds,d,h,hn=>by
  simp only [put] at h;split at h
  ·cases h
  ·exact put_nn h0 h fun x hx hm=>(List.mem_or_eq_of_mem_set hx).elim (fun h=>hn x h hm) (fun h=>by rw [h]; exact h0)
theorem jbw {i:Int} (h0:0≤i) : ∀ {l:List Ins} {k:Nat} {ds d:List Def},putCode i k ds l=some d→(∀ x∈ds,x.made=true→0≤x.block) → ∀ x∈d,x.made=true→0≤x.block
 | [],k,ds,d,h,hn=>by simp only [putCode,Option.some.injEq] at h; rw [←h]; exact hn
 | x::r,k,ds,d,h,hn=>by
  simp only [putCode,Option.bind_eq_some_iff] at h;obtain ⟨d1,h1,h2⟩:=h;exact jbw h0 h2 (put_nn h0 h1 hn)
theorem YX : ∀ {bs:List Block} {i:Nat} {ds d:List Def},putBlocks i ds bs=some d→(∀ x∈ds,x.made=true→0≤x.block) → ∀ x∈d,x.made=true→0≤x.block
 | [],i,ds,d,h,hn=>by simp only [putBlocks,Option.some.injEq] at h; rw [←h]; exact hn
 | b::bs,i,ds,d,h,hn=>by
  simp only [putBlocks,Option.bind_eq_some_iff] at h;obtain ⟨d2,⟨d1,h1,h2⟩,h3⟩:=h;exact YX h3 (jbw (by omega) h2 (put_nn (by omega) h1 hn))
theorem defs_nn {f:Fn} {ds:List Def} (h:defsOf f=some ds) : ∀ x∈ds,x.made=true→0≤x.block :=
 YX h fun x hx hm=>by
  obtain ⟨_,rfl⟩:=List.mem_replicate.1 hx
  cases hm
end Ss
namespace Go.Vw
end Go.Vw
namespace Ss
theorem eqF_nil {α:Type} (p:α→α→Bool) (l:List α):Go.Vw.eqF p l []=decide (l.length=0):=by
 cases l<;>simp [Go.Vw.eqF]
theorem ZC (ts:List Int) (ds:List Def) (near:List Int) (block pos:Int) (l:List Int):asks ts ds near block pos l []=decide (l.length=0):=eqF_nil _ l
def chkF (n:Int) (t:List Int) (A:List Int→Bool) (r:FormR):Bool:=r.ok&&decide (n≤r.most)&&decide (t=r.outs)&&A r.inn
def chkR (t:List Int) (A:List Int→Bool) (r:RForm):Bool:=r.ok&&decide (t=r.outs)&&A r.inn
theorem form_agrees (e:Env) (op n out:Int) (h0:0≤n) (h1:n<18446744073709551616) (ho:out=127∨out=126∨out=0) (t:List Int) (ht:out=0→t=[]) (A:List Int→Bool) :
  chkF n t A (form e op n out)=chkR t A (rform e op n out):=by
 have hz:decide (n≤0)=decide (n=0):=by simp; omega
 have n27:numSig 27=([],0,false):=by decide
 have n16:numSig 16=([],0,false):=by decide
 have n35:numSig 35=([],0,false):=by decide
 have n36:numSig 36=([],0,false):=by decide
 have a63:accOf 63=none:=by decide
 have a64:accOf 64=none:=by decide
 have nn : ∀ m:Int,decide (m≤m)=true:=fun m=>by simp
 have lt32:decide (n≤4294967295)=decide (n<4294967296):=by simp; omega
 have le64:decide (n≤18446744073709551615)=true:=by simp; omega
 unfold form rform
 by_cases h256:op=256
 ·rw [if_pos h256,if_pos h256];rcases ho with rfl | rfl | rfl
  ·simp [chkF,chkR,lt32]
  ·simp [chkF,chkR,le64]
  ·rw [ht rfl]; simp [chkF,chkR]
 rw [if_neg h256,if_neg h256]
 by_cases h258:op=258
 ·rw [if_pos h258,if_pos h258]; simp [chkF,chkR,hz]
 rw [if_neg h258,if_neg h258]
 by_cases h27:op=27
 ·subst h27; rw [if_pos rfl,n27]; simp [chkF,chkR,hz]
 rw [if_neg h27]
 by_cases h16:op=16
 ·subst h16;rw [if_pos rfl,n16];simp only [rformEnv]
  by_cases h:n<e.sigs.length<;>simp [chkF,chkR,h]
 rw [if_neg h16]
 by_cases h35:op=35∨op=36
 ·rw [if_pos h35];have hn:numSig op=([],0,false):=by rcases h35 with rfl | rfl<;>assumption
  rw [hn];simp only [formGlob,rformEnv,if_neg h27,if_pos h35]
  by_cases h:n<e.globals.length
  ·by_cases h5:op=35<;>simp [chkF,chkR,h,h5]
  ·simp [chkF,chkR,h]
 rw [if_neg h35];simp only [formNum];generalize numSig op=sg;obtain ⟨l,ty,b⟩:=sg
 cases b with
 | true=>simp [chkF,chkR,hz]
 | false =>
  simp only [if_neg h27,rformEnv,if_neg h35,if_neg h16]
  cases e.mem with
  | false=>simp [chkF,chkR]
  | true =>
   simp only [if_true,formMem,rformMem]
   by_cases h257:op=257
   ·simp [chkF,chkR,h257]
   rw [if_neg h257,if_neg h257]
   by_cases h63:op=63
   ·subst h63; rw [if_pos rfl,a63]; simp [chkF,chkR,hz]
   rw [if_neg h63]
   by_cases h64:op=64
   ·subst h64; rw [if_pos rfl,a64]; simp [chkF,chkR,hz]
   rw [if_neg h64]
   cases accOf op with
   | none=>simp [chkF,chkR,h63,h64]
   | some a=>cases hst:a.store<;>simp [chkF,chkR,hst,lt32]
theorem ins_agrees {e:Env} {f:Fn} {ds:List Def} {near:List Int} {i k:Int} {x:Ins} (hx:x.Fits) (hk : ∀ t∈f.types,isKind t=true) (ho:InTs f.types.length x.outs):rinsOk e f ds near i k x=insOk e f ds near i k x:=by
 refine (form_agrees e x.op x.n (insOut f.types x) hx.2.1.1 hx.2.1.2 ?_ (typesOf f.types x.outs) ?_ (asks f.types ds near i k x.args)).symm
 ·unfold insOut
  cases hu:x.outs with
  | nil=>simp
  | cons v r =>
   obtain ⟨h0,h1⟩:=ho v (by rw [hu]; simp);have hlt:v.toNat<f.types.length:=by omega
   have:=hk _ (List.getElem_mem hlt);simp only [List.getD_eq_getElem?_getD,List.getElem?_eq_getElem hlt,Option.getD_some];simp only [isKind,Bool.or_eq_true,decide_eq_true_eq] at this;rcases this with h | h
   ·exact .inl h
   ·exact .inr (.inl h)
 ·intro h;unfold insOut at h
  cases hu:x.outs with
  | nil=>rfl
  | cons v r =>
   rw [hu] at h;obtain ⟨h0,h1⟩:=ho v (by rw [hu]; simp);have hlt:v.toNat<f.types.length:=by omega
   have:=hk _ (List.getElem_mem hlt);simp only [List.getD_eq_getElem?_getD,List.getElem?_eq_getElem hlt,Option.getD_some] at h;rw [h] at this;simp [isKind] at this
theorem edge_agrees {f:Fn} {ds:List Def} {near:List Int} {i pos:Int} {x:Edge} (h:0≤x.to):redgeOk f ds near i pos x=edgeOk f ds near i pos x:=by
 have:decide (1≤x.to) = !decide (x.to=0):=by
  by_cases h0:x.to=0
  ·simp [h0]
  ·simp [h0]; omega
 rw [redgeOk,edgeOk,this]
theorem jbN {α:Type} {p q:α→Bool} : ∀ {l:List α},(∀ x∈l,p x=q x)→l.all p=l.all q
 | [],_=>rfl
 | x::l,h=>by rw [List.all_cons,List.all_cons,h x (by simp),jbN fun y hy=>h y (by simp [hy])]
theorem term_agrees {f:Fn} {ds:List Def} {near:List Int} {i:Int} {b:Block} (h : ∀ x∈b.term.to,0≤x.to):(rtermOk f ds near i b.code.length b.term&&b.term.to.all (redgeOk f ds near i b.code.length))=termOk f ds near i b:=by
 rw [jbN (q:=edgeOk f ds near i b.code.length) fun x hx=>edge_agrees (h x hx)];obtain ⟨ps,code,⟨k,a,to,az⟩⟩:=b;simp only [termOk,rtermOk];have h0:decide (to.length=0)=(decide (0≤to.length)&&decide (to.length≤0)):=by
  rw [Bool.eq_iff_iff]; simp only [Bool.and_eq_true,decide_eq_true_eq]; omega
 have h1:decide (to.length=1)=(decide (1≤to.length)&&decide (to.length≤1)):=by
  rw [Bool.eq_iff_iff]; simp only [Bool.and_eq_true,decide_eq_true_eq]; omega
 have h2:decide (to.length=2)=(decide (2≤to.length)&&decide (to.length≤2)):=by
  rw [Bool.eq_iff_iff]; simp only [Bool.and_eq_true,decide_eq_true_eq]; omega
 rw [h0,h1,h2];have hT : ∀ le mo rs,termTail f ds near i code.length ⟨k,a,to,az⟩ le mo rs=((if (decide (k=2)||decide (k=3))=true then asks f.types ds near i code.length [a] [127] else decide (a=0))&&decide (le≤to.length)&&decide (to.length≤mo)&&asks f.types ds near i code.length az rs&&to.all (edgeOk f ds near i code.length)):=fun _ _ _=>rfl
 simp only [hT];clear hT h0 h1 h2;generalize to.all (edgeOk f ds near i code.length)=E;have aa : ∀ {a b c d e:Bool},(a&&(b&&(c&&d))&&e)=(a&&c&&d&&b&&e):=by decide
 have ab : ∀ {a b c d e:Bool},(a&&(b&&c&&d)&&e)=(a&&b&&c&&d&&e):=by decide
 by_cases k2:k=2
 ·have e:termHead f.sig.out k=some (2,2,[]):=by rw [k2]; rfl
  simp only [e];simp only [k2,if_true,ZC,decide_true,Bool.true_or];exact aa
 have d2:decide (k=2)=false:=decide_eq_false k2;rw [if_neg k2,d2,Bool.false_or]
 by_cases k3:k=3
 ·have e:termHead f.sig.out k=some (1,65,[]):=by rw [k3]; rfl
  simp only [e];simp only [k3,if_true,ZC,decide_true];exact aa
 have d3:decide (k=3)=false:=decide_eq_false k3;rw [if_neg k3,d3];simp only [Bool.false_eq_true,if_false]
 by_cases k4:k=4
 ·have e:termHead f.sig.out k=some (0,0,f.sig.out):=by rw [k4]; rfl
  simp only [e,if_pos k4];exact ab
 rw [if_neg k4]
 by_cases k1:k=1
 ·have e:termHead f.sig.out k=some (1,1,[]):=by rw [k1]; rfl
  simp only [e,if_pos k1,ZC];exact aa
 rw [if_neg k1]
 by_cases k5:k=5
 ·have e:termHead f.sig.out k=some (0,0,[]):=by rw [k5]; rfl
  simp only [e];simp only [k5,ZC,decide_true,Bool.true_and];exact aa
 simp [termHead,k1,k2,k3,k4,k5]
inductive Walk (G:List (List Nat)):Nat→Nat→Prop
 | one {a b:Nat} (h:b∈G.getD a []):Walk G a b
 | more {a b c:Nat} (h:Walk G a b) (k:c∈G.getD b []):Walk G a c
theorem Walk.cons {G:List (List Nat)} {a b c:Nat} (h:b∈G.getD a []) (w:Walk G b c):Walk G a c:=by
 induction w with
 | one k=>exact .more (.one h) k
 | more _ k ih=>exact .more ih k
theorem Walk.first {G:List (List Nat)} {a c:Nat} (w:Walk G a c) : ∃ b,b∈G.getD a []∧(b=c∨Walk G b c):=by
 induction w with
 | one h=>exact ⟨_,h, .inl rfl⟩
 | more _ k ih =>
  obtain ⟨b,h1,h2⟩:=ih;refine ⟨b,h1, .inr ?_⟩;rcases h2 with rfl | h2
  ·exact .one k
  ·exact .more h2 k
theorem Ends.no_ring {G:List (List Nat)} {i:Nat} (h:Ends G i) : ¬ Walk G i i:=by
 induction h with
 | mk i _ ih =>
  intro w;obtain ⟨b,h1,h2⟩:=w.first;refine ih b h1 ?_;rcases h2 with rfl | h2
  ·exact .one h1
  ·exact .more h2 h1
section
variable {tick:List Bool} {g M:List (List Nat)}
def Kl (M:List (List Nat)) (st:List Nat):Prop := ∀ k,st.getD k 0≠0→st.getD k 0≠1→Ends M k
def OnesIn (s st:List Nat):Prop := ∀ k,s.getD k 0=1→st.getD k 0=1
theorem getD_set_ne {α:Type} {l:List α} {i j:Nat} {a d:α} (h:i≠j):(l.set i a).getD j d=l.getD j d:=by simp [List.getElem?_set_ne h]
theorem Wl {α:Type} {l:List α} {i:Nat} {a d:α} (h:i<l.length):(l.set i a).getD i d=a:=by simp [h]
theorem jcg {N fuel:Nat} (ih : ∀ n st s,n<N→st.length=N→st.getD n 0=0→Kl M st→ringW tick g fuel n st=some (false,s)→Ends M n∧Kl M s∧OnesIn s st) :
  ∀ (ks st s:List Nat),(∀ k∈ks,k<N)→st.length=N→Kl M st→ringL tick g fuel ks st=some (false,s)→(∀ k∈ks,Ends M k)∧Kl M s∧OnesIn s st
 | [],st,s,_,_,hd,h=>by rw [ringL] at h; cases h; exact ⟨by simp,hd,fun _ h=>h⟩
 | k::ks,st,s,hk,hl,hd,h=>by
  rw [ringL] at h;split at h
  ·cases h
  ·rename_i h1;split at h
   ·rename_i h0
    cases hw:ringW tick g fuel k st with
    | none=>rw [hw] at h; cases h
    | some p =>
     obtain ⟨b,s1⟩:=p;rw [hw] at h
     cases b with
     | true=>cases h
     | false =>
      obtain ⟨e1,e2,e3⟩:=ih k st s1 (hk k (by simp)) hl h0 hd hw;have hl1:=ringW_len _ _ _ _ _ hw;obtain ⟨f1,f2,f3⟩:=jcg ih ks s1 s (fun x hx=>hk x (by simp [hx])) (by omega) e2 h;refine ⟨fun x hx => ?_,f2,fun x hx=>e3 x (f3 x hx)⟩;rcases List.mem_cons.1 hx with rfl | hx
      ·exact e1
      ·exact f1 x hx
   ·rename_i h0;obtain ⟨f1,f2,f3⟩:=jcg ih ks st s (fun x hx=>hk x (by simp [hx])) hl hd h;refine ⟨fun x hx => ?_,f2,f3⟩;rcases List.mem_cons.1 hx with rfl | hx
    ·exact hd _ h0 h1
    ·exact f1 x hx
theorem jcf {N:Nat} (hg : ∀ n, ∀ k∈g.getD n [],k<N) (hM : ∀ n<N,M.getD n []=if tick.getD n false=true then [] else g.getD n []) :
  ∀ (fuel n:Nat) (st s:List Nat),n<N→st.length=N→st.getD n 0=0→Kl M st→ringW tick g fuel n st=some (false,s)→Ends M n∧Kl M s∧OnesIn s st
 | 0,_,_,_,_,_,_,_,h=>by rw [ringW] at h; cases h
 | fuel+1,n,st,s,hn,hl,h0,hd,h=>by
  rw [ringW] at h;have hm:=hM n hn;split at h
  ·rename_i ht
   cases h
   rw [if_pos ht] at hm;exact ⟨.mk n (by rw [hm]; simp),hd,fun _ h=>h⟩
  ·rename_i ht;rw [if_neg ht] at hm
   cases hL:ringL tick g fuel (g.getD n []) (st.set n 1) with
   | none=>rw [hL] at h; cases h
   | some p =>
    obtain ⟨b,s1⟩:=p;rw [hL] at h
    cases b with
    | true=>cases h
    | false =>
     cases h
     have hd1:Kl M (st.set n 1):=by
      intro k k0 k1
      by_cases e:n=k
      ·subst e; rw [Wl (by omega)] at k1; exact absurd rfl k1
      ·rw [getD_set_ne e] at k0 k1; exact hd k k0 k1
     obtain ⟨f1,f2,f3⟩:=jcg (fun n st s=>jcf hg hM fuel n st s) _ _ _ (hg n) (by simp; omega) hd1 hL;have hen:Ends M n := .mk n (by rw [hm]; exact f1);have hl1:s1.length=N:=by
      have:=WD (ringW_len fuel) _ _ _ _ hL;simp at this; omega
     refine ⟨hen, ?_, ?_⟩
     ·intro k k0 k1
      by_cases e:n=k
      ·subst e; exact hen
      ·rw [getD_set_ne e] at k0 k1; exact f2 k k0 k1
     ·intro k k1
      by_cases e:n=k
      ·subst e; rw [Wl (by omega)] at k1; cases k1
      ·rw [getD_set_ne e] at k1;have:=f3 k k1
       rwa [getD_set_ne e] at this
def Under (M:List (List Nat)) (st:List Nat) (n:Nat):Prop := ∀ k,st.getD k 0=1→k=n∨Walk M k n
theorem ZY {N fuel n:Nat} (hg : ∀ n, ∀ k∈g.getD n [],k<N) (hM : ∀ n<N,M.getD n []=if tick.getD n false=true then [] else g.getD n [])
  (ih : ∀ n st s,n<N→st.length=N→st.getD n 0=0→Kl M st→(∀ k,st.getD k 0=1→Walk M k n)→ringW tick g fuel n st=some (true,s) → ∃ i, ¬ Ends M i) :
  ∀ (ks st s:List Nat),(∀ k∈ks,k<N)→(∀ k∈ks,k∈M.getD n [])→st.length=N→Kl M st→Under M st n→ringL tick g fuel ks st=some (true,s) → ∃ i, ¬ Ends M i
 | [],st,s,_,_,_,_,_,h=>by rw [ringL] at h; cases h
 | k::ks,st,s,hk,hkM,hl,hd,hu,h=>by
  rw [ringL] at h;split at h
  ·rename_i h1;refine ⟨k,fun he=>he.no_ring ?_⟩;rcases hu k h1 with rfl | w
   ·exact .one (hkM _ (by simp))
   ·exact .more w (hkM _ (by simp))
  ·split at h
   ·rename_i h0
    cases hw:ringW tick g fuel k st with
    | none=>rw [hw] at h; cases h
    | some p =>
     obtain ⟨b,s1⟩:=p;rw [hw] at h
     cases b with
     | true =>
      refine ih k st s1 (hk k (by simp)) hl h0 hd (fun x hx => ?_) hw;rcases hu x hx with rfl | w
      ·exact .one (hkM _ (by simp))
      ·exact .more w (hkM _ (by simp))
     | false =>
      obtain ⟨e1,e2,e3⟩:=jcf hg hM fuel k st s1 (hk k (by simp)) hl h0 hd hw;have hl1:=ringW_len _ _ _ _ _ hw;exact ZY hg hM ih ks s1 s (fun x hx=>hk x (by simp [hx])) (fun x hx=>hkM x (by simp [hx])) (by omega) e2 (fun x hx=>hu x (e3 x hx)) h
   ·exact ZY hg hM ih ks st s (fun x hx=>hk x (by simp [hx])) (fun x hx=>hkM x (by simp [hx])) hl hd hu h
theorem ringW_yes {N:Nat} (hg : ∀ n, ∀ k∈g.getD n [],k<N) (hM : ∀ n<N,M.getD n []=if tick.getD n false=true then [] else g.getD n []) :
  ∀ (fuel n:Nat) (st s:List Nat),n<N→st.length=N→st.getD n 0=0→Kl M st→(∀ k,st.getD k 0=1→Walk M k n)→ringW tick g fuel n st=some (true,s) → ∃ i, ¬ Ends M i
 | 0,_,_,_,_,_,_,_,_,h=>by rw [ringW] at h; cases h
 | fuel+1,n,st,s,hn,hl,h0,hd,hu,h=>by
  rw [ringW] at h;have hm:=hM n hn;split at h
  ·cases h
  ·rename_i ht;rw [if_neg ht] at hm
   cases hL:ringL tick g fuel (g.getD n []) (st.set n 1) with
   | none=>rw [hL] at h; cases h
   | some p =>
    obtain ⟨b,s1⟩:=p;rw [hL] at h
    cases b with
    | false=>cases h
    | true =>
     have hd1:Kl M (st.set n 1):=by
      intro k k0 k1
      by_cases e:n=k
      ·subst e; rw [Wl (by omega)] at k1; exact absurd rfl k1
      ·rw [getD_set_ne e] at k0 k1; exact hd k k0 k1
     refine ZY (n:=n) hg hM (fun n st s=>ringW_yes hg hM fuel n st s) _ _ _ (hg n) (by rw [hm]; exact fun k h=>h) (by simp; omega) hd1 (fun k hk => ?_) hL
     by_cases e:n=k
     ·exact .inl e.symm
     ·rw [getD_set_ne e] at hk; exact .inr (hu k hk)
theorem We {N fuel:Nat} (hg : ∀ n, ∀ k∈g.getD n [],k<N) (hM : ∀ n<N,M.getD n []=if tick.getD n false=true then [] else g.getD n []) :
  ∀ (ns st:List Nat) (r:Bool),(∀ n∈ns,n<N)→st.length=N→Kl M st→(∀ k,st.getD k 0≠1)→ringM tick g fuel ns st=some r→(r=false → ∀ n∈ns,Ends M n)∧(r=true → ∃ i, ¬ Ends M i)
 | [],st,r,_,_,_,_,h=>by simp only [ringM,Option.some.injEq] at h; subst h; exact ⟨by simp,by simp⟩
 | n::ns,st,r,hn,hl,hd,h1,h=>by
  simp only [ringM] at h;split at h
  ·rename_i h0
   cases hw:ringW tick g fuel n st with
   | none=>rw [hw] at h; cases h
   | some p =>
    obtain ⟨b,s⟩:=p;rw [hw] at h
    cases b with
    | true =>
     cases h
     exact ⟨by simp,fun _=>ringW_yes hg hM fuel n st s (hn n (by simp)) hl h0 hd (fun k hk=>absurd hk (h1 k)) hw⟩
    | false =>
     obtain ⟨e1,e2,e3⟩:=jcf hg hM fuel n st s (hn n (by simp)) hl h0 hd hw;have hl1:=ringW_len _ _ _ _ _ hw;obtain ⟨f1,f2⟩:=We hg hM ns s r (fun x hx=>hn x (by simp [hx])) (by omega) e2 (fun k hk=>h1 k (e3 k hk)) h;refine ⟨fun hr x hx => ?_,f2⟩;rcases List.mem_cons.1 hx with rfl | hx
     ·exact e1
     ·exact f1 hr x hx
  ·rename_i h0;obtain ⟨f1,f2⟩:=We hg hM ns st r (fun x hx=>hn x (by simp [hx])) hl hd h1 h;refine ⟨fun hr x hx => ?_,f2⟩;rcases List.mem_cons.1 hx with rfl | hx
   ·exact hd _ h0 (h1 _)
   ·exact f1 hr x hx
end
open Classical in
/-- The walk in depth finds a circle just if not all numbers end. -/
theorem rings_circ {bs:List Block} {G:List (List Nat)} (hl:G.length=bs.length) (hr : ∀ r∈G, ∀ k∈r,k<G.length):rings bs G=circ (msk bs G):=by
 have hg : ∀ n, ∀ k∈G.getD n [],k<G.length:=by
  intro n k hk
  by_cases h:n<G.length
  ·simp only [List.getD_eq_getElem?_getD,List.getElem?_eq_getElem h,Option.getD_some] at hk;exact hr _ (List.getElem_mem h) k hk
  ·simp only [List.getD_eq_getElem?_getD,List.getElem?_eq_none (Nat.le_of_not_lt h),Option.getD_none] at hk
   cases hk
 have hM : ∀ n<G.length,(msk bs G).getD n []=if (bs.map tickB).getD n false=true then [] else G.getD n []:=by
  intro n h;have hb:n<bs.length:=by omega
  simp [msk,List.getElem?_zipWith,h,hb]
 have hml:(msk bs G).length=G.length:=by rw [msk_len hl,hl]
 obtain ⟨r,h⟩:=ringM_ends (tick:=bs.map tickB) (fuel:=G.length+1) hg (by omega) (List.range G.length) (List.replicate G.length 0) (fun n hn=>List.mem_range.1 hn) (by simp);have hz : ∀ k,(List.replicate G.length 0).getD k 0=0:=by intro k; simp [List.getElem?_replicate]; split<;>rfl
 obtain ⟨h1,h2⟩:=We (M:=msk bs G) hg hM (List.range G.length) (List.replicate G.length 0) r (fun n hn=>List.mem_range.1 hn) (by simp) (fun k h0=>absurd (hz k) h0) (fun k=>by rw [hz]; decide) h;rw [rings,h,Option.getD_some,circ,hml]
 cases r with
 | false =>
  refine (decide_eq_false ?_).symm;exact fun hn=>hn fun i hi=>h1 rfl i (List.mem_range.2 hi)
 | true =>
  refine (decide_eq_true ?_).symm;intro ha;obtain ⟨i,hi⟩:=h2 rfl
  by_cases h3:i<G.length
  ·exact hi (ha i h3)
  ·refine hi (.mk i ?_);simp only [List.getD_eq_getElem?_getD,List.getElem?_eq_none (show (msk bs G).length≤i by omega),Option.getD_none];simp
theorem len_all {n:Nat} {l:List Nat} (hn:l.Nodup) (hb : ∀ x∈l,x<n):l.length=n ↔ ∀ x<n,x∈l:=by
 constructor
 ·intro h x hx;refine Classical.byContradiction fun hc => ?_
  have h1:(x::l).Nodup:=List.nodup_cons.2 ⟨hc,hn⟩;have h2:x::l ⊆ List.range n:=fun y hy=>by
   rcases List.mem_cons.1 hy with rfl | hy
   ·exact List.mem_range.2 hx
   ·exact List.mem_range.2 (hb y hy)
  have:=h1.length_le_of_subset h2;simp at this; omega
 ·intro h;have h1:l.length≤n:=by
   have:=hn.length_le_of_subset (l₂:=List.range n) fun y hy=>List.mem_range.2 (hb y hy)
   simpa using this
  have h2:n≤l.length:=by
   have:=(List.nodup_range (n:=n)).length_le_of_subset (l₂:=l) fun y hy=>h y (List.mem_range.1 hy)
   simpa using this
  omega
open Go.Vw in
theorem order_all {g:List (List Nat)} (hg:G.Ok g):decide ((G.order g).length=g.length)=(G.without g none).all id:=by
 have ho:=G.order_ok hg;have hl:=G.without_length hg none;rw [Bool.eq_iff_iff,decide_eq_true_eq,len_all ho.nd ho.lt,List.all_eq_true];constructor
 ·intro h x hx;obtain ⟨i,hi,rfl⟩:=List.mem_iff_getElem.1 hx;have:=(G.without_none hg i).2 (h i (by omega));simpa [G.Met,hi] using this
 ·intro h i hi;refine (G.without_none hg i).1 ?_;have hi':i<(G.without g none).length:=by omega
  have:=h _ (List.getElem_mem hi');simpa [G.Met,hi'] using this
theorem jaN {e:Env} {f:Fn} {ds:List Def} {near:List Int} {i:Int} (hk : ∀ t∈f.types,isKind t=true) : ∀ (l:List Ins) (k:Nat),(∀ x∈l,x.Fits∧InTs f.types.length x.outs)→rcheckCode e f ds near i k l=checkCode e f ds near i k l
 | [],k,_=>rfl
 | x::l,k,h=>by
  rw [rcheckCode,checkCode,ins_agrees (h x (by simp)).1 hk (h x (by simp)).2,jaN hk l (k+1) fun y hy=>h y (by simp [hy])]
theorem Zk {e:Env} {f:Fn} {ds:List Def} {near:List Int} (hk : ∀ t∈f.types,isKind t=true) : ∀ (l:List Block) (i:Nat),(∀ b∈l,(∀ x∈b.code,x.Fits∧InTs f.types.length x.outs) ∧ ∀ x∈b.term.to,0≤x.to)→rcheckBlocks e f ds near i l=checkBlocks e f ds near i l
 | [],i,_=>rfl
 | b::l,i,h=>by
  rw [rcheckBlocks,checkBlocks,Zk hk l (i+1) fun y hy=>h y (by simp [hy]),rcheckBlock,jaN hk _ _ (h b (by simp)).1,term_agrees (h b (by simp)).2,Bool.and_assoc]
theorem check_agrees {e:Env} {f:Fn} (hf:f.Fits):rcheck e f=check e f:=by
 unfold rcheck check
 cases hh:checkHead e f with
 | false=>simp
 | true =>
 simp only [Bool.true_and]
 cases hd:defsOf f with
 | none=>simp
 | some ds =>
 simp only;have hkt : ∀ t∈f.types,isKind t=true:=by
  simp only [checkHead,kinds,Bool.and_eq_true,List.all_eq_true] at hh;exact hh.1.1.2.2
 cases hr:Go.Vw.G.right (succs f.blocks) with
 | false=>simp [shapeOk,hr]
 | true =>
 have hok:=Go.Vw.G.right_ok hr;have hpos:1≤f.blocks.length:=by
  simp only [Go.Vw.G.right,Bool.and_eq_true,decide_eq_true_eq] at hr;simpa [succs] using hr.1.1
 have hto:=right_to hr;have hin:=(defs_in hd).2;have hgl:(Go.Vw.G.nats (succs f.blocks)).length=f.blocks.length:=by simp [Go.Vw.G.nats,succs]
 rw [decide_eq_true hpos,Zk hkt f.blocks 0 fun b hb=>⟨fun x hx=>⟨(hf.2.2.2 b hb).2.1.2 x hx,(hin b hb).2 x hx⟩,fun x hx=>(hto b hb x hx).1⟩];rw [←order_all hok,hgl];have hrc:=rings_circ (bs:=f.blocks) hgl (fun r hr k hk=>hok.elt r hr k hk);have hsh:shapeOk f=(Go.Vw.G.right (succs f.blocks)&&decide ((Go.Vw.G.ordI (succs f.blocks)).length=f.blocks.length) && !rings f.blocks (Go.Vw.G.nats (succs f.blocks))&&decide (typesOf f.types (f.blocks.getD 0 default).params=f.sig.inn)&&firstTick (f.blocks.getD 0 default).code):=by
  unfold shapeOk
  cases (f.blocks.getD 0 default).code<;>rfl
 rw [hsh];simp only [rshape,hr,Go.Vw.G.ordI,if_true,hrc,Bool.true_and];generalize checkBlocks e f ds _ 0 f.blocks=A;generalize decide (typesOf f.types (f.blocks.getD 0 default).params=f.sig.inn)=B;generalize circ _=C;generalize decide (_=f.blocks.length)=D;generalize firstTick (f.blocks.getD 0 default).code=E;revert A B C D E; decide
end Ss
namespace Go.Vw
open Go.Proofs Go.RowKit
attribute [-simp] List.map_set
theorem jaZ {e:Ss.Env} {f:Ss.Fn} {ds:List Ss.Def} {near:List Int} {i:Int} {k:Nat} {l:List Ss.Ins} (h:k<l.length):Ss.rcheckCode e f ds near i k (l.drop k)=(Ss.rinsOk e f ds near i k l[k]&&Ss.rcheckCode e f ds near i (k+1) (l.drop (k+1))):=by
 rw [List.drop_eq_getElem_cons h,Ss.rcheckCode]
theorem Zn {e:Ss.Env} {f:Ss.Fn} {ds:List Ss.Def} {near:List Int} {i:Nat} {l:List Ss.Block} (h:i<l.length):Ss.rcheckBlocks e f ds near i (l.drop i)=(Ss.rcheckBlock e f ds near i l[i]&&Ss.rcheckBlocks e f ds near (i+1) (l.drop (i+1))):=by
 rw [List.drop_eq_getElem_cons h,Ss.rcheckBlocks]
theorem jcF (e:Ss.Env) (f:Ss.Fn) (he:e.Fits) (hf:f.Fits):VPure Tryz.prog 13 [zk e,ql f] (.bool (Ss.rcheck e f)):=by
 intro S;have cer:=REnvRight_v e he;have csm:=Ke f hf;have hsb := @jX f;have csu:=fun h=>RSucc_v f hf h
 have cdf:=Defs_v f hf;have cci:=circlesP_v f hf;have ckt:VPure Tryz.prog 42 [vl vint f.types, .int .i64 2048] (.bool (Ss.kinds 2048 f.types)):=Zu 2048 f.types (by have:=hf.2.1.1; omega);have csr:=rsig_v f.sig hf.1;have hH:Ss.checkHead e f=(e.right&&f.small&&decide (f.blocks.length≤256)&&Ss.kinds 2048 f.types&&f.sig.right&&f.blocks.all fun b=>decide (b.params.length≤256)):=rfl;have hX:Ss.rcheck e f=(Ss.checkHead e f&&decide (1≤f.blocks.length)&&match Ss.defsOf f with
  | none=>false
  | some ds=>G.right (Ss.succs f.blocks)&&((G.without (G.nats (Ss.succs f.blocks)) none).all id&&(Ss.rshape f&&Ss.rcheckBlocks e f ds (G.nearI (Ss.succs f.blocks)) 0 f.blocks))):=rfl
 have hks:Ss.kinds 2048 f.types=true→f.types.length≤2048:=by
  intro h; simp only [Ss.kinds,Bool.and_eq_true,decide_eq_true_eq] at h; exact h.1
 have her:e.right=true→e.muts.length=e.globals.length:=by
  intro h; simp only [Ss.Env.right,Bool.and_eq_true,decide_eq_true_eq] at h; exact h.1.1.2
 rw [hX,hH];clear hX hH;generalize e.right=er at *
 generalize hsm:f.small=sm at *
 generalize Ss.kinds 2048 f.types=kt at *
 generalize f.sig.right=sr at *
 have hsl:=he.1.1;have hgl:=he.2.2.1.1;obtain ⟨sg,im,gl,mu,me⟩:=e;obtain ⟨⟨fi,fo⟩,ts,bs⟩:=f;simp only at *
 have cer':VPure Tryz.prog 41 [.agg [vl jC sg, .int .i64 im,vl vint gl,vl V.bool mu, .bool me]] (.bool er):=cer;have csm':VPure Tryz.prog 35 [.agg [vl vint fi,vl vint fo,vl vint ts,vl jb bs]] (.bool sm):=csm;have csr':VPure Tryz.prog 43 [.agg [vl vint fi,vl vint fo]] (.bool sr):=csr;generalize hZ:(match Ss.defsOf ⟨⟨fi,fo⟩,ts,bs⟩ with
  | none=>false
  | some ds=>G.right (Ss.succs bs)&&((G.without (G.nats (Ss.succs bs)) none).all id&&(Ss.rshape ⟨⟨fi,fo⟩,ts,bs⟩&&Ss.rcheckBlocks ⟨sg,im,gl,mu,me⟩ ⟨⟨fi,fo⟩,ts,bs⟩ ds (G.nearI (Ss.succs bs)) 0 bs)))=Z
 generalize hP:(fun b:Ss.Block=>decide (b.params.length≤256))=P;refine QB (c:=jd Tryz.f13) Tryz.func13 Tryz.ntmps13 fun hwf=>?_
 repeat first|refine QG ?_|refine QY ?_
 refine QT ?_;refine QP ?_;refine QL (cer') ?_
 by_cases h1:er=true
 case neg =>
  have h1':er=false:=by simpa using h1
  refine QM (by conv=>lhs;simp[QV,h1']) ?_;refine QN ?_
  repeat first|refine QG ?_|refine QY ?_
  exact ja hwf (by simp [h1']) rfl
 refine QM (by conv=>lhs;simp[QV,h1]) ?_;refine QL (csm') ?_
 by_cases h2:sm=true
 case neg =>
  have h2':sm=false:=by simpa using h2
  refine QM (by conv=>lhs;simp[QV,h2']) ?_;refine QN ?_
  repeat first|refine QG ?_|refine QY ?_
  exact ja hwf (by simp [h2']) rfl
 by_cases h3:(bs.length:Int)<1
 ·refine QM (by conv=>lhs;simp[QV,h2,h3]) ?_;refine QN ?_
  repeat first|refine QG ?_|refine QY ?_
  exact ja hwf (by rw [decide_eq_false (show ¬ 1≤bs.length by omega)]; simp) rfl
 by_cases h3b:(256:Int)<(bs.length:Int)
 ·refine QM (by conv=>lhs;simp[QV,h2,h3,h3b]) ?_;refine QN ?_
  repeat first|refine QG ?_|refine QY ?_
  exact ja hwf (by rw [show decide (bs.length≤256)=false by simp; omega]; simp) rfl
 have h3':bs.length≤256:=by omega
 have h3n:1≤bs.length:=by omega
 refine QM (by conv=>lhs;simp[QV,h2,h3,h3b]) ?_;refine QL (ckt) ?_
 by_cases h4:kt=true
 case neg =>
  have h4':kt=false:=by simpa using h4
  refine QM (by conv=>lhs;simp[QV,h4']) ?_;refine QN ?_
  repeat first|refine QG ?_|refine QY ?_
  exact ja hwf (by simp [h4']) rfl
 refine QM (by conv=>lhs;simp[QV,h4]) ?_;refine QL (csr') ?_
 by_cases h5:sr=true
 case neg =>
  have h5':sr=false:=by simpa using h5
  refine QM (by conv=>lhs;simp[QV,h5']) ?_;refine QN ?_
  repeat first|refine QG ?_|refine QY ?_
  exact ja hwf (by simp [h5']) rfl
 rw [h1,h2,h4,h5,decide_eq_true h3',decide_eq_true h3n];simp only [Bool.true_and,Bool.and_true];have htl:=hks h4;obtain ⟨_,_,hsf,_⟩:=hsb h2;refine QM (by conv=>lhs;simp[QV,h5]) ?_;refine QN ?_
 repeat first|refine QG ?_|refine QY ?_
 refine QT ?_;refine jc [2,3,5] rfl (fun c σ S' => ∃ (k:Nat),k≤bs.length∧c=bs.length-k∧(bs.drop k).all P=bs.all P∧σ=[(2, .ptr (lid S.nx 0) 0),(3, .ptr (lid S.nx 1) 0),(5,vnat k)]∧S'=St S [] [some (5,[vl jC sg,vint im,vl vint gl,vl V.bool mu, .bool me]),some (4,[vl vint fi,vl vint fo,vl vint ts,vl jb bs])]) bs.length ?_ ?_
 ·exact ⟨0,by omega,rfl,rfl,by simp [Fr.only],rfl⟩
 ·rintro c σ T ⟨k,hk,rfl,hd,rfl,rfl⟩
  by_cases hkt:k<bs.length
  ·have hw:=ji hkt (by omega);have hst:=Ss.drop_all P hkt;obtain ⟨⟨ps,code,⟨tk,ta,to,az⟩⟩,hx⟩ : ∃ b,bs[k]=b:=⟨_,rfl⟩
   have hPx:P ⟨ps,code,⟨tk,ta,to,az⟩⟩=decide (ps.length≤256):=by rw [←hP]
   rw [hx,hPx] at hst
   by_cases h6:(256:Int)<(ps.length:Int)
   ·rw [decide_eq_false (by omega),Bool.false_and,hd] at hst;rw [hst]
    repeat first|refine QG ?_|refine QY ?_ (r:=by conv=>lhs;simp[QV,hkt,hx,h6])
    exact ja hwf (by simp) rfl
   ·rw [decide_eq_true (by omega),Bool.true_and,hd] at hst
    repeat first|refine QG ?_|refine QY ?_ (r:=by conv=>lhs;simp[QV,hkt,hx,h6,hw])
    show jp _ _ _ _ _ _ _;exact again ⟨by omega,k+1,by omega,rfl,hst.symm,by simp [Fr.only],rfl⟩
  rw [Ss.drop_all_end _ hkt] at hd;rw [←hd,Bool.true_and];have hke:k=bs.length:=by omega
  subst hke;have csu':VPure Tryz.prog 20 [.agg [vl vint fi,vl vint fo,vl vint ts,vl jb bs]] (vl (vl vint) (Ss.succs bs)):=csu h2;have cdf':VPure Tryz.prog 44 [.agg [vl vint fi,vl vint fo,vl vint ts,vl jb bs]] (rdefsV (Ss.defsOf ⟨⟨fi,fo⟩,ts,bs⟩)):=cdf (by omega)
  cases hdf:Ss.defsOf ⟨⟨fi,fo⟩,ts,bs⟩ with
  | none =>
   rw [hdf] at hZ cdf';simp only at hZ;subst hZ;obtain ⟨z,hz⟩ : ∃ z,z=false:=⟨_,rfl⟩
   have cdf2:VPure Tryz.prog 44 [.agg [vl vint fi,vl vint fo,vl vint ts,vl jb bs]] (.tuple [.list [], .bool z]):=by rw [hz]; exact cdf'
   repeat first|refine QG ?_|refine QY ?_ (r:=by conv=>lhs;simp[QV,hkt])
   refine QT ?_;refine QP ?_;refine QL (csu') ?_;refine QW ?_;refine QT ?_;refine QP ?_;refine QL (cdf2) ?_;refine QM (by conv=>lhs;simp[QV,hz]) ?_;refine QN ?_
   repeat first|refine QG ?_|refine QY ?_ (r:=by conv=>lhs;simp[QV,hz])
   exact ja hwf rfl rfl
  | some ds =>
   rw [hdf] at hZ cdf';simp only at hZ;obtain ⟨hdl,hdin⟩:=Ss.defs_in hdf;have hnn:=Ss.defs_nn hdf;simp only at hdl hdin;obtain ⟨z,hz⟩ : ∃ z,z=true:=⟨_,rfl⟩
   have cdf2:VPure Tryz.prog 44 [.agg [vl vint fi,vl vint fo,vl vint ts,vl jb bs]] (.tuple [vl jV ds, .bool z]):=by rw [hz]; exact cdf'
   have hgl63:(Ss.succs bs).length<2^63:=by simp [Ss.succs]; omega
   have hgr63 : ∀ r∈Ss.succs bs,r.length<2^62:=by
    intro r hr;obtain ⟨b,hb,rfl⟩:=List.mem_map.1 hr;have:=(hsf b hb).2.1;simp [Ss.rowOf]; omega
   have crt:=ZF (Ss.succs bs) hgl63 (fun r hr=>by have:=hgr63 r hr; omega);have cwo:=WithoutI_v (Ss.succs bs);have cne:=RNearI_v (Ss.succs bs) hgl63 (fun r hr=>by have:=hgr63 r hr; omega)
   repeat first|refine QG ?_|refine QY ?_ (r:=by conv=>lhs;simp[QV,hkt])
   refine QT ?_;refine QP ?_;refine QL (csu') ?_;refine QW ?_;refine QT ?_;refine QP ?_;refine QL (cdf2) ?_;refine QW ?_;refine QT ?_;refine QP ?_ (r:=by conv=>lhs;simp[QV,hz]);refine QL (crt) ?_
   by_cases h6:G.right (Ss.succs bs)=true
   case neg =>
    have h6':G.right (Ss.succs bs)=false:=by simpa using h6
    rw [h6',Bool.false_and] at hZ;subst hZ;refine QM (by conv=>lhs;simp[QV,h6']) ?_;refine QN ?_
    repeat first|refine QG ?_|refine QY ?_
    exact ja hwf rfl rfl
   have cwo':=cwo h6;have cne':=cne h6;rw [h6,Bool.true_and] at hZ;generalize hrd:G.without (G.nats (Ss.succs bs)) none=reached at *
   refine QM (by conv=>lhs;simp[QV,h6]) ?_;refine QN ?_
   repeat first|refine QG ?_|refine QY ?_
   refine QT ?_;refine QP ?_;refine jm rfl cwo' ?_;refine QW ?_
   repeat first|refine QG ?_|refine QY ?_
   have hrl:reached.length<2^63:=by
    have:=G.without_length (G.right_ok h6) none;rw [hrd] at this;rw [this]; simpa [G.nats] using hgl63
   refine QT ?_;refine jc [2,3,6,7,9,10] rfl (fun c σ S' => ∃ (k:Nat),k≤reached.length∧c=reached.length-k∧(reached.drop k).all id=reached.all id∧σ=[(2, .ptr (lid S.nx 0) 0),(3, .ptr (lid S.nx 1) 0),(6,vl (vl vint) (Ss.succs bs)),(7,vl jV ds),(9,vl V.bool reached),(10,vnat k)]∧S'=St S [] [some (5,[vl jC sg,vint im,vl vint gl,vl V.bool mu, .bool me]),some (4,[vl vint fi,vl vint fo,vl vint ts,vl jb bs])]) reached.length ?_ ?_
   ·exact ⟨0,by omega,rfl,rfl,by simp [Fr.only],rfl⟩
   ·rintro c σ T ⟨k,hk,rfl,hd,rfl,rfl⟩
    by_cases hkt:k<reached.length
    ·have hw:=ji hkt (by omega);have hst:=Ss.drop_all id hkt;obtain ⟨y,hy⟩ : ∃ y,reached[k]=y:=⟨_,rfl⟩
     rw [hy] at hst
     by_cases h7:y=true
     ·rw [h7,id,Bool.true_and,hd] at hst
      repeat first|refine QG ?_|refine QY ?_ (r:=by conv=>lhs;simp[QV,hkt,hy,h7,hw])
      show jp _ _ _ _ _ _ _;exact again ⟨by omega,k+1,by omega,rfl,hst.symm,by simp [Fr.only],rfl⟩
     ·have h7':y=false:=by simpa using h7
      rw [h7',id,Bool.false_and,hd] at hst;rw [hst,Bool.false_and] at hZ;subst hZ
      repeat first|refine QG ?_|refine QY ?_ (r:=by conv=>lhs;simp[QV,hkt,hy,h7'])
      exact ja hwf rfl rfl
    rw [Ss.drop_all_end _ hkt] at hd;rw [←hd,Bool.true_and] at hZ;have hke:k=reached.length:=by omega
    subst hke;have hGok:=G.right_ok h6;have hGe:(Ss.succs bs).map (vl vint)=(G.nats (Ss.succs bs)).map (vl vnat):=by
     have:=G.right_enc h6;simpa only [vl,V.list.injEq] using this
    have hcirc:=cci h2 _ hGe (fun r hr=>⟨by have:=hGok.row r hr; omega,hGok.elt r hr⟩);have cci':VPure Tryz.prog 49 [.agg [vl vint fi,vl vint fo,vl vint ts,vl jb bs]] (.bool (Ss.circ (Ss.msk bs (G.nats (Ss.succs bs))))):=hcirc;have hto:=Ss.right_to (f:=⟨⟨fi,fo⟩,ts,bs⟩) h6;simp only at hto;have hnl:=G.nearI_len (Ss.succs bs);have h0:0<bs.length:=by omega
    obtain ⟨⟨ps,code,⟨tk,ta,to,az⟩⟩,hx0⟩ : ∃ b,bs[0]=b:=⟨_,rfl⟩
    have hm0:=List.getElem_mem h0;rw [hx0] at hm0;have hb0:=hsf _ hm0;have hin0:=(hdin _ hm0).1;simp only at hb0 hin0;have hrs:Ss.rshape ⟨⟨fi,fo⟩,ts,bs⟩=(decide (Ss.typesOf ts ps=fi)&&(Ss.firstTick code && !Ss.circ (Ss.msk bs (G.nats (Ss.succs bs))))):=by
     have e:bs.getD 0 default=⟨ps,code,⟨tk,ta,to,az⟩⟩:=by simp [h0,hx0]
     simp only [Ss.rshape,e]
    rw [hrs] at hZ;generalize Ss.circ (Ss.msk bs (G.nats (Ss.succs bs)))=ci at *
    generalize hnr:G.nearI (Ss.succs bs)=near at *
    have cty:=jcb ⟨sg,im,gl,mu,me⟩ ⟨⟨fi,fo⟩,ts,bs⟩ ds near ps (by omega) hin0;simp only at cty;have htl0:(Ss.typesOf ts ps).length<2^63:=by simp [Ss.typesOf]; omega
    generalize Ss.typesOf ts ps=tq at *
    have cin:=Jz tq fi htl0
    repeat first|refine QG ?_|refine QY ?_ (r:=by conv=>lhs;simp[QV,hkt])
    refine QT ?_;refine QP ?_;refine QL (cne') ?_;refine QW ?_
    repeat first|refine QG ?_|refine QY ?_
    refine QH 13 2 ?_;refine QT ?_;refine QD (r:=by conv=>lhs;simp[QV,h0,hx0]) (k:=?_);refine QL (cty) ?_;refine QZ ?_;refine QL (cin) ?_
    by_cases h8:tq=fi
    case neg =>
     rw [decide_eq_false h8,Bool.false_and,Bool.false_and] at hZ;subst hZ;refine QM (by conv=>lhs;simp[QV,h8]) ?_;refine QN ?_
     repeat first|refine QG ?_|refine QY ?_
     exact ja hwf rfl rfl
    rw [decide_eq_true h8,Bool.true_and] at hZ
    cases code with
    | nil =>
     have hft:Ss.firstTick []=false:=rfl;rw [hft,Bool.false_and,Bool.false_and] at hZ;subst hZ;refine QM (by conv=>lhs;simp[QV,h8,h0,hx0]) ?_;refine QN ?_
     repeat first|refine QG ?_|refine QY ?_
     exact ja hwf rfl rfl
    | cons x0 cr =>
    obtain ⟨xo,xn,xa,xu⟩:=x0;have hft:Ss.firstTick (⟨xo,xn,xa,xu⟩::cr)=decide (xo=258):=rfl;rw [hft] at hZ;have hcpos : ¬ (cr.length:Int)+1=0:=by omega
    by_cases h9:xo=258
    case neg =>
     rw [decide_eq_false h9,Bool.false_and,Bool.false_and] at hZ;subst hZ;refine QM (by conv=>lhs;simp[QV,h8,h0,hx0,h9,hcpos]) ?_;refine QN ?_
     repeat first|refine QG ?_|refine QY ?_
     exact ja hwf rfl rfl
    rw [decide_eq_true h9,Bool.true_and] at hZ;refine QM (by conv=>lhs;simp[QV,h8,h0,hx0,h9,hcpos]) ?_;refine QL (cci') ?_
    by_cases h10:ci=true
    ·rw [h10,Bool.not_true,Bool.false_and] at hZ;subst hZ;refine QM (by conv=>lhs;simp[QV,h10]) ?_;refine QN ?_
     repeat first|refine QG ?_|refine QY ?_
     exact ja hwf rfl rfl
    have h10':ci=false:=by simpa using h10
    rw [h10',Bool.not_false,Bool.true_and] at hZ;refine QM (by conv=>lhs;simp[QV,h10']) ?_;refine QN ?_
    repeat first|refine QG ?_|refine QY ?_
    refine QO [2,3,13,14] ?_;refine QK [0,1] ?_;clear cwo cne cne' cci' cdf2 cdf' csu' cdf cci cer' csm' csr' crt cty cin;have hbF:=hf.2.2.2;simp only at hbF;have cns : ∀ (i k:Nat) (b:Ss.Block) (x:Ss.Ins),bs[i]? = some b→b.code[k]? = some x→VPure Tryz.prog 50 [ckR ⟨sg,im,gl,mu,me⟩ ⟨⟨fi,fo⟩,ts,bs⟩ ds near,vnat i,vnat k] (.bool (Ss.rinsOk ⟨sg,im,gl,mu,me⟩ ⟨⟨fi,fo⟩,ts,bs⟩ ds near i k x)):=by
     intro i k b x hb hx;have hbm:=List.mem_of_getElem? hb;have hxm:=List.mem_of_getElem? hx;have hsmb:=((Ss.small_iff _).1 (hsm.trans h2)).2.1 b hbm;simp only [Ss.Block.small,Bool.and_eq_true,List.all_eq_true,Ss.Ins.small,decide_eq_true_eq] at hsmb;have hxl:=(hsmb.1.2 x hxm).2;exact rins_v ⟨sg,im,gl,mu,me⟩ ⟨⟨fi,fo⟩,ts,bs⟩ ds near i k b x hsl hgl (her h1) hdl (by simp only; omega) (by omega) hnn hb hx ((hbF b hbm).2.1.2 x hxm) (by omega) ((hdin b hbm).2 x hxm)
    have ctm : ∀ (i:Nat) (b:Ss.Block),bs[i]? = some b→VPure Tryz.prog 51 [ckR ⟨sg,im,gl,mu,me⟩ ⟨⟨fi,fo⟩,ts,bs⟩ ds near,vnat i] (.bool (Ss.rtermOk ⟨⟨fi,fo⟩,ts,bs⟩ ds near i b.code.length b.term)):=fun i b hb =>
     rterm_v ⟨sg,im,gl,mu,me⟩ ⟨⟨fi,fo⟩,ts,bs⟩ ds near i b hdl (by simp only; omega) (by omega) hnn hb (hbF b (List.mem_of_getElem? hb))
    have ced : ∀ (i:Nat) (b:Ss.Block),bs[i]? = some b→VPure Tryz.prog 52 [ckR ⟨sg,im,gl,mu,me⟩ ⟨⟨fi,fo⟩,ts,bs⟩ ds near,vnat i] (.bool (b.term.to.all (Ss.redgeOk ⟨⟨fi,fo⟩,ts,bs⟩ ds near i b.code.length))):=fun i b hb =>
     redges_v ⟨sg,im,gl,mu,me⟩ ⟨⟨fi,fo⟩,ts,bs⟩ ds near i b hdl (by simp only; omega) (by omega) hnn hb (hbF b (List.mem_of_getElem? hb)) (by simp only; omega) (hto b (List.mem_of_getElem? hb)) (fun b hb=>⟨by have:=(hsf b hb).1; omega,(hdin b hb).1⟩)
    clear h0 hx0 hm0 hb0 hin0 hrs hcirc;refine QT ?_;refine jc [2,3,13,14] rfl (fun c σ S' => ∃ (k:Nat),k≤bs.length∧c=bs.length-k∧Ss.rcheckBlocks ⟨sg,im,gl,mu,me⟩ ⟨⟨fi,fo⟩,ts,bs⟩ ds near k (bs.drop k)=Z∧σ=[(2, .ptr (lid S.nx 0) 0),(3, .ptr (lid S.nx 1) 0),(13,ckR ⟨sg,im,gl,mu,me⟩ ⟨⟨fi,fo⟩,ts,bs⟩ ds near),(14,vnat k)]∧S'=St S [] [some (5,[vl jC sg,vint im,vl vint gl,vl V.bool mu, .bool me]),some (4,[vl vint fi,vl vint fo,vl vint ts,vl jb bs])]) bs.length ?_ ?_
    ·exact ⟨0,by omega,rfl,hZ,by simp [Fr.only],rfl⟩
    ·rintro c σ T ⟨k,hk,rfl,hcb,rfl,rfl⟩
     by_cases hkt:k<bs.length
     case neg =>
      have e1:bs.drop k=[]:=by rw [List.drop_eq_nil_iff]; omega
      rw [e1,Ss.rcheckBlocks] at hcb
      repeat first|refine QG ?_|refine QY ?_ (r:=by conv=>lhs;simp[QV,hkt])
      exact ja hwf (by simp [←hcb]) rfl
     have hw:=ji hkt (by omega);have hst:=Zn (e:=⟨sg,im,gl,mu,me⟩) (f:=⟨⟨fi,fo⟩,ts,bs⟩) (ds:=ds) (near:=near) hkt;have hsome:bs[k]? = some bs[k]:=List.getElem?_eq_getElem hkt;have hcl:=(hsf _ (List.getElem_mem hkt)).2.2.2;have cti:=ctm k _ hsome;have cei:=ced k _ hsome;have cii:=fun j x=>cns k j _ x hsome
     obtain ⟨⟨ps,code,⟨tk,ta,to,az⟩⟩,hx⟩ : ∃ b,bs[k]=b:=⟨_,rfl⟩
     rw [hx] at hst hcl cti cii cei;simp only at hst hcl cii cti cei;have hrb:Ss.rcheckBlock ⟨sg,im,gl,mu,me⟩ ⟨⟨fi,fo⟩,ts,bs⟩ ds near k ⟨ps,code,⟨tk,ta,to,az⟩⟩=(Ss.rcheckCode ⟨sg,im,gl,mu,me⟩ ⟨⟨fi,fo⟩,ts,bs⟩ ds near k 0 code&&(Ss.rtermOk ⟨⟨fi,fo⟩,ts,bs⟩ ds near k code.length ⟨tk,ta,to,az⟩&&to.all (Ss.redgeOk ⟨⟨fi,fo⟩,ts,bs⟩ ds near k code.length))):=rfl;rw [hst,hrb] at hcb;clear hst hrb;generalize Ss.rtermOk ⟨⟨fi,fo⟩,ts,bs⟩ ds near k code.length ⟨tk,ta,to,az⟩=tm at *
     generalize to.all (Ss.redgeOk ⟨⟨fi,fo⟩,ts,bs⟩ ds near k code.length)=ed at *
     repeat first|refine QG ?_|refine QY ?_ (r:=by conv=>lhs;simp[QV,hkt,hx])
     refine QT ?_;refine jc [2,3,13,14,15] rfl (fun c σ S' => ∃ (j:Nat),j≤code.length∧c=code.length-j∧Ss.rcheckCode ⟨sg,im,gl,mu,me⟩ ⟨⟨fi,fo⟩,ts,bs⟩ ds near k j (code.drop j)=Ss.rcheckCode ⟨sg,im,gl,mu,me⟩ ⟨⟨fi,fo⟩,ts,bs⟩ ds near k 0 code∧σ=[(2, .ptr (lid S.nx 0) 0),(3, .ptr (lid S.nx 1) 0),(13,ckR ⟨sg,im,gl,mu,me⟩ ⟨⟨fi,fo⟩,ts,bs⟩ ds near),(14,vnat k),(15,vnat j)]∧S'=St S [] [some (5,[vl jC sg,vint im,vl vint gl,vl V.bool mu, .bool me]),some (4,[vl vint fi,vl vint fo,vl vint ts,vl jb bs])]) code.length ?_ ?_
     ·exact ⟨0,by omega,rfl,rfl,by simp [Fr.only],rfl⟩
     ·rintro c σ T ⟨j,hj,rfl,hcc,rfl,rfl⟩
      by_cases hjt:j<code.length
      ·have hwj:=ji hjt (by omega);have hsc:=jaZ (e:=⟨sg,im,gl,mu,me⟩) (f:=⟨⟨fi,fo⟩,ts,bs⟩) (ds:=ds) (near:=near) (i:=k) hjt;have cij:=cii j _ (List.getElem?_eq_getElem hjt);generalize Ss.rinsOk ⟨sg,im,gl,mu,me⟩ ⟨⟨fi,fo⟩,ts,bs⟩ ds near k j code[j]=io at *
       repeat first|refine QG ?_|refine QY ?_ (r:=by conv=>lhs;simp[QV,hkt,hx,hjt])
       refine QT ?_;refine QP ?_;refine QL (cij) ?_
       by_cases hio:io=true
       ·refine QM (by conv=>lhs;simp[QV,hio]) ?_;refine QN ?_
        repeat first|refine QG ?_|refine QY ?_ (r:=by conv=>lhs;simp[QV,hwj])
        show jp _ _ _ _ _ _ _;exact again ⟨by omega,j+1,by omega,rfl,by rw [←hcc,hsc,hio,Bool.true_and],by simp [Fr.only,hwj],by simp⟩
       ·have hio':io=false:=by simpa using hio
        refine QM (by conv=>lhs;simp[QV,hio']) ?_;refine QN ?_
        repeat first|refine QG ?_|refine QY ?_
        exact ja hwf (by rw [←hcb, ←hcc,hsc,hio']; simp) rfl
      ·have e1:code.drop j=[]:=by rw [List.drop_eq_nil_iff]; omega
       rw [e1,Ss.rcheckCode] at hcc;rw [←hcc,Bool.true_and] at hcb
       repeat first|refine QG ?_|refine QY ?_ (r:=by conv=>lhs;simp[QV,hkt,hx,hjt])
       refine QT ?_;refine QP ?_;refine QL (cti) ?_
       by_cases htm:tm=true
       ·refine QM (by conv=>lhs;simp[QV,htm]) ?_;refine QL (cei) ?_
        by_cases hed:ed=true
        ·refine QM (by conv=>lhs;simp[QV,hed]) ?_;refine QN ?_
         repeat first|refine QG ?_|refine QY ?_ (r:=by conv=>lhs;simp[QV,hw])
         show jp _ _ _ _ _ _ _;exact again ⟨by omega,k+1,by omega,rfl,by rw [←hcb,htm,hed,Bool.true_and,Bool.true_and],by simp [Fr.only,hw],by simp⟩
        ·have hed':ed=false:=by simpa using hed
         refine QM (by conv=>lhs;simp[QV,hed']) ?_;refine QN ?_
         repeat first|refine QG ?_|refine QY ?_
         exact ja hwf (by rw [←hcb,htm,hed']; simp) rfl
       ·have htm':tm=false:=by simpa using htm
        refine QM (by conv=>lhs;simp[QV,htm']) ?_;refine QN ?_
        repeat first|refine QG ?_|refine QY ?_
        exact ja hwf (by rw [←hcb,htm']; simp) rfl
end Go.Vw
namespace Go.Vw
open Go.Proofs Go.RowKit
def encKept (p:Ss.Ins × Int):V := .agg [vint p.1.op,vu p.1.n,vl vint p.1.args,vl vint p.1.outs,vint p.2]
theorem qx {α:Type} (enc:α→V) (l:List α):je enc l=(l.map fun x=>(enc x).cells).flatten:=by rw [je,List.flatMap_def]
structure RInv (S:Store) (p4 pg ot ob:Nat) (hd:List V) (ts:List Int) (bs:List Ss.Block) (T:Store) (cells:List V) (ids:List Nat):Prop where
 old:Agree S T
 c4:T.get p4=some (4,[V.nils,V.nils,V.nils,V.nils])
 cg:T.get pg=some (4,hd)
 ct:T.get ot=some (1,ts.map vint)
 cb:T.get ob=some (6,cells)
 own:OwL T (reps bs.length blkT) cells (je jb bs) ids
 nd:(p4::pg::ot::ob::ids).Nodup
 lt : ∀ o∈p4::pg::ot::ob::ids,S.nx≤o
 args : ∀ b∈bs, ∀ x∈b.code,x.op=257→x.args≠[]
 len : ∀ b∈bs,b.code.length≤4096
theorem jag (near:List Int) (n:Int) : ∀ (code:List Ss.Ins) (all:Ss.Kept),(Ss.rcode near n all code).1.length≤code.length
 | [],all=>by simp [Ss.rcode]
 | x::r,all=>by
  rw [Ss.rcode]; split
  ·have:=jag near n r all; simp; omega
  ·have:=jag near n r (if x.op=257 then all++[(x,n)] else all); simp; omega
theorem RInv.put {S:Store} {p4 pg ot ob:Nat} {hd:List V} {ts:List Int} {bs:List Ss.Block} {T:Store} {cells:List V} {ids:List Nat} (h:RInv S p4 pg ot ob hd ts bs T cells ids) (hwT:T.Wf) {n:Nat} (hn:n<bs.length) :
  ∃ (oc:Nat),cells[n*6+1]? = some (.slice oc 0 bs[n].code.length)∧T.get oc=some (4,je jg bs[n].code)∧oc<T.nx∧ob<T.nx∧oc≠ob ∧ ∀ (code':List Ss.Ins),(∀ x∈code',x∈bs[n].code)→code'.length≤4096 → ∃ ids',
   RInv S p4 pg ot ob hd ts (bs.set n ⟨bs[n].params,code',bs[n].term⟩) (St T [(ob,some (6,cells.set (n*6+1) (.slice (lid T.nx 0) 0 code'.length)))] [some (4,je jg code')]) (cells.set (n*6+1) (.slice (lid T.nx 0) 0 code'.length)) ids':=by
 obtain ⟨old,c4,cg,ct,cb,own,nd,lt,args,len⟩:=h;have olt : ∀ {o c},T.get o=some c→o<T.nx:=fun h=>jy hwT h
 have hmem:bs[n]∈bs:=List.getElem_mem hn;obtain ⟨c1,c2,oc,i1,i2,rfl,hl,rfl,hoc,k1,k2⟩:=blk_split own rfl hn (List.getElem?_eq_getElem hn);have nd2:=nd;simp only [List.nodup_cons,List.mem_cons,not_or] at nd2;obtain ⟨⟨a1,a2,a3,a4⟩,⟨b1,b2,b3⟩,⟨e1,e2⟩,f1,nd3⟩:=nd2;have hcb:oc≠ob:=fun e=>f1 (by rw [←e]; simp)
 have icl : ∀ o∈i1++oc::i2,o<T.nx:=fun o ho=>by
  have:=own.alive o ho
  cases hg:T.get o with
  | none=>rw [hg] at this; cases this
  | some c=>exact olt hg
 have lb:=olt cb;refine ⟨oc,zC (m:=6) (p:=1) hl rfl,hoc,olt hoc,lb,hcb,fun code' hsub hlen'=>⟨i1++lid T.nx 0::i2, ?_⟩⟩;have hset:(c1++([vl vint bs[n].params,V.slice oc 0 bs[n].code.length,vint bs[n].term.kind,vint bs[n].term.arg,vl jf bs[n].term.to,vl vint bs[n].term.args]++c2)).set (n*6+1) (.slice (lid T.nx 0) 0 code'.length) =
   c1++([vl vint bs[n].params,V.slice (lid T.nx 0) 0 code'.length,vint bs[n].term.kind,vint bs[n].term.arg,vl jf bs[n].term.to,vl vint bs[n].term.args]++c2):=by
  rw [←hl,List.set_append_right _ _ (by omega),Nat.add_sub_cancel_left]; rfl
 rw [hset];have gT : ∀ o u l,o<T.nx→o≠ob→(St T [(ob,u)] l).get o=T.get o:=fun o u l h1 h2=>by
  rw [jk h1]; simp [uGet,h2]
 have hnid:lid T.nx 0∉i1++oc::i2:=fun hm=>by have:=icl _ hm; simp [lid] at this
 refine ⟨⟨by rw [jE,lid]; have:=old.1; simp; omega,fun o ho => ?_⟩, ?_, ?_, ?_, ?_, ?_, ?_, ?_, ?_, ?_⟩
 ·have:=lt ob (by simp);rw [gT o _ _ (by have:=old.1; omega) (by omega)]; exact old.2 o ho
 ·rw [gT _ _ _ (olt c4) a3]; exact c4
 ·rw [gT _ _ _ (olt cg) b2]; exact cg
 ·rw [gT _ _ _ (olt ct) e1]; exact ct
 ·rw [jk lb]; simp [uGet]
 ·simp only [List.length_set];refine blk_join (b:=⟨bs[n].params,code',bs[n].term⟩) (k1.mono fun o ho=>gT o _ _ (icl o (by simp [ho])) (fun e=>f1 (by rw [←e]; simp [ho]))) (k2.mono fun o ho=>gT o _ _ (icl o (by simp [ho])) (fun e=>f1 (by rw [←e]; simp [ho]))) rfl hn ?_;rw [jv]; rfl
 ·obtain ⟨m1,m2,m3⟩:=List.nodup_append.1 nd3;have m4:=(List.nodup_cons.1 m2)
  have hcn:lid T.nx 0=T.nx:=by simp [lid]
  have hmm : ∀ o,o<T.nx→o∉i1++oc::i2→o∉i1++lid T.nx 0::i2:=fun o h1 h2 h3=>by
   simp only [List.mem_append,List.mem_cons,not_or] at h2 h3;rcases h3 with h3 | h3 | h3
   ·exact h2.1 h3
   ·omega
   ·exact h2.2.2 h3
  refine List.nodup_cons.2 ⟨?_,List.nodup_cons.2 ⟨?_,List.nodup_cons.2 ⟨?_,List.nodup_cons.2 ⟨hmm ob lb f1, ?_⟩⟩⟩⟩
  ·simp only [List.mem_cons,not_or];exact ⟨a1,a2,a3,hmm _ (olt c4) a4⟩
  ·simp only [List.mem_cons,not_or];exact ⟨b1,b2,hmm _ (olt cg) b3⟩
  ·simp only [List.mem_cons,not_or];exact ⟨e1,hmm _ (olt ct) e2⟩
  ·refine List.nodup_append.2 ⟨m1,List.nodup_cons.2 ⟨fun hm=>hnid (by simp [hm]),m4.2⟩,fun a ha b hb => ?_⟩;rcases List.mem_cons.1 hb with rfl | hb
   ·exact fun e=>hnid (by rw [←e]; simp [ha])
   ·exact m3 a ha b (by simp [hb])
 ·intro o ho;simp only [List.mem_cons,List.mem_append] at ho;rcases ho with h | h | h | h | h | h | h
  ·exact lt o (by simp [h])
  ·exact lt o (by simp [h])
  ·exact lt o (by simp [h])
  ·exact lt o (by simp [h])
  ·exact lt o (by simp [h])
  ·have:=old.1; simp only [lid] at h; omega
  ·exact lt o (by simp [h])
 ·intro b hb x hx;rcases List.mem_or_eq_of_mem_set hb with hb | rfl
  ·exact args b hb x hx
  ·exact args _ hmem x (hsub x hx)
 ·intro b hb;rcases List.mem_or_eq_of_mem_set hb with hb | rfl
  ·exact len b hb
  ·exact hlen'
theorem RInv.step {S:Store} {p4 pg ot ob:Nat} {hd:List V} {ts near:List Int} {bs:List Ss.Block} {T:Store} {cells:List V} {ids:List Nat} (h:RInv S p4 pg ot ob hd ts bs T cells ids) (hwT:T.Wf) {n:Nat} (hn:n<bs.length) :
  ∃ (oc:Nat),cells[n*6+1]? = some (.slice oc 0 bs[n].code.length)∧T.get oc=some (4,je jg bs[n].code)∧oc<T.nx∧ob<T.nx∧oc≠ob ∧ ∀ (all:Ss.Kept), ∃ ids',
   RInv S p4 pg ot ob hd ts (Ss.rstep near (bs,all) n).1 (St T [(ob,some (6,cells.set (n*6+1) (.slice (lid T.nx 0) 0 (Ss.rcode near n all bs[n].code).1.length)))] [some (4,je jg (Ss.rcode near n all bs[n].code).1)]) (cells.set (n*6+1) (.slice (lid T.nx 0) 0 (Ss.rcode near n all bs[n].code).1.length)) ids':=by
 obtain ⟨oc,h1,h2,h3,h4,h5,h6⟩:=h.put hwT hn;have hgd:bs.getD n default=bs[n]:=by rw [List.getD_eq_getElem?_getD,List.getElem?_eq_getElem hn]; rfl
 refine ⟨oc,h1,h2,h3,h4,h5,fun all => ?_⟩;obtain ⟨ids',h7⟩:=h6 (Ss.rcode near n all bs[n].code).1 (fun x hx=>Ss.code_sub _ _ _ _ x hx) (Nat.le_trans (jag _ _ _ _) (h.len _ (List.getElem_mem hn)));refine ⟨ids', ?_⟩;simp only [Ss.rstep,hgd];exact h7
end Go.Vw
