import Derived.Test.YtenhhokhkkfgbaaGreatC28
import Derived.Test.YtenhhokhkkfgbaaGreatC20
import Derived.Test.YtenhhokhkkfgbaaGreatC19
import Derived.Test.YtenhhokhkkfgbaaGreatC17
import Derived.Test.YtenhhokhkkfgbaaGreatC26
import Derived.Test.YtenhhokhkkfgbaaGreatC27
import Derived.Test.YtenhhokhkkfgbaaGreatC29
import Derived.Test.YtenhhokhkkfgbaaGreatC30
/-
  Part of the proof (texts BRun, SMoreQ, SLMore, SRSame, SRSame2, SLItself, BPure, BThin, BChkP, DChk, DKeep, DNeedL, DInv, DStep).
-/
set_option linter.unusedVariables false
set_option linter.unusedSimpArgs false
namespace Go.Vw
open Go.Proofs Go.RowKit
set_option maxRecDepth 10000
set_option maxHeartbeats 4000000
theorem vcalls_cut {P:Program} {f:FuncId} {args:List V} {S S':Store} {X:V} (hw:S'.Wf) (hn:S'.nx=S.nx) (hX:X.ids (fun o=>decide (o<S.nx))=true)
  (h:VCalls P f args S fun r T=>r=X∧S'.nx≤T.nx ∧ ∀ o,o<S'.nx→T.get o=S'.get o):VCalls P f args S fun r T=>r=X∧T=S':=by
 refine vcalls_postB (h.mono ?_)
 rintro r T ⟨rfl,h1,h2⟩
 refine ⟨r,S', ?_,rfl,rfl⟩
 rw [←hn]
 exact GhostB.cut hw ⟨h1,h2⟩ (by rw [hn]; exact hX)
def vToInt:V→Int
 | .int _ n=>n
 | _=>0
theorem map_vToInt (l:List Int):(l.map vint).map vToInt=l:=by
 rw [List.map_map]; exact (List.map_congr_left fun x _=>rfl).trans (List.map_id _)
def insOf (S:Store):List V→Ss.Ins
 | [.int _ op, .int _ n, .slice oa _ _,_]=>⟨op,n,((S.get oa).getD (0,[])).2.map vToInt,[]⟩
 | _=>default
theorem delG_sub {κ ρ:Type} (p:κ→ρ→Bool) (nx:κ→ρ→κ) : ∀ (rs:List ρ) (a:κ), ∀ r∈(delG p nx a rs).1,r∈rs
 | [],a,r,h=>by simp [delG] at h
 | x::rs,a,r,h=>by
  rw [delG] at h
  split at h
  ·exact List.mem_cons_of_mem _ (delG_sub p nx rs _ r h)
  ·rcases List.mem_cons.1 h with rfl | h
   ·simp
   ·exact List.mem_cons_of_mem _ (delG_sub p nx rs _ r h)
structure RunInv (S:Store) (p4 pg pr pm pf ot ob:Nat) (hd:List V) (ts near:List Int) (bs:List Ss.Block) (M:Ss.Far) (T:Store) (rs:List (List V)) (ids:List Nat):Prop where
 old:Agree S T
 c4:T.get p4=some (4,[V.nils,V.nils,V.nils,V.nils])
 cg:T.get pg=some (4,hd)
 cr:T.get pr=some (1,[vl vint near])
 cm:T.get pm=some (0,encFar M)
 cf:T.get pf=some (1,[.map pm])
 ct:T.get ot=some (1,ts.map vint)
 cb:T.get ob=some (6,rs.flatten)
 own:Rows T blkD encBlock bs rs ids
 nd:(p4::pg::pr::pf::pm::ot::ob::ids).Nodup
 lt : ∀ o∈p4::pg::pr::pf::pm::ot::ob::ids,S.nx≤o
 fits : ∀ b∈bs, ∀ x∈b.code,x.Fits∧(x.op=257→x.args≠[]∧x.n≤8589934592)
 len : ∀ b∈bs,b.code.length<2^62
end Go.Vw

namespace Ss
def NewX (ts ps:List Int) (x:Ins):Prop:=x=⟨256,9,[],[(ts.length:Int)]⟩ ∨ ∃ p∈ps,0≤p∧p<ts.length∧ts.getD p.toNat 0=126∧x=⟨124,0,[p,p],[(ts.length:Int)]⟩
theorem NewX.op {ts ps:List Int} {x:Ins} (h:NewX ts ps x):x.op≠258∧x.outs=[(ts.length:Int)]∧x.args.length≤2:=by
 rcases h with rfl | ⟨p,_,_,_,_,rfl⟩<;>simp
end Ss

namespace Go.Vw
open Go.Proofs Go.RowKit
set_option maxRecDepth 10000
set_option maxHeartbeats 2000000
end Go.Vw

namespace Go.Vw
open Go.Proofs Go.RowKit
set_option maxRecDepth 10000
set_option maxHeartbeats 8000000
theorem WInts_v (l m:List Int) (hl:l.length<2^63):VPure Tryz.prog 35 [vl vint l,vl vint m] (.bool (decide (l=m))):=by
 intro S
 rw [←eqF_dec]
 generalize hp:(fun x y:Int=>decide (x=y))=p
 by_cases hlm:l.length=m.length
 ·have hlm':(l.length:Int)=(m.length:Int):=by omega
  refine vcalls_start (c:=bodyOf Tryz.f35) Tryz.func35 rfl rfl (by simp [Tryz.ntmps35]) ?_
  rw [Tryz.ntmps35]
  intro hwf
  repeat (first|refine QG ?_|refine QX (r:=by conv=>lhs;simp[-List.map_set,QV,hlm,hlm']) (k:=?_))
  repeat refine QS ?_
  refine vw_loopAt [0,1,5] rfl (fun c σ S' => ∃ (k:Nat),k≤l.length∧c=l.length-k∧eqF p (l.drop k) (m.drop k)=eqF p l m∧σ=[(0,vl vint l),(1,vl vint m),(5,vnat k)]∧S'=St S [] []) l.length ?_ ?_
  ·exact ⟨0,by omega,rfl,rfl,by simp [Fr.only],rfl⟩
  ·rintro c σ T ⟨k,hk,rfl,hd,rfl,rfl⟩
   by_cases hkt:k<l.length
   ·have hkm:k<m.length:=by omega
    have hw:=wrapNat hkt hl
    have hst:eqF p (l.drop k) (m.drop k)=(p l[k] m[k]&&eqF p (l.drop (k+1)) (m.drop (k+1))):=by rw [List.drop_eq_getElem_cons hkt,List.drop_eq_getElem_cons hkm,eqF]
    obtain ⟨x,hx⟩ : ∃ x,l[k]=x:=⟨_,rfl⟩
    obtain ⟨y,hy⟩ : ∃ y,m[k]=y:=⟨_,rfl⟩
    rw [hx,hy] at hst
    by_cases hxy:x=y
    ·rw [show p x y=true by rw [←hp]; simp [hxy]] at hst
     repeat (first|refine QG ?_|refine QX (r:=by conv=>lhs;simp[-List.map_set,QV,hkt,hkm,hx,hy,hxy]) (k:=?_))
     show Again _ _ _ _ _ _ _
     exact again ⟨Nat.sub_lt_sub_left hkt (Nat.lt_succ_self k),k+1,hkt,rfl,by rw [←hd,hst]; rfl,by simp [Fr.only,hw],rfl⟩
    ·rw [show p x y=false by rw [←hp]; simp [hxy]] at hst
     repeat (first|refine QG ?_|refine QX (r:=by conv=>lhs;simp[-List.map_set,QV,hkt,hkm,hx,hy,hxy]) (k:=?_))
     exact done_pure hwf (by rw [←hd,hst]; rfl) rfl
   ·have e:l.drop k=[]:=by rw [List.drop_eq_nil_iff]; omega
    have e':m.drop k=[]:=by rw [List.drop_eq_nil_iff]; omega
    rw [e,e'] at hd
    have hkm : ¬ k<m.length:=by omega
    repeat (first|refine QG ?_|refine QX (r:=by conv=>lhs;simp[-List.map_set,QV,hkt,hkm]) (k:=?_))
    exact done_pure hwf (by rw [←hd]; rfl) rfl
 ·have hlm' : ¬ (l.length:Int)=(m.length:Int):=by omega
  have e:eqF p l m=false:=eqF_len hlm
  rw [e]
  refine vcalls_start (c:=bodyOf Tryz.f35) Tryz.func35 rfl rfl (by simp [Tryz.ntmps35]) ?_
  rw [Tryz.ntmps35]
  intro hwf
  repeat (first|refine QG ?_|refine QX (r:=by conv=>lhs;simp[-List.map_set,QV,hlm,hlm']) (k:=?_))
  exact done_pure hwf rfl rfl
end Go.Vw

namespace Go.Vw
open Go.Proofs Go.RowKit
set_option maxRecDepth 10000
set_option maxHeartbeats 4000000
end Go.Vw

namespace Ss
end Ss
namespace Go.Vw
open Go.Proofs Go.RowKit
set_option maxRecDepth 10000
set_option maxHeartbeats 2000000
theorem fn_ghostD {S:Store} {fi fo ts:List Int} {bs:List Ss.Block} {cells:List V} {ot ob n m:Nat} {ids:List Nat} (h:OwL S (reps n blkD) cells (flatC encBlock bs) ids) (hb:S.get ob=some (6,cells)) (hn:bs.length=n) (ht:S.get ot=some (1,ts.map vint)) (hm:ts.length=m) (hd:(ot::ob::ids).Nodup) :
  Ghost (.agg [vl vint fi,vl vint fo, .slice ot 0 m, .slice ob 0 n]) S (.agg [vl vint fi,vl vint fo,vl vint ts,vl encBlock bs]) (S.dels (ot::ob::ids)):=by
 subst hn
 subst hm
 refine ghost_agg ?_
 have hw:OwL S [.c, .c, .s (List.replicate 1 .c), .s blkD] [vl vint fi,vl vint fo, .slice ot 0 ts.length, .slice ob 0 bs.length] [vl vint fi,vl vint fo,vl vint ts,vl encBlock bs] (ot::ob::ids):=by
  refine .c rfl (.c rfl (OwL.slice (enc:=vint) (fun _=>rfl) (fun _=>rfl) ts (by rw [flatC_vint]; exact ht) ?_))
  have:=OwL.s (S:=S) (o:=ob) (tys:=blkD) (cells:=cells) (ys:=bs.map encBlock) (i:=ids) (j:=[]) hb (fun y hy=>(by
   obtain ⟨b,_,rfl⟩:=List.mem_map.1 hy
   exact ⟨by rw [encBlock_cells]; rfl,encBlock_closed b⟩)) (by rw [List.length_map,flatC_map]; exact h) .nil
  rw [List.length_map,List.append_nil] at this
  exact this
 exact hw.freeze hd S fun _ _=>rfl
end Go.Vw

namespace Ss
def emptyFn:Fn:=⟨⟨[],[]⟩,[],[]⟩
noncomputable def bceF (f:Fn):Fn:=pbce (Go.Vw.G.rNear (Go.Vw.G.nats (succs f.blocks))) (Go.Vw.G.order (Go.Vw.G.nats (succs f.blocks))) f
noncomputable def bceOut (e:Env) (f:Fn):Fn × Int:=if check e f then (bceF f,0) else (emptyFn,6)
end Ss
namespace Go.Vw
open Go.Proofs Go.RowKit
set_option maxRecDepth 10000
set_option maxHeartbeats 2000000
theorem empty_ghost (S:Store):Ghost (.agg [.nils, .nils, .nils, .nils]) S (encFn Ss.emptyFn) S:=by
 refine Ghost.agg_nl rfl fun i x y hx hy => ?_
 match i,hx,hy with
 | 0,hx,hy=>cases hx; cases hy; exact .inr ⟨rfl,rfl⟩
 | 1,hx,hy=>cases hx; cases hy; exact .inr ⟨rfl,rfl⟩
 | 2,hx,hy=>cases hx; cases hy; exact .inr ⟨rfl,rfl⟩
 | 3,hx,hy=>cases hx; cases hy; exact .inr ⟨rfl,rfl⟩
end Go.Vw

namespace Ss
structure ThinB (b c:Block):Prop where
 params:c.params=b.params
 term:c.term=b.term
 sub:c.code.Sublist b.code
 keep:c.code.filter (fun x=>decide (x.op≠257))=b.code.filter fun x=>decide (x.op≠257)
theorem ThinB.refl (b:Block):ThinB b b:=⟨rfl,rfl,List.Sublist.refl _,rfl⟩
theorem ThinB.trans {a b c:Block} (h:ThinB a b) (k:ThinB b c):ThinB a c:=⟨k.params.trans h.params,k.term.trans h.term,k.sub.trans h.sub,k.keep.trans h.keep⟩
def ThinL (l m:List Block):Prop:=m.length=l.length ∧ ∀ (i:Nat) (b c:Block),l[i]? = some b→m[i]? = some c→ThinB b c
theorem ThinL.refl (l:List Block):ThinL l l:=⟨rfl,fun i b c h1 h2=>by rw [h1] at h2; cases h2; exact .refl b⟩
theorem ThinL.trans {l m n:List Block} (h:ThinL l m) (k:ThinL m n):ThinL l n:=by
 refine ⟨k.1.trans h.1,fun i b c h1 h2 => ?_⟩
 have hi:i<m.length:=by rw [h.1]; exact (List.getElem?_eq_some_iff.1 h1).1
 exact (h.2 i b m[i] h1 (List.getElem?_eq_getElem hi)).trans (k.2 i m[i] c (List.getElem?_eq_getElem hi) h2)
theorem ThinL.fits {l m:List Block} (h:ThinL l m) (hl : ∀ b∈l,b.Fits) : ∀ c∈m,c.Fits:=by
 intro c hc
 obtain ⟨i,hi⟩:=List.mem_iff_getElem?.1 hc
 have hil:i<l.length:=by rw [←h.1]; exact (List.getElem?_eq_some_iff.1 hi).1
 obtain ⟨h1,h2,h3,h4⟩:=h.2 i l[i] c (List.getElem?_eq_getElem hil) hi
 obtain ⟨k1,⟨k2,k3⟩,k4⟩:=hl _ (List.getElem_mem hil)
 exact ⟨by rw [h1]; exact k1,⟨Nat.le_trans h3.length_le k2,fun x hx=>k3 x (h3.subset hx)⟩,by rw [h2]; exact k4⟩
theorem ThinL.count : ∀ {l m:List Block},ThinL l m→count m≤count l
 | [],m,h=>by
  have:m=[]:=List.eq_nil_of_length_eq_zero h.1
  subst this; exact Nat.le_refl _
 | b::l,[],h=>by simp [Ss.count]
 | b::l,c::m,h=>by
  have h1:=(h.2 0 b c rfl rfl).sub.length_le
  have h2:ThinL l m:=⟨by have:=h.1; simpa using this,fun i x y hx hy=>h.2 (i+1) x y (by simpa using hx) (by simpa using hy)⟩
  have:=ThinL.count h2
  simp only [Ss.count,List.map_cons,List.sum_cons] at this ⊢
  omega
end Ss

namespace Ss
inductive Drop:List Ins→List Ins→Prop
 | nil:Drop [] []
 | keep (x:Ins) {l m:List Ins} (h:Drop l m):Drop (x::l) (x::m)
 | drop (x:Ins) {l m:List Ins} (o:x.op=257) (h:Drop l m):Drop (x::l) m
theorem Drop.refl : ∀ l:List Ins,Drop l l
 | [] => .nil
 | x::l => .keep x (Drop.refl l)
theorem Drop.trans {a b c:List Ins} (h:Drop a b):Drop b c→Drop a c:=by
 induction h generalizing c with
 | nil=>exact fun k=>k
 | keep x h ih =>
  intro k
  cases k with
  | keep _ k=>exact .keep x (ih k)
  | drop _ o k=>exact .drop x o (ih k)
 | drop x o h ih=>exact fun k => .drop x o (ih k)
theorem Drop.pos {l m:List Ins} (h:Drop l m) : ∃ φ:Nat→Nat,(∀ k k',k≤k'→φ k≤φ k')∧(∀ k x,l[k]? = some x→x.op≠257→m[φ k]? = some x ∧ ∀ k',k<k'→φ k<φ k')∧(∀ j y,m[j]? = some y → ∃ k,l[k]? = some y∧φ k=j)∧φ l.length=m.length:=by
 induction h with
 | nil=>exact ⟨fun _=>0,fun _ _ _=>Nat.le_refl _,by simp,by simp,rfl⟩
 | @keep x l m h ih =>
  obtain ⟨φ,h1,h2,h3,h4⟩:=ih
  refine ⟨fun k=>match k with | 0=>0 | k+1=>φ k+1,fun k k' hk => ?_,fun k y hk ho => ?_,fun j y hj => ?_,by simp [h4]⟩
  ·cases k with
   | zero=>simp
   | succ k=>cases k' with
    | zero=>omega
    | succ k'=>have:=h1 k k' (by omega); simp only; omega
  ·cases k with
   | zero=>exact ⟨by simpa using hk,fun k' hk'=>by cases k' with | zero=>omega | succ k'=>simp⟩
   | succ k =>
    obtain ⟨g1,g2⟩:=h2 k y (by simpa using hk) ho
    exact ⟨by simpa using g1,fun k' hk'=>by cases k' with | zero=>omega | succ k'=>have:=g2 k' (by omega); simp only; omega⟩
  ·cases j with
   | zero=>exact ⟨0,by simpa using hj,rfl⟩
   | succ j =>
    obtain ⟨k,e1,e2⟩:=h3 j y (by simpa using hj)
    exact ⟨k+1,by simpa using e1,by simp [e2]⟩
 | @drop x l m o h ih =>
  obtain ⟨φ,h1,h2,h3,h4⟩:=ih
  refine ⟨fun k=>match k with | 0=>0 | k+1=>φ k,fun k k' hk => ?_,fun k y hk ho => ?_,fun j y hj => ?_,by simp [h4]⟩
  ·cases k with
   | zero=>simp
   | succ k=>cases k' with
    | zero=>omega
    | succ k'=>exact h1 k k' (by omega)
  ·cases k with
   | zero =>
    simp only [List.getElem?_cons_zero,Option.some.injEq] at hk
    subst hk; exact absurd o ho
   | succ k =>
    obtain ⟨g1,g2⟩:=h2 k y (by simpa using hk) ho
    exact ⟨g1,fun k' hk'=>by cases k' with | zero=>omega | succ k'=>exact g2 k' (by omega)⟩
  ·obtain ⟨k,e1,e2⟩:=h3 j y hj
   exact ⟨k+1,by simpa using e1,e2⟩
theorem Drop.outs {l m:List Ins} (h:Drop l m) (ho : ∀ x∈l,x.op=257→x.outs=[]):outsC m=outsC l:=by
 induction h with
 | nil=>rfl
 | @keep x l m h ih=>simp only [outsC,List.flatMap_cons] at ih ⊢; rw [ih fun y hy=>ho y (by simp [hy])]
 | @drop x l m o h ih =>
  simp only [outsC,List.flatMap_cons] at ih ⊢
  rw [ih fun y hy=>ho y (by simp [hy]),ho x (by simp) o,List.nil_append]
theorem Drop.tick {l m:List Ins} (h:Drop l m):(m.any fun x=>decide (x.op=258))=l.any fun x=>decide (x.op=258):=by
 induction h with
 | nil=>rfl
 | keep x h ih=>simp only [List.any_cons,ih]
 | drop x o h ih=>simp only [List.any_cons,ih,o]; simp
def DropL (l m:List Block):Prop:=m.length=l.length ∧ ∀ (i:Nat) (b c:Block),l[i]? = some b→m[i]? = some c→c.params=b.params∧c.term=b.term∧Drop b.code c.code
theorem DropL.refl (l:List Block):DropL l l:=⟨rfl,fun i b c h1 h2=>by rw [h1] at h2; cases h2; exact ⟨rfl,rfl, .refl _⟩⟩
theorem DropL.trans {l m n:List Block} (h:DropL l m) (k:DropL m n):DropL l n:=by
 refine ⟨k.1.trans h.1,fun i b c h1 h2 => ?_⟩
 have hi:i<m.length:=by rw [h.1]; exact (List.getElem?_eq_some_iff.1 h1).1
 obtain ⟨a1,a2,a3⟩:=h.2 i b m[i] h1 (List.getElem?_eq_getElem hi)
 obtain ⟨b1,b2,b3⟩:=k.2 i m[i] c (List.getElem?_eq_getElem hi) h2
 exact ⟨b1.trans a1,b2.trans a2,a3.trans b3⟩
theorem DropL.map {α:Type} {l m:List Block} (h:DropL l m) (F:Block→α) (hF : ∀ b c:Block,b∈l→c.params=b.params→c.term=b.term→Drop b.code c.code→F c=F b):m.map F=l.map F:=by
 apply List.ext_getElem?
 intro i
 rw [List.getElem?_map,List.getElem?_map]
 by_cases hi:i<l.length
 ·have hi2:i<m.length:=by rw [h.1]; exact hi
  rw [List.getElem?_eq_getElem hi,List.getElem?_eq_getElem hi2]
  obtain ⟨h1,h2,h3⟩:=h.2 i l[i] m[i] (List.getElem?_eq_getElem hi) (List.getElem?_eq_getElem hi2)
  simp only [Option.map_some,Option.some.injEq]
  exact hF _ _ (List.getElem_mem hi) h1 h2 h3
 ·rw [List.getElem?_eq_none (by rw [h.1]; omega),List.getElem?_eq_none (by omega)]
end Ss

namespace Ss
open Go.Vw.G
def phi {α:Type} (p:α→Bool) (l:List α) (k:Nat):Nat:=((l.take k).filter p).length
end Ss

namespace Ss
theorem dce_keeps (need:List Bool) : ∀ l:List Ins,(l.filter (dKeep need)).filter (fun x => !pure x.op)=l.filter fun x => !pure x.op
 | []=>rfl
 | x::l=>by
  have ih:=dce_keeps need l
  by_cases h:dKeep need x=true
  ·rw [List.filter_cons_of_pos h]
   by_cases hp:pure x.op=true
   ·rw [List.filter_cons_of_neg (by simp [hp]),List.filter_cons_of_neg (by simp [hp]),ih]
   ·rw [List.filter_cons_of_pos (by simp [hp]),List.filter_cons_of_pos (by simp [hp]),ih]
  ·have hp:pure x.op=true:=by
    unfold dKeep at h
    cases hpp:pure x.op with
    | true=>rfl
    | false=>simp [hpp] at h
   rw [List.filter_cons_of_neg h,List.filter_cons_of_neg (by simp [hp]),ih]
theorem dceOut_t {e:Env} {f:Fn} (h:check e f=true):dceOut e f=(dceF f,0):=by simp [dceOut,h]
theorem dceOut_f {e:Env} {f:Fn} (h:check e f=false):dceOut e f=(⟨⟨[],[]⟩,[],[]⟩,6):=by simp [dceOut,h]
end Ss

namespace Ss
theorem tab_in {f:Fn} (h:DOk f) : ∀ t,askTab f=t → ∀ l∈t, ∀ u∈l,InR f.types.length u:=by
 rintro t rfl l hl u hu
 obtain ⟨i,hi⟩:=List.mem_iff_getElem?.1 hl
 have hu':u∈(askTab f).getD ((i:Int)).toNat []:=by
  rw [List.getD_eq_getElem?_getD,Int.toNat_natCast,hi]; exact hu
 rcases tab_sound h (i:Int) u (by omega) hu' with ⟨b,hb,x,hx,_,_,hxu⟩ | ⟨b,hb,e,he,hq⟩
 ·exact h.args b hb x hx u hxu
 ·exact h.eargs b hb e he u (List.of_mem_zip hq).2
theorem dNeed_len {f:Fn} (h:DOk f):(dNeed f).length=f.types.length:=by
 rw [(dNeed_marks h).len,List.length_replicate]
end Ss
namespace Go.Vw
open Go.Proofs Go.RowKit
theorem Needed_v (e:Ss.Env) (f:Ss.Fn) (hf:f.Fits) (hc:Ss.check e f=true):VPure Tryz.prog 25 [encFn f] (vl V.bool (Ss.dNeed f)) :=
 Needed0_v f hf (Ss.check_small hc) (Ss.check_dok hc) (Ss.tab_in (Ss.check_dok hc))
end Go.Vw

namespace Go.Vw
open Go.Proofs Go.RowKit
set_option maxRecDepth 10000
/-! Blocks of one's own, of which one is turned at a time. -/
structure BInv (S H:Store) (hs:List Nat) (ob:Nat) (bs:List Ss.Block) (T:Store) (rs:List (List V)) (ids:List Nat):Prop where
 old:Agree S T
 hd : ∀ o∈hs,T.get o=H.get o
 al : ∀ o∈hs,(H.get o).isSome=true
 cb:T.get ob=some (6,rs.flatten)
 own:Rows T blkD encBlock bs rs ids
 nd:(hs++ob::ids).Nodup
 lt : ∀ o∈hs++ob::ids,S.nx≤o
theorem some_lt {T:Store} (hw:T.Wf) {o:Nat} (h:(T.get o).isSome=true):o<T.nx:=by
 cases hg:T.get o with
 | none=>rw [hg] at h; cases h
 | some c=>exact old_lt hw hg
theorem BInv.all_lt {S H:Store} {hs:List Nat} {ob:Nat} {bs:List Ss.Block} {T:Store} {rs:List (List V)} {ids:List Nat} (h:BInv S H hs ob bs T rs ids) (hw:T.Wf) : ∀ o∈hs++ob::ids,o<T.nx:=fun o ho=>by
 refine some_lt hw ?_
 rcases List.mem_append.1 ho with ho | ho
 ·rw [h.hd o ho]; exact h.al o ho
 ·rcases List.mem_cons.1 ho with rfl | ho
  ·rw [h.cb]; rfl
  ·exact h.own.owl.alive o ho
theorem BInv.at {S H:Store} {hs:List Nat} {ob:Nat} {bs:List Ss.Block} {T:Store} {rs:List (List V)} {ids:List Nat} (h:BInv S H hs ob bs T rs ids) (hw:T.Wf) {i:Nat} (hi:i<bs.length) :
  ∃ (r1:List (List V)) (r2:List (List V)) (i1 i2:List Nat) (op oc oe:Nat) (rc:List (List V)) (ce:List V) (ip ic ie:List Nat),rs=r1++[.slice op 0 bs[i].params.length, .slice oc 0 bs[i].code.length,vint bs[i].term.kind,vint bs[i].term.arg, .slice oe 0 bs[i].term.to.length,vl vint bs[i].term.args]::r2∧(∀ s∈r1,s.length=6)∧r1.length=i ∧
   T.get op=some (1,bs[i].params.map vint)∧T.get oc=some (4,rc.flatten)∧Rows T insD encIns bs[i].code rc ic∧T.get oe=some (2,ce)∧OwL T (reps bs[i].term.to.length edgeD) ce (flatC encEdge bs[i].term.to) ie ∧
   ids=i1++((op::oc::(ic++oe::ie))++i2)∧(hs++ob::(op::oc::(ic++oe::ie))).Nodup ∧
   ∀ (T':Store) (r':List V) (b':Ss.Block) (ii':List Nat),T.nx≤T'.nx→(∀ o,o<T.nx→o≠ob→o∉op::oc::(ic++oe::ie)→T'.get o=T.get o)→T'.get ob=some (6,(r1++r'::r2).flatten)→OwL T' blkD r' (encBlock b').cells ii'→ii'.Nodup→(∀ o∈ii',o∈op::oc::(ic++oe::ie)∨T.nx≤o) →
    BInv S H hs ob (bs.set i b') T' (r1++r'::r2) (i1++(ii'++i2)):=by
 have hlt:=h.all_lt hw
 obtain ⟨old,hd,al,cb,own,nd,lt⟩:=h
 obtain ⟨r1,r,r2,i1,ii,i2,rfl,hl,rfl,hb,hput⟩:=own.at (List.getElem?_eq_getElem hi)
 have hr6:=own.len.2
 obtain ⟨op,oc,oe,rc,ce,ip,ic,ie,rfl,rfl,hop,hoc,hrc,hoe,hie⟩:=block_row hb
 have sub:List.Sublist (op::oc::(ic++oe::ie)) (i1++((op::oc::(ic++oe::ie))++i2)):=(List.sublist_append_left _ _).trans (List.sublist_append_right _ _)
 refine ⟨r1,r2,i1,i2,op,oc,oe,rc,ce,ip,ic,ie,rfl,fun s hs=>hr6 s (by simp [hs]),hl,hop,hoc,hrc,hoe,hie,rfl,List.Sublist.nodup ((List.Sublist.refl hs).append (sub.cons_cons ob)) nd, ?_⟩
 intro T' r' b' ii' hnx hk hcb how hnd hin
 generalize op::oc::(ic++oe::ie)=ii at *
 have cnt : ∀ o,(hs++ob::(i1++(ii++i2))).count o≤1:=fun o=>List.nodup_iff_count.1 nd o
 simp only [List.count_append,List.count_cons] at cnt
 have pos : ∀ {o:Nat} {l:List Nat},o∈l→1≤l.count o:=fun h=>List.count_pos_iff.2 h
 have nob : ∀ o,o∈hs∨o∈i1∨o∈ii∨o∈i2→o≠ob:=by
  rintro o ho rfl
  have c:=cnt o
  simp only [beq_self_eq_true,if_true] at c
  rcases ho with ho | ho | ho | ho<;>(have:=pos ho; omega)
 have nii : ∀ o,o∈hs∨o∈i1∨o∈i2→o∉ii:=by
  intro o ho hm
  have c:=cnt o
  have:=pos hm
  rcases ho with ho | ho | ho<;>(have:=pos ho; omega)
 have keep : ∀ o,o∈hs∨o∈i1∨o∈i2→T'.get o=T.get o:=fun o ho=>by
  refine hk o (hlt o ?_) (nob o ?_) (nii o ho)
  ·rcases ho with ho | ho | ho<;>simp [ho]
  ·rcases ho with ho | ho | ho<;>simp [ho]
 refine ⟨⟨Nat.le_trans old.1 hnx,fun o ho => ?_⟩,fun o ho=>(keep o (.inl ho)).trans (hd o ho),al,hcb,hput T' r' b' ii' (fun o ho=>keep o ?_) how, ?_,fun o ho => ?_⟩
 ·rw [hk o (Nat.lt_of_lt_of_le ho old.1) ?_ ?_]
  ·exact old.2 o ho
  ·rintro rfl
   have:=lt o (by simp); omega
  ·intro hm
   have:=lt o (by simp [hm]); omega
 ·rcases List.mem_append.1 ho with ho | ho
  ·exact .inr (.inl ho)
  ·exact .inr (.inr ho)
 ·refine List.nodup_iff_count.2 fun o => ?_
  simp only [List.count_append,List.count_cons]
  have c:=cnt o
  by_cases hm:o∈ii'
  ·have h1:=List.nodup_iff_count.1 hnd o
   rcases hin o hm with hm2 | hge
   ·have:=pos hm2; omega
   ·have z1:hs.count o=0:=List.count_eq_zero.2 fun h=>by have:=hlt o (by simp [h]); omega
    have z2:i1.count o=0:=List.count_eq_zero.2 fun h=>by have:=hlt o (by simp [h]); omega
    have z3:i2.count o=0:=List.count_eq_zero.2 fun h=>by have:=hlt o (by simp [h]); omega
    have z4:(if (ob==o)=true then 1 else 0)=0:=by
     have:=hlt ob (by simp)
     rw [if_neg]
     simp only [beq_iff_eq]; omega
    omega
  ·have:ii'.count o=0:=List.count_eq_zero.2 hm
   omega
 ·simp only [List.mem_append,List.mem_cons] at ho
  rcases ho with ho | ho | ho | ho | ho
  ·exact lt o (by simp [ho])
  ·exact lt o (by simp [ho])
  ·exact lt o (by simp [ho])
  ·rcases hin o ho with h | h
   ·exact lt o (by simp [h])
   ·have:=old.1; omega
  ·exact lt o (by simp [ho])
end Go.Vw

namespace Go.Vw
open Go.Proofs Go.RowKit
set_option maxRecDepth 10000
set_option maxHeartbeats 2000000
def outOf (q:Int→List Int→Bool) (S:Store):List V→Bool
 | [.int _ op,_,_, .slice ou _ _]=>q op (((S.get ou).getD (0,[])).2.map vToInt)
 | _=>false
theorem del_filter {α:Type} (q:α→Bool) : ∀ l:List α,delG (fun (_:Unit) x => !q x) (fun _ _=>()) () l=(l.filter q,())
 | []=>rfl
 | x::l=>by
  have ih:=del_filter q l
  by_cases h:q x=true
  ·simp [delG,ih,h]
  ·have h':q x=false:=by simpa using h
   simp [delG,ih,h']
theorem DelCode_v (T:Store) (q:Int→List Int→Bool) (code:List Ss.Ins) (rs:List (List V)) (oc:Nat) (ic:List Nat) (hcl:code.length<2^62) (hr:Rows T insD encIns code rs ic) (goc:T.get oc=some (4,rs.flatten)) (hdj:oc∉ic) (hw:T.Wf) {fid:FuncId} {caps:List V} (hc:callable Tryz.prog fid=true)
  (hclo : ∀ (S':Store) (x:Ss.Ins) (oa ou:Nat),x∈code→S'.get ou=some (1,x.outs.map vint)→VCalls Tryz.prog fid (.agg [vint x.op,vu x.n, .slice oa 0 x.args.length, .slice ou 0 x.outs.length]::caps) S' fun v T'=>v = .bool (!q x.op x.outs)∧T'=S') :
  ∃ rs' ic',Rows T insD encIns (code.filter fun x=>q x.op x.outs) rs' ic'∧ic'.Sublist ic∧(T.upd oc (4,rs'.flatten)).Wf∧VCalls Tryz.prog 27 [.slice oc 0 code.length, .func fid caps] T fun v T'=>v = .slice oc 0 (code.filter fun x=>q x.op x.outs).length∧T'=T.upd oc (4,rs'.flatten):=by
 obtain ⟨hrl,hr4⟩:=hr.len
 have lt : ∀ {o c},T.get o=some c→o<T.nx:=fun h=>old_lt hw h
 obtain ⟨icn,hdel1,hdel2,hdel3⟩:=hr.del (fun (_:Unit) r => !outOf q T r) (fun _ _=>()) (fun (_:Unit) x => !q x.op x.outs) (fun _ _=>()) (fun x r ii hxm ho hi M=>by
  obtain ⟨oa,ou,rfl,rfl,h1,h2⟩:=ins_row ho
  refine ⟨?_,rfl⟩
  simp only [outOf,vint,h2,Option.getD_some]
  rw [map_vToInt]) ()
 rw [del_filter (fun x:Ss.Ins=>q x.op x.outs)] at hdel1
 simp only at hdel1
 have hdl:=(hdel1.len).1
 refine ⟨_,icn,hdel1,hdel2, ?_⟩
 generalize hres:delG (fun (_:Unit) r => !outOf q T r) (fun _ _=>()) () rs=res at *
 have hresub : ∀ r∈res.1,r∈rs:=by rw [←hres]; exact delG_sub _ _ _ _
 have hw':(T.upd oc (4,res.1.flatten)).Wf:=by
  refine upd_wf hw (lt goc) ?_
  have:=hw.ids oc _ goc
  simp only [idsL_eq,List.all_eq_true,List.mem_flatten] at this ⊢
  rintro x ⟨r,hr1,hr2⟩
  exact this x ⟨r,hresub r hr1,hr2⟩
 have hrowsin : ∀ r∈rs, ∃ x∈code, ∃ oa ou,r=[vint x.op,vu x.n, .slice oa 0 x.args.length, .slice ou 0 x.outs.length]∧T.get ou=some (1,x.outs.map vint)∧ou∈ic:=by
  clear hres hdel1 hdel2 hdel3 hdl hresub hw' hr4 hrl goc hdj hcl hclo
  induction hr with
  | nil=>simp
  | cons h t ih =>
   intro r hr
   rcases List.mem_cons.1 hr with rfl | hr
   ·obtain ⟨oa,ou,h1,h2,h3,h4⟩:=ins_row h
    exact ⟨_,by simp,oa,ou,h1,h4,by simp [h2]⟩
   ·obtain ⟨x,hx,oa,ou,h1,h2,h3⟩:=ih r hr
    exact ⟨x,by simp [hx],oa,ou,h1,h2,by simp [h3]⟩
 refine ⟨hw',vcalls_cut hw' rfl (by simp [V.ids,lt goc]) ?_⟩
 have cd:=Delete_v (fun (_:Unit) T' => ∀ o,o<T.nx→o≠oc→T'.get o=T.get o) (fun _ r => !outOf q T r) (fun _ _=>()) (oc:=oc) (N:=T.nx) (rows:=rs) (fid:=fid) (caps:=caps) hc (fun r hr=>hr4 r hr) (by omega) (lt goc)
  (fun a T1 T2 h1 h2 o ho hne=>(h1 o ho hne).trans (h2 o ho hne)) (fun a T1 r hrm hI hT=>by
   obtain ⟨x,hxm,oa,ou,rfl,ha,hai⟩:=hrowsin r hrm
   have hoc:ou≠oc:=fun e=>hdj (e▸hai)
   have e:outOf q T [vint x.op,vu x.n, .slice oa 0 x.args.length, .slice ou 0 x.outs.length]=q x.op x.outs:=by
    simp only [outOf,vint,ha,Option.getD_some]
    rw [map_vToInt]
   rw [e]
   refine (hclo T1 x oa ou hxm ((hI ou (lt ha) hoc).trans ha)).mono ?_
   rintro v T' ⟨rfl,rfl⟩
   exact ⟨rfl,hI,Nat.le_refl _,fun o _ _=>rfl⟩) (a:=()) (S:=T) (fun o ho hne=>rfl) (Nat.le_refl _) goc
 rw [hres] at cd
 rw [hrl] at cd
 refine cd.mono ?_
 rintro v T' ⟨rfl,h1,h2,h3⟩
 refine ⟨by rw [hdl],h2,fun o ho => ?_⟩
 have ho':o<T.nx:=ho
 rw [upd_at]
 split
 ·rename_i e; subst e; exact h3
 ·rename_i e
  rw [h1 o ho' e]
theorem edge_row {T:Store} {e:Ss.Edge} {r:List V} {ii:List Nat} (h:OwL T edgeD r (encEdge e).cells ii) : ∃ oa,r=[vint e.to, .slice oa 0 e.args.length]∧ii=[oa]∧T.get oa=some (1,e.args.map vint):=by
 rw [encEdge_cells] at h
 cases h with
 | c h1 h =>
  obtain ⟨o,rfl,h2,h3⟩:=row_row (l:=e.args) (by rw [cells_vl]; exact h)
  exact ⟨o,rfl,h2,h3⟩
theorem edge_mk {T:Store} {e:Ss.Edge} {oa:Nat} (h:T.get oa=some (1,e.args.map vint)):OwL T edgeD [vint e.to, .slice oa 0 e.args.length] (encEdge e).cells [oa]:=by
 rw [encEdge_cells]
 have:=row_mk h
 rw [cells_vl] at this
 exact .c (x:=vint e.to) rfl this
section
variable {S H:Store} {hs:List Nat} {ob:Nat} {bs:List Ss.Block} {T:Store} {rs:List (List V)} {ids:List Nat} {i:Nat}
theorem nodup_ne {hs:List Nat} {ob op oc oe:Nat} {ic ie:List Nat} (hd:(hs++ob::(op::oc::(ic++oe::ie))).Nodup):(∀ o∈hs,o≠ob∧o≠op∧o≠oc∧o≠oe∧o∉ic∧o∉ie)∧ob≠op∧ob≠oc∧ob≠oe∧ob∉ic∧ob∉ie∧op≠oc∧op≠oe∧op∉ic∧op∉ie∧oc≠oe∧oc∉ic∧oc∉ie∧oe∉ic∧oe∉ie∧(∀ o∈ic,o∉ie)∧ic.Nodup∧ie.Nodup:=by
 obtain ⟨h1,h2,h3⟩:=List.nodup_append.1 hd
 simp only [List.nodup_cons,List.mem_cons,List.mem_append,not_or,List.nodup_append] at h2
 obtain ⟨⟨a1,a2,a3,a4,a5⟩,⟨b1,b2,b3,b4⟩,⟨c1,c2,c3⟩,d1,⟨e1,e2⟩,d3⟩:=h2
 refine ⟨fun o ho=>⟨h3 o ho ob (by simp),h3 o ho op (by simp),h3 o ho oc (by simp),h3 o ho oe (by simp),fun hm=>h3 o ho o (by simp [hm]) rfl,fun hm=>h3 o ho o (by simp [hm]) rfl⟩,a1,a2,a4,a3,a5,b1,b3,b2,b4,c2,c1,c3, ?_,e1, ?_,d1,e2⟩
 ·exact fun hm=>d3 oe hm oe (by simp) rfl
 ·exact fun o ho hm=>d3 o ho o (by simp [hm]) rfl
theorem BInv.code (h:BInv S H hs ob bs T rs ids) (hw:T.Wf) (hi:i<bs.length) (q:Int→List Int→Bool) (hcl:bs[i].code.length<2^62) {fid:FuncId} {caps:List V} (hc:callable Tryz.prog fid=true)
  (hclo : ∀ (S':Store) (x:Ss.Ins) (oa ou:Nat),x∈bs[i].code→S'.get ou=some (1,x.outs.map vint)→VCalls Tryz.prog fid (.agg [vint x.op,vu x.n, .slice oa 0 x.args.length, .slice ou 0 x.outs.length]::caps) S' fun v T'=>v = .bool (!q x.op x.outs)∧T'=S') :
  ∃ (oc:Nat) (T5:Store) (rs':List (List V)) (ids':List Nat),rs.flatten[i*6+1]? = some (.slice oc 0 bs[i].code.length)∧VCalls Tryz.prog 27 [.slice oc 0 bs[i].code.length, .func fid caps] T (fun v T'=>v = .slice oc 0 (bs[i].code.filter fun x=>q x.op x.outs).length∧T'=T5) ∧
   T5.Wf∧T5.get ob=T.get ob∧T5.nx=T.nx∧(∀ o∈hs,T5.get o=T.get o)∧rs'.flatten=rs.flatten.set (i*6+1) (.slice oc 0 (bs[i].code.filter fun x=>q x.op x.outs).length) ∧
   BInv S H hs ob (bs.set i ⟨bs[i].params,bs[i].code.filter fun x=>q x.op x.outs,bs[i].term⟩) (T5.upd ob (6,rs'.flatten)) rs' ids':=by
 obtain ⟨r1,r2,i1,i2,op,oc,oe,rc,ce,ip,ic,ie,rfl,h6,hl,hop,hoc,hrc,hoe,hie,rfl,hnd,hput⟩:=h.at hw hi
 obtain ⟨n0,n1,n2,n3,n4,n5,n6,n7,n8,n9,n10,n11,n12,n13,n14,n15,n16,n17⟩:=nodup_ne hnd
 obtain ⟨rc',ic',q1,q2,qw,q3⟩:=DelCode_v T q bs[i].code rc oc ic hcl hrc hoc n11 hw hc hclo
 have hfs:=flat_set (m:=6) (r:=[V.slice op 0 bs[i].params.length, .slice oc 0 bs[i].code.length,vint bs[i].term.kind,vint bs[i].term.arg, .slice oe 0 bs[i].term.to.length,vl vint bs[i].term.args]) (r2:=r2) (q:=1) (w := .slice oc 0 (bs[i].code.filter fun x=>q x.op x.outs).length) h6 hl (by simp)
 refine ⟨oc,T.upd oc (4,rc'.flatten),_,_,flat_mid h6 hl rfl,q3,qw,upd_old n2,rfl,fun o ho=>upd_old (n0 o ho).2.2.1,hfs.symm,hput _ _ ⟨bs[i].params,_,bs[i].term⟩ (op::oc::(ic'++oe::ie)) (Nat.le_refl _) ?_ upd_new ?_ ?_ ?_⟩
 ·intro o _ h1 h2
  simp only [List.mem_cons,not_or] at h2
  rw [upd_old h1,upd_old h2.2.1]
 ·have g : ∀ o,o≠ob→o≠oc→((T.upd oc (4,rc'.flatten)).upd ob (6,(r1++List.set [V.slice op 0 bs[i].params.length, .slice oc 0 bs[i].code.length,vint bs[i].term.kind,vint bs[i].term.arg, .slice oe 0 bs[i].term.to.length,vl vint bs[i].term.args] 1 (.slice oc 0 (bs[i].code.filter fun x=>q x.op x.outs).length)::r2).flatten)).get o=T.get o:=fun o h1 h2=>by rw [upd_old h1,upd_old h2]
  refine block_mk (b:=⟨bs[i].params,bs[i].code.filter fun x=>q x.op x.outs,bs[i].term⟩) (rs:=rc') (ce:=ce) ?_ ?_ ?_ ?_ ?_
  ·rw [g op (Ne.symm n1) n6]; exact hop
  ·rw [upd_old (Ne.symm n2),upd_new]
  ·exact q1.mono fun o ho=>g o (fun e=>n4 (e▸q2.subset ho)) (fun e=>n11 (e▸q2.subset ho))
  ·rw [g oe (Ne.symm n3) (Ne.symm n10)]; exact hoe
  ·exact hie.mono fun o ho=>g o (fun e=>n5 (e▸ho)) (fun e=>n12 (e▸ho))
 ·refine List.Sublist.nodup (.cons_cons _ (.cons_cons _ (q2.append (List.Sublist.refl _)))) (List.nodup_append.1 hnd).2.1.of_cons
 ·intro o ho
  refine .inl ?_
  simp only [List.mem_cons,List.mem_append] at ho ⊢
  rcases ho with h | h | h | h
  ·exact .inl h
  ·exact .inr (.inl h)
  ·exact .inr (.inr (.inl (q2.subset h)))
  ·exact .inr (.inr (.inr h))
theorem BInv.pars (h:BInv S H hs ob bs T rs ids) (hw:T.Wf) (hi:i<bs.length) : ∃ op,rs.flatten[i*6]? = some (.slice op 0 bs[i].params.length)∧T.get op=some (1,bs[i].params.map vint)∧ob≠op∧(∀ o∈hs,o≠op) ∧ ∀ l:List Int, ∃ rs' ids',rs'.flatten=rs.flatten.set (i*6) (.slice op 0 l.length) ∧
  BInv S H hs ob (bs.set i ⟨l,bs[i].code,bs[i].term⟩) ((T.upd op (1,l.map vint)).upd ob (6,rs'.flatten)) rs' ids':=by
 obtain ⟨r1,r2,i1,i2,op,oc,oe,rc,ce,ip,ic,ie,rfl,h6,hl,hop,hoc,hrc,hoe,hie,rfl,hnd,hput⟩:=h.at hw hi
 obtain ⟨n0,n1,n2,n3,n4,n5,n6,n7,n8,n9,n10,n11,n12,n13,n14,n15,n16,n17⟩:=nodup_ne hnd
 refine ⟨op,flat_mid h6 hl (q:=0) rfl,hop,n1,fun o ho=>(n0 o ho).2.1,fun l => ?_⟩
 have hfs:=flat_set (m:=6) (r:=[V.slice op 0 bs[i].params.length, .slice oc 0 bs[i].code.length,vint bs[i].term.kind,vint bs[i].term.arg, .slice oe 0 bs[i].term.to.length,vl vint bs[i].term.args]) (r2:=r2) (q:=0) (w := .slice op 0 l.length) h6 hl (by simp)
 refine ⟨_,_,hfs.symm,hput _ _ ⟨l,bs[i].code,bs[i].term⟩ (op::oc::(ic++oe::ie)) (Nat.le_refl _) ?_ upd_new ?_ (List.nodup_append.1 hnd).2.1.of_cons fun o ho => .inl ho⟩
 ·intro o _ h1 h2
  simp only [List.mem_cons,not_or] at h2
  rw [upd_old h1,upd_old h2.1]
 ·have g : ∀ o,o≠ob→o≠op→((T.upd op (1,l.map vint)).upd ob (6,(r1++List.set [V.slice op 0 bs[i].params.length, .slice oc 0 bs[i].code.length,vint bs[i].term.kind,vint bs[i].term.arg, .slice oe 0 bs[i].term.to.length,vl vint bs[i].term.args] 0 (.slice op 0 l.length)::r2).flatten)).get o=T.get o:=fun o h1 h2=>by rw [upd_old h1,upd_old h2]
  refine block_mk (b:=⟨l,bs[i].code,bs[i].term⟩) (rs:=rc) (ce:=ce) ?_ ?_ ?_ ?_ ?_
  ·rw [upd_old (Ne.symm n1),upd_new]
  ·rw [g oc (Ne.symm n2) (Ne.symm n6)]; exact hoc
  ·exact hrc.mono fun o ho=>g o (fun e=>n4 (e▸ho)) (fun e=>n8 (e▸ho))
  ·rw [g oe (Ne.symm n3) (Ne.symm n7)]; exact hoe
  ·exact hie.mono fun o ho=>g o (fun e=>n5 (e▸ho)) (fun e=>n9 (e▸ho))
theorem BInv.to (h:BInv S H hs ob bs T rs ids) (hw:T.Wf) (hi:i<bs.length) : ∃ (oe:Nat) (ce:List V),rs.flatten[i*6+4]? = some (.slice oe 0 bs[i].term.to.length)∧T.get oe=some (2,ce):=by
 obtain ⟨r1,r2,i1,i2,op,oc,oe,rc,ce,ip,ic,ie,rfl,h6,hl,hop,hoc,hrc,hoe,hie,rfl,hnd,hput⟩:=h.at hw hi
 exact ⟨oe,ce,flat_mid h6 hl (q:=4) rfl,hoe⟩
theorem BInv.edge (h:BInv S H hs ob bs T rs ids) (hw:T.Wf) (hi:i<bs.length) {k:Nat} (hk:k<bs[i].term.to.length) : ∃ (oe:Nat) (ce:List V) (oa:Nat),rs.flatten[i*6+4]? = some (.slice oe 0 bs[i].term.to.length)∧T.get oe=some (2,ce)∧ce.length=bs[i].term.to.length*2∧ce[k*2]? = some (vint bs[i].term.to[k].to)∧ce[k*2+1]? = some (.slice oa 0 bs[i].term.to[k].args.length)∧T.get oa=some (1,bs[i].term.to[k].args.map vint)∧oe<T.nx∧ob≠oe∧(∀ o∈hs,o≠oe) ∧
  ∀ (T':Store) (on:Nat) (l:List Int),T.nx≤on→T.nx≤T'.nx→(∀ o,o<T.nx→o≠oe→T'.get o=T.get o)→T'.get oe=some (2,ce.set (k*2+1) (.slice on 0 l.length))→T'.get on=some (1,l.map vint) → ∃ ids',
   BInv S H hs ob (bs.set i ⟨bs[i].params,bs[i].code,⟨bs[i].term.kind,bs[i].term.arg,bs[i].term.to.set k ⟨bs[i].term.to[k].to,l⟩,bs[i].term.args⟩⟩) T' rs ids':=by
 obtain ⟨r1,r2,i1,i2,op,oc,oe,rc,ce,ip,ic,ie,rfl,h6,hl,hop,hoc,hrc,hoe,hie,rfl,hnd,hput⟩:=h.at hw hi
 have hcb:=h.cb
 have hlt:=h.all_lt hw
 obtain ⟨n0,n1,n2,n3,n4,n5,n6,n7,n8,n9,n10,n11,n12,n13,n14,n15,n16,n17⟩:=nodup_ne hnd
 obtain ⟨res,rfl,hrl,hres⟩:=rows_of (enc:=encEdge) (tys:=edgeD) (fun x=>by rw [encEdge_cells]; rfl) hie
 obtain ⟨e1,e,e2,j1,jj,j2,rfl,hel,rfl,hrow,hep⟩:=hres.at (List.getElem?_eq_getElem hk)
 have he2:=hres.len.2
 have he1 : ∀ s∈e1,s.length=2:=fun s hs=>he2 s (by simp [hs])
 obtain ⟨oa,rfl,rfl,hoa⟩:=edge_row hrow
 refine ⟨oe,_,oa,flat_mid h6 hl (q:=4) rfl,hoe, ?_, ?_, ?_,hoa,old_lt hw hoe,n3,fun o ho=>(n0 o ho).2.2.2.1, ?_⟩
 ·rw [flat_length he2,hrl]; rfl
 ·exact flat_mid he1 hel (q:=0) rfl
 ·exact flat_mid he1 hel (q:=1) rfl
 intro T' on l hon hnx hkeep hge hgn
 have hfs:=flat_set (m:=2) (r:=[vint bs[i].term.to[k].to,V.slice oa 0 bs[i].term.to[k].args.length]) (r2:=e2) (q:=1) (w := .slice on 0 l.length) he1 hel (by simp)
 rw [hfs] at hge
 have hin : ∀ o∈op::oc::(ic++oe::(j1++([oa]++j2))),o<T.nx:=fun o ho=>hlt o (by
  simp only [List.mem_append,List.mem_cons,List.not_mem_nil,or_false] at ho ⊢
  rcases ho with h | h | h | h | h | h | h<;>simp [h])
 have hno:on∉op::oc::(ic++oe::(j1++([oa]++j2))):=fun hm=>by have:=hin on hm; omega
 have g : ∀ o,o∈op::oc::(ic++oe::(j1++([oa]++j2)))→o≠oe→T'.get o=T.get o:=fun o ho hne=>hkeep o (hin o ho) hne
 have:=hput T' [V.slice op 0 bs[i].params.length, .slice oc 0 bs[i].code.length,vint bs[i].term.kind,vint bs[i].term.arg, .slice oe 0 bs[i].term.to.length,vl vint bs[i].term.args] ⟨bs[i].params,bs[i].code,⟨bs[i].term.kind,bs[i].term.arg,bs[i].term.to.set k ⟨bs[i].term.to[k].to,l⟩,bs[i].term.args⟩⟩ (op::oc::(ic++oe::(j1++([on]++j2)))) hnx ?_ ?_ ?_ ?_ ?_
 ·exact ⟨_,this⟩
 ·intro o ho _ h2
  refine hkeep o ho ?_
  rintro rfl
  exact h2 (by simp)
 ·rw [hkeep ob (hlt ob (by simp)) n3]; exact hcb
 ·have hr':=hep T' [vint bs[i].term.to[k].to,V.slice on 0 l.length] ⟨bs[i].term.to[k].to,l⟩ [on] (fun o ho=>g o (by
   rcases List.mem_append.1 ho with h | h<;>simp [h]) (fun e=>n14 (e▸by rcases List.mem_append.1 ho with h | h<;>simp [h]))) (edge_mk (e:=⟨bs[i].term.to[k].to,l⟩) hgn)
  have hbm:=block_mk (T:=T') (b:=⟨bs[i].params,bs[i].code,⟨bs[i].term.kind,bs[i].term.arg,bs[i].term.to.set k ⟨bs[i].term.to[k].to,l⟩,bs[i].term.args⟩⟩) (op:=op) (oc:=oc) (oe:=oe) (rs:=rc) (ic:=ic) (ce:=(e1++[vint bs[i].term.to[k].to,V.slice on 0 l.length]::e2).flatten) (ie:=j1++([on]++j2)) (by rw [g op (by simp) n7]; exact hop) (by rw [g oc (by simp) n10]; exact hoc)
   (hrc.mono fun o ho=>g o (by simp [ho]) (fun e=>n13 (e▸ho))) hge hr'.owl
  simpa using hbm
 ·have hd2:=(List.nodup_append.1 hnd).2.1.of_cons
  refine List.nodup_iff_count.2 fun o => ?_
  have c:=List.nodup_iff_count.1 hd2 o
  have c0:on=o→(op::oc::(ic++oe::(j1++([oa]++j2)))).count o=0:=fun e=>List.count_eq_zero.2 (e▸hno)
  simp only [List.count_append,List.count_cons,List.count_nil] at c c0 ⊢
  by_cases e:on=o
  ·have:=c0 e
   subst e
   simp only [beq_self_eq_true,if_true]
   omega
  ·have:(on==o)=false:=by simpa using e
   rw [this]
   simp only [Bool.false_eq_true,if_false]
   omega
 ·intro o ho
  simp only [List.mem_append,List.mem_cons,List.not_mem_nil,or_false] at ho ⊢
  rcases ho with h | h | h | h | h | h | h
  ·exact .inl (.inl h)
  ·exact .inl (.inr (.inl h))
  ·exact .inl (.inr (.inr (.inl h)))
  ·exact .inl (.inr (.inr (.inr (.inl h))))
  ·exact .inl (.inr (.inr (.inr (.inr (.inl h)))))
  ·subst h; exact .inr hon
  ·exact .inl (.inr (.inr (.inr (.inr (.inr (.inr h))))))
end
end Go.Vw
