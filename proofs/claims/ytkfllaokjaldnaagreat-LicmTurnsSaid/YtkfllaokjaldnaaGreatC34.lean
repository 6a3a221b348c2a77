import Derived.Test.YtkfllaokjaldnaaGreatC24
import Derived.Test.YtkfllaokjaldnaaGreatC26
import Derived.Test.YtkfllaokjaldnaaGreatC27
import Derived.Test.YtkfllaokjaldnaaGreatC33
import Derived.Test.YtkfllaokjaldnaaGreatC28
import Derived.Test.YtkfllaokjaldnaaGreatC15
import Derived.Test.YtkfllaokjaldnaaGreatC32
import Derived.Test.YtkfllaokjaldnaaGreatC12
/-
  Part of the proof (texts DOkc, DRun, DNeedV, DRMark, DPureR, DRRnd, BThin, BChkP, DChk, DKeep, DNeedL, DRNeed, DStep, DDelI, DClo, DRunV, DPure, ERun, DRPure, LBin).
-/
set_option linter.unusedVariables false
set_option linter.unusedSimpArgs false
namespace Ss
theorem total_one {e:Env} {op n out:Int} (h:total op=true) : ∃ t,(form e op n out).outs=[t]:=by
 have h1:op≠258:=fun e=>by subst e; revert h; decide
 have h2:op≠16:=fun e=>by subst e; revert h; decide
 have h3:op≠35:=fun e=>by subst e; revert h; decide
 have h4:op≠36:=fun e=>by subst e; revert h; decide
 have h5:op≠256:=fun e=>by subst e; revert h; decide
 have h6:op≠27:=fun e=>by subst e; revert h; decide
 have e0:form e op n out=formNum e op:=by simp [form,h1,h2,h3,h4,h5,h6]
 rw [e0];unfold total at h;unfold formNum numSig
 cases hf:find op with
 | none=>rw [hf] at h; simp at h
 | some g=>exact ⟨_,rfl⟩
theorem pure_one {e:Env} {op n out:Int} (h:pure op=true) : ∃ t,(form e op n out).outs=[t]:=by
 simp only [pure,Bool.or_eq_true,decide_eq_true_eq] at h;rcases h with (rfl | rfl) | h
 ·by_cases ho:out=127<;>simp [form,ho]
 ·simp [form]
 ·exact total_one h
theorem jcx {ts:List Int} {ds:List Def} {near:List Int} {block pos:Int} {l types:List Int} (h:asks ts ds near block pos l types=true) {v:Int} (hv:v∈l):InR ds.length v:=by
 obtain ⟨t,ht⟩:=jaC h v hv;simp only [askOk,Bool.and_eq_true,decide_eq_true_eq] at ht;exact ⟨ht.1.1.1.1,ht.1.1.1.2⟩
theorem check_dok {e:Env} {f:Fn} (h:check e f=true):DOk f:=by
 obtain ⟨hh,ds,hds,hsh,hB⟩:=check_spec h;obtain ⟨hlen,hin⟩:=defs_in hds;obtain ⟨hnd,hmade,hat⟩:=Jf hds;have hpar:=qj hds;have hr:Go.Vw.G.right (succs f.blocks)=true:=by
  simp only [shapeOk,Bool.and_eq_true] at hsh;exact hsh.1.1.1.1
 have hto:=right_to hr;have hblk : ∀ b∈f.blocks, ∃ j:Nat,f.blocks[j]? = some b∧checkCode e f ds (Go.Vw.G.nearI (succs f.blocks)) (j:Int) 0 b.code=true∧termOk f ds (Go.Vw.G.nearI (succs f.blocks)) (j:Int) b=true:=fun b hb=>by
  obtain ⟨j,hj⟩:=List.mem_iff_getElem?.1 hb;have:=qG hB hj;rw [Nat.zero_add] at this;exact ⟨j,hj,this⟩
 have hins : ∀ b∈f.blocks, ∀ x∈b.code, ∃ j k:Nat,f.blocks[j]? = some b∧b.code[k]? = some x∧insOk e f ds (Go.Vw.G.nearI (succs f.blocks)) (j:Int) (k:Int) x=true:=fun b hb x hx=>by
  obtain ⟨j,hj,hc,_⟩:=hblk b hb;obtain ⟨k,hk⟩:=List.mem_iff_getElem?.1 hx;have:=zo hc hk;rw [Nat.zero_add] at this;exact ⟨j,k,hj,hk,this⟩
 have hterm : ∀ b∈f.blocks, ∃ (j:Int) (le mo:Nat) (rs:List Int),termTail f ds (Go.Vw.G.nearI (succs f.blocks)) j b.code.length b.term le mo rs=true:=fun b hb=>by
  obtain ⟨j,hj,_,ht⟩:=hblk b hb;unfold termOk at ht;split at ht
  ·exact ⟨_,_,_,_,ht⟩
  ·cases ht
 have hone : ∀ b∈f.blocks, ∀ x∈b.code,pure x.op=true → ∃ o,x.outs=[o]:=fun b hb x hx hp=>by
  obtain ⟨j,k,_,_,hi⟩:=hins b hb x hx;simp only [insOk,Bool.and_eq_true,decide_eq_true_eq] at hi;obtain ⟨t,ht⟩:=pure_one (e:=e) (n:=x.n) (out:=insOut f.types x) hp;have h1:=hi.1.2;rw [ht] at h1;have h2:=congrArg List.length h1;simp only [typesOf,List.length_map,List.length_singleton] at h2;exact List.length_eq_one_iff.1 h2
 refine ⟨fun hb => ?_,fun b hb x hx v hv=>(hin b hb).2 x hx v hv,hone,fun b hb x hx v hv => ?_,fun b hb v hv=>(hin b hb).1 v hv,fun b hb v hv => ?_,fun b hb hk => ?_,fun b hb x hx v hv => ?_,fun b hb x hx => ?_,fun b hb c hc x hx y hy hp hq he => ?_,fun b hb c hc p hp y hy hm => ?_⟩
 ·simp only [shapeOk,Bool.and_eq_true] at hsh;have:=hsh.2;rw [hb] at this
  cases this
 ·obtain ⟨j,k,_,_,hi⟩:=hins b hb x hx;have:=jcx (insOk_asks hi) hv
  rwa [hlen] at this
 ·obtain ⟨j,le,mo,rs,ht⟩:=hterm b hb;simp only [termTail,Bool.and_eq_true] at ht;have:=jcx ht.1.2 hv
  rwa [hlen] at this
 ·obtain ⟨j,le,mo,rs,ht⟩:=hterm b hb;simp only [termTail,Bool.and_eq_true] at ht;have h1:=ht.1.1.1.1;rw [if_pos hk] at h1;have:=jcx h1 (v:=b.term.arg) (by simp)
  rwa [hlen] at this
 ·obtain ⟨j,le,mo,rs,ht⟩:=hterm b hb;simp only [termTail,Bool.and_eq_true,List.all_eq_true] at ht;have h1:=ht.2 x hx;simp only [edgeOk,Bool.and_eq_true] at h1;have:=jcx h1.2 hv
  rwa [hlen] at this
 ·obtain ⟨j,le,mo,rs,ht⟩:=hterm b hb;simp only [termTail,Bool.and_eq_true,List.all_eq_true] at ht;have h1:=ht.2 x hx;simp only [edgeOk,Bool.and_eq_true] at h1;have h2:=eqF_len h1.2;simp only [typesOf,List.length_map] at h2;exact ⟨(hto b hb x hx).1,(hto b hb x hx).2,h2⟩
 ·obtain ⟨o,ho⟩:=hone b hb x hx hp;obtain ⟨j,k,hj,hk,_⟩:=hins b hb x hx;obtain ⟨j',k',hj',hk',_⟩:=hins c hc y hy;have a1:=hat j b hj k x hk o (by simp [ho]);have a2:=hat j' c hj' k' y hk' o (by simp [←he,ho]);rw [a1] at a2;simp only [Def.mk.injEq,true_and] at a2;have e1:j=j':=by omega
  have e2:k=k':=by omega
  subst e1;subst e2;rw [hj] at hj'
  cases hj'
  rw [hk] at hk'
  cases hk'
  rfl
 ·obtain ⟨j,hj⟩:=List.mem_iff_getElem?.1 hb;obtain ⟨j',k',hj',hk',_⟩:=hins c hc y hy;have a1:=hpar j b hj p hp;have a2:=hat j' c hj' k' y hk' p hm;rw [a1] at a2;simp only [Def.mk.injEq,true_and] at a2;omega
end Ss

namespace Ss
def dNeed (f:Fn):List Bool:=dfs (askTab f) (f.types.length+1) (List.replicate f.types.length false) (roots f)
def dKeep (need:List Bool) (x:Ins):Bool := !pure x.op||on need (x.outs.getD 0 0)
def dEdge (need:List Bool) (bs:List Block) (e:Edge):Edge:=⟨e.to,(((bs.getD e.to.toNat default).params.zip e.args).filter fun q=>on need q.1).map Prod.snd⟩
def dBlock (need:List Bool) (bs:List Block) (b:Block):Block:=⟨b.params.filter (on need),b.code.filter (dKeep need),⟨b.term.kind,b.term.arg,b.term.to.map (dEdge need bs),b.term.args⟩⟩
def dceF (f:Fn):Fn:=⟨f.sig,f.types,f.blocks.map (dBlock (dNeed f) f.blocks)⟩
def dceOut (e:Env) (f:Fn):Fn × Int:=if check e f then (dceF f,0) else (⟨⟨[],[]⟩,[],[]⟩,6)
end Ss

namespace Go.Vw
open Go.Proofs Go.RowKit
set_option maxRecDepth 10000
set_option maxHeartbeats 4000000
theorem some_lt1 {T:Store} (hw:T.Wf) {o:Nat} (h:(T.get o).isSome=true):o<T.nx:=by
 cases hg:T.get o with
 | none=>rw [hg] at h; cases h
 | some c=>exact jA hw hg
structure TInv (S:Store) (pn on pa oa M:Nat) (need:List Bool) (t:List (List Int)) (T:Store):Prop where
 old:Agree S T
 gn:T.get pn=some (1,[.slice on 0 need.length])
 go:T.get on=some (1,need.map V.bool)
 ga:T.get pa=some (1,[.slice oa 0 need.length])
 tab:Tab T M oa t
 len:t.length=need.length
 ls:S.nx≤oa∧oa<M∧pn<M∧on<M∧pa<M∧pn≠oa∧on≠oa∧pa≠oa
section
variable {S:Store} {pn on pa oa M:Nat} {need:List Bool} {t:List (List Int)} {T:Store}
theorem TInv.mono (h:TInv S pn on pa oa M need t T) (hw:T.Wf) {T':Store} (hnx:T.nx≤T'.nx) (hk : ∀ o,o<T.nx→T'.get o=T.get o):TInv S pn on pa oa M need t T':=by
 obtain ⟨old,gn,go,ga,tab,len,ls⟩:=h;have hoa:oa<T.nx:=by obtain ⟨rs,ids,g,_⟩:=tab; exact jA hw g
 exact ⟨⟨Nat.le_trans old.1 hnx,fun o ho=>(hk o (Nat.lt_of_lt_of_le ho old.1)).trans (old.2 o ho)⟩,(hk pn (jA hw gn)).trans gn,(hk on (jA hw go)).trans go,(hk pa (jA hw ga)).trans ga,tab.mono (hk oa hoa) (fun o _ hs=>hk o (some_lt1 hw hs)),len,ls⟩
theorem TInv.at (h:TInv S pn on pa oa M need t T) (hw:T.Wf) {v:Nat} (hv:v<t.length) : ∃ (cells:List V) (o:Nat),T.get oa=some (1,cells)∧cells.length=t.length∧cells[v]? = some (.slice o 0 t[v].length)∧T.get o=some (1,t[v].map vint)∧o≠oa∧o≠pa ∧
  ∀ (T':Store) (o':Nat) (l':List Int),T.nx≤o'→T.nx≤T'.nx→(∀ x,x<T.nx→x≠oa→x≠o→T'.get x=T.get x)→T'.get o'=some (1,l'.map vint)→T'.get oa=some (1,cells.set v (.slice o' 0 l'.length))→TInv S pn on pa oa M need (t.set v l') T':=by
 obtain ⟨old,gn,go,ga,tab,len,l1,l2,l3,l4,l5,l6,l7,l8⟩:=h;obtain ⟨cells,o,g1,g2,g3,g4,g5,g6⟩:=tab.at hv;refine ⟨cells,o,g1,g2,g3,g4,by omega,by omega,fun T' o' l' h1 h2 h3 h4 h5 => ?_⟩;have h0:=old.1;refine ⟨⟨by omega,fun x hx => ?_⟩, ?_, ?_, ?_,g6 T' o' l' ?_ (.inl (hw.gone _ h1)) (fun x hx hne hs=>h3 x (some_lt1 hw hs) (by omega) hne) h4 h5,by rw [List.length_set]; exact len,l1,l2,l3,l4,l5,l6,l7,l8⟩
 ·rw [h3 x (by omega) (by omega) (by omega)]; exact old.2 x hx
 ·rw [h3 pn (jA hw gn) l6 (by omega)]; exact gn
 ·rw [h3 on (jA hw go) l7 (by omega)]; exact go
 ·rw [h3 pa (jA hw ga) l8 (by omega)]; exact ga
 ·have:=jA hw g4; omega
end
def z1 (o:Nat) (c:Nat × List V):Store:=⟨fun q=>if q=o then some c else none,0⟩
end Go.Vw

namespace Ss
def fl (t:Bool) (a b:List Bool):Bool:=t||decide (b≠a)
end Ss
namespace Go.Vw
open Go.Proofs Go.RowKit
set_option maxRecDepth 10000
set_option maxHeartbeats 2000000
abbrev mkC (x0 x1 x2 x3:V) (on N:Nat) (t:Bool):Nat × List V:=(6,[x0,x1,x2,x3, .slice on 0 N, .bool t])
end Go.Vw

namespace Ss
def rtotal (op:Int):Bool := !decide (rof op=0) && !rin op 109 112 && !rin op 127 130
theorem rtotal_small : ∀ n:Nat,n<256→rtotal (n:Int)=total (n:Int):=by decide +kernel
theorem rtotal_eq (op:Int):rtotal op=total op:=by
 by_cases h:0≤op∧op<256
 ·obtain ⟨n,rfl⟩:=Int.eq_ofNat_of_zero_le h.1;exact rtotal_small n (by have:=h.2; omega)
 ·have h1:rof op=0:=by
   unfold rof;rw [if_neg (by simp only [rin,Bool.and_eq_true,decide_eq_true_eq]; omega),if_neg (by simp only [rin,Bool.and_eq_true,decide_eq_true_eq]; omega)]
  have h2:find op=none:=by
   cases hf:find op with
   | none=>rfl
   | some g =>
    exfalso
    obtain ⟨hm,hh⟩:=YD hf;have ha : ∀ g∈groups,0≤g.first∧g.first+g.many≤256:=by decide +kernel
    have:=ha g hm;simp only [Grp.has,Bool.and_eq_true,decide_eq_true_eq] at hh;omega
  simp [rtotal,h1,total,h2]
end Ss
namespace Go.Vw
open Go.Proofs Go.RowKit
set_option maxRecDepth 10000
set_option maxHeartbeats 2000000
theorem RTotal_v (op:Int):VPure Tryz.prog 96 [vint op] (.bool (Ss.total op)):=by
 intro S;rw [←Ss.rtotal_eq op];have c1:=Of_v op;have c2:VPure Tryz.prog 126 [vint op, .int .i64 109, .int .i64 112] (.bool (Ss.rin op 109 112)):=in_v op 109 112;have c3:VPure Tryz.prog 126 [vint op, .int .i64 127, .int .i64 130] (.bool (Ss.rin op 127 130)):=in_v op 127 130;have hX:Ss.rtotal op=(!decide (Ss.rof op=0) && !Ss.rin op 109 112 && !Ss.rin op 127 130):=rfl;rw [hX];generalize Ss.rof op=t at *
 generalize Ss.rin op 109 112=x at *
 generalize Ss.rin op 127 130=y at *
 refine jb (c:=jg Tryz.f96) Tryz.func96 rfl rfl (by simp [Tryz.ntmps96]) ?_;rw [Tryz.ntmps96];intro hwf
 repeat refine QS ?_
 refine QY ?_
 repeat refine QS ?_
 refine QP ?_;refine jc (c1) (by rfl) ?_
 by_cases ht:t=0
 ·refine QM (by conv=>lhs;simp[-List.map_set,QV,ht]) ?_;refine QN ?_
  repeat first|refine QG ?_|refine QY ?_ (r:=by conv=>lhs;simp[-List.map_set,QV,ht])
  exact ja hwf (by simp [ht]) rfl
 ·refine QM (by conv=>lhs;simp[-List.map_set,QV,ht]) ?_;refine jc (c2) (by rfl) ?_
  cases x with
  | true =>
   refine QM (by conv=>lhs;simp[-List.map_set,QV,ht]) ?_;refine QN ?_
   repeat first|refine QG ?_|refine QY ?_
   exact ja hwf (by simp [ht]) rfl
  | false =>
   refine QM (by conv=>lhs;simp[-List.map_set,QV,ht]) ?_;refine jc (c3) (by rfl) ?_;refine QW ?_
   repeat first|refine QG ?_|refine QY ?_
   exact ja hwf (by simp [ht]) rfl
theorem RPure_v (op:Int):VPure Tryz.prog 61 [vint op] (.bool (Ss.pure op)):=by
 intro S;have c1:=RTotal_v op;have hX:Ss.pure op=(decide (op=256)||decide (op=27)||Ss.total op):=rfl;rw [hX];generalize Ss.total op=t at *
 refine jb (c:=jg Tryz.f61) Tryz.func61 rfl rfl (by simp [Tryz.ntmps61]) ?_;rw [Tryz.ntmps61];intro hwf
 repeat refine QS ?_
 refine QY ?_
 by_cases h1:op=256
 ·repeat first|refine QG ?_|refine QY ?_ (r:=by conv=>lhs;simp[-List.map_set,QV,h1])
  exact ja hwf (by simp [h1]) rfl
 by_cases h2:op=27
 ·repeat first|refine QG ?_|refine QY ?_ (r:=by conv=>lhs;simp[-List.map_set,QV,h1,h2])
  exact ja hwf (by simp [h2]) rfl
 repeat refine QS ?_
 refine QP ?_ (r:=by conv=>lhs;simp[-List.map_set,QV,h1,h2]);refine jc (c1) (by rfl) ?_;refine QW ?_
 repeat first|refine QG ?_|refine QY ?_
 exact ja hwf (by simp [h1,h2]) rfl
end Go.Vw

namespace Go.Vw
open Go.Proofs Go.RowKit
set_option maxRecDepth 10000
set_option maxHeartbeats 4000000
end Go.Vw

namespace Ss
structure ThinB (b c:Block):Prop where
 params:c.params=b.params
 term:c.term=b.term
 sub:c.code.Sublist b.code
 keep:c.code.filter (fun x=>decide (x.op≠257))=b.code.filter fun x=>decide (x.op≠257)
theorem ThinB.refl (b:Block):ThinB b b:=⟨rfl,rfl,List.Sublist.refl _,rfl⟩
theorem ThinB.trans {a b c:Block} (h:ThinB a b) (k:ThinB b c):ThinB a c:=⟨k.params.trans h.params,k.term.trans h.term,k.sub.trans h.sub,k.keep.trans h.keep⟩
def ThinL (l m:List Block):Prop:=m.length=l.length ∧ ∀ (i:Nat) (b c:Block),l[i]? = some b→m[i]? = some c→ThinB b c
theorem ThinL.refl (l:List Block):ThinL l l:=⟨rfl,fun i b c h1 h2=>by rw [h1] at h2; cases h2; exact .refl b⟩
theorem ThinL.trans {l m n:List Block} (h:ThinL l m) (k:ThinL m n):ThinL l n:=by
 refine ⟨k.1.trans h.1,fun i b c h1 h2 => ?_⟩;have hi:i<m.length:=by rw [h.1]; exact (List.getElem?_eq_some_iff.1 h1).1
 exact (h.2 i b m[i] h1 (List.getElem?_eq_getElem hi)).trans (k.2 i m[i] c (List.getElem?_eq_getElem hi) h2)
theorem ThinL.fits {l m:List Block} (h:ThinL l m) (hl : ∀ b∈l,b.Fits) : ∀ c∈m,c.Fits:=by
 intro c hc;obtain ⟨i,hi⟩:=List.mem_iff_getElem?.1 hc;have hil:i<l.length:=by rw [←h.1]; exact (List.getElem?_eq_some_iff.1 hi).1
 obtain ⟨h1,h2,h3,h4⟩:=h.2 i l[i] c (List.getElem?_eq_getElem hil) hi;obtain ⟨k1,⟨k2,k3⟩,k4⟩:=hl _ (List.getElem_mem hil);exact ⟨by rw [h1]; exact k1,⟨Nat.le_trans h3.length_le k2,fun x hx=>k3 x (h3.subset hx)⟩,by rw [h2]; exact k4⟩
theorem emptyFn_fits:emptyFn.Fits:=by
 simp [emptyFn,Fn.Fits,Sig.Fits,Ints]
theorem ThinL.count : ∀ {l m:List Block},ThinL l m→count m≤count l
 | [],m,h=>by
  have:m=[]:=List.eq_nil_of_length_eq_zero h.1;subst this; exact Nat.le_refl _
 | b::l,[],h=>by simp [Ss.count]
 | b::l,c::m,h=>by
  have h1:=(h.2 0 b c rfl rfl).sub.length_le;have h2:ThinL l m:=⟨by have:=h.1; simpa using this,fun i x y hx hy=>h.2 (i+1) x y (by simpa using hx) (by simpa using hy)⟩
  have:=ThinL.count h2;simp only [Ss.count,List.map_cons,List.sum_cons] at this ⊢;omega
end Ss

namespace Ss
inductive Drop:List Ins→List Ins→Prop
 | nil:Drop [] []
 | keep (x:Ins) {l m:List Ins} (h:Drop l m):Drop (x::l) (x::m)
 | drop (x:Ins) {l m:List Ins} (o:x.op=257) (h:Drop l m):Drop (x::l) m
theorem Drop.refl : ∀ l:List Ins,Drop l l
 | [] => .nil
 | x::l => .keep x (Drop.refl l)
theorem Drop.trans {a b c:List Ins} (h:Drop a b):Drop b c→Drop a c:=by
 induction h generalizing c with
 | nil=>exact fun k=>k
 | keep x h ih =>
  intro k
  cases k with
  | keep _ k=>exact .keep x (ih k)
  | drop _ o k=>exact .drop x o (ih k)
 | drop x o h ih=>exact fun k => .drop x o (ih k)
theorem Drop.pos {l m:List Ins} (h:Drop l m) : ∃ φ:Nat→Nat,(∀ k k',k≤k'→φ k≤φ k')∧(∀ k x,l[k]? = some x→x.op≠257→m[φ k]? = some x ∧ ∀ k',k<k'→φ k<φ k')∧(∀ j y,m[j]? = some y → ∃ k,l[k]? = some y∧φ k=j)∧φ l.length=m.length:=by
 induction h with
 | nil=>exact ⟨fun _=>0,fun _ _ _=>Nat.le_refl _,by simp,by simp,rfl⟩
 | @keep x l m h ih =>
  obtain ⟨φ,h1,h2,h3,h4⟩:=ih;refine ⟨fun k=>match k with | 0=>0 | k+1=>φ k+1,fun k k' hk => ?_,fun k y hk ho => ?_,fun j y hj => ?_,by simp [h4]⟩
  ·cases k with
   | zero=>simp
   | succ k=>cases k' with
    | zero=>omega
    | succ k'=>have:=h1 k k' (by omega); simp only; omega
  ·cases k with
   | zero=>exact ⟨by simpa using hk,fun k' hk'=>by cases k' with | zero=>omega | succ k'=>simp⟩
   | succ k =>
    obtain ⟨g1,g2⟩:=h2 k y (by simpa using hk) ho;exact ⟨by simpa using g1,fun k' hk'=>by cases k' with | zero=>omega | succ k'=>have:=g2 k' (by omega); simp only; omega⟩
  ·cases j with
   | zero=>exact ⟨0,by simpa using hj,rfl⟩
   | succ j =>
    obtain ⟨k,e1,e2⟩:=h3 j y (by simpa using hj);exact ⟨k+1,by simpa using e1,by simp [e2]⟩
 | @drop x l m o h ih =>
  obtain ⟨φ,h1,h2,h3,h4⟩:=ih;refine ⟨fun k=>match k with | 0=>0 | k+1=>φ k,fun k k' hk => ?_,fun k y hk ho => ?_,fun j y hj => ?_,by simp [h4]⟩
  ·cases k with
   | zero=>simp
   | succ k=>cases k' with
    | zero=>omega
    | succ k'=>exact h1 k k' (by omega)
  ·cases k with
   | zero =>
    simp only [List.getElem?_cons_zero,Option.some.injEq] at hk;subst hk; exact absurd o ho
   | succ k =>
    obtain ⟨g1,g2⟩:=h2 k y (by simpa using hk) ho;exact ⟨g1,fun k' hk'=>by cases k' with | zero=>omega | succ k'=>exact g2 k' (by omega)⟩
  ·obtain ⟨k,e1,e2⟩:=h3 j y hj;exact ⟨k+1,by simpa using e1,e2⟩
theorem Drop.outs {l m:List Ins} (h:Drop l m) (ho : ∀ x∈l,x.op=257→x.outs=[]):zW m=zW l:=by
 induction h with
 | nil=>rfl
 | @keep x l m h ih=>simp only [zW,List.flatMap_cons] at ih ⊢; rw [ih fun y hy=>ho y (by simp [hy])]
 | @drop x l m o h ih =>
  simp only [zW,List.flatMap_cons] at ih ⊢;rw [ih fun y hy=>ho y (by simp [hy]),ho x (by simp) o,List.nil_append]
theorem Drop.tick {l m:List Ins} (h:Drop l m):(m.any fun x=>decide (x.op=258))=l.any fun x=>decide (x.op=258):=by
 induction h with
 | nil=>rfl
 | keep x h ih=>simp only [List.any_cons,ih]
 | drop x o h ih=>simp only [List.any_cons,ih,o]; simp
theorem put_mk {block pos:Int} : ∀ {l:List Int} {ds:List Def},(∀ v∈l,0≤v∧v<ds.length)→l.Nodup→(∀ v∈l,(dAt ds v).made=false) → ∃ d,put block pos ds l=some d
 | [],ds,_,_,_=>⟨ds,rfl⟩
 | v::l,ds,h1,h2,h3=>by
  obtain ⟨a1,a2⟩:=h1 v (by simp);obtain ⟨n1,n2⟩:=List.nodup_cons.1 h2;have hm:=h3 v (by simp);have hm':(ds.getD v.toNat default).made=false:=hm;simp only [put];rw [if_neg (by rw [hm']; simp; omega)];refine put_mk (fun w hw=>by rw [List.length_set]; exact h1 w (by simp [hw])) n2 fun w hw => ?_
  have hne:w≠v:=fun e=>n1 (e▸hw)
  rw [jcs a1 a2 (h1 w (by simp [hw])).1,if_neg hne];exact h3 w (by simp [hw])
theorem jbq {i:Int} : ∀ {l:List Ins} {k:Nat} {ds:List Def},(∀ v∈zW l,0≤v∧v<ds.length)→(zW l).Nodup→(∀ v∈zW l,(dAt ds v).made=false) → ∃ d,putCode i k ds l=some d
 | [],k,ds,_,_,_=>⟨ds,rfl⟩
 | x::l,k,ds,h1,h2,h3=>by
  have e:zW (x::l)=x.outs++zW l:=rfl;rw [e] at h1 h2 h3;obtain ⟨n1,n2,n3⟩:=List.nodup_append.1 h2;obtain ⟨d,hd⟩:=put_mk (block:=i) (pos:=k) (fun v hv=>h1 v (by simp [hv])) n1 (fun v hv=>h3 v (by simp [hv]));have hp:=(KK hd).1;obtain ⟨d',hd'⟩:=jbq (i:=i) (k:=k+1) (l:=l) (ds:=d) (fun v hv=>by rw [Yr hd]; exact h1 v (by simp [hv])) n2 (fun v hv=>by
   rw [hp.keep v (h1 v (by simp [hv])).1 (fun hm=>n3 v hm v hv rfl)]; exact h3 v (by simp [hv]))
  exact ⟨d',by rw [putCode,hd]; exact hd'⟩
theorem YU : ∀ {l:List Block} {i:Nat} {ds:List Def},(∀ v∈allL l,0≤v∧v<ds.length)→(allL l).Nodup→(∀ v∈allL l,(dAt ds v).made=false) → ∃ d,putBlocks i ds l=some d
 | [],i,ds,_,_,_=>⟨ds,rfl⟩
 | b::l,i,ds,h1,h2,h3=>by
  have e:allL (b::l)=(b.params++zW b.code)++allL l:=rfl;rw [e] at h1 h2 h3;obtain ⟨n0,n2,n3⟩:=List.nodup_append.1 h2;obtain ⟨n1,n4,n5⟩:=List.nodup_append.1 n0;obtain ⟨d,hd⟩:=put_mk (block:=i) (pos := -1) (fun v hv=>h1 v (by simp [hv])) n1 (fun v hv=>h3 v (by simp [hv]));have hp:=(KK hd).1;obtain ⟨d1,hd1⟩:=jbq (i:=i) (k:=0) (l:=b.code) (ds:=d) (fun v hv=>by rw [Yr hd]; exact h1 v (by simp [hv])) n4 (fun v hv=>by
   rw [hp.keep v (h1 v (by simp [hv])).1 (fun hm=>n5 v hm v hv rfl)]; exact h3 v (by simp [hv]))
  have hp1:=(JE hd1).1;obtain ⟨d2,hd2⟩:=YU (i:=i+1) (l:=l) (ds:=d1) (fun v hv=>by rw [putCode_len' hd1,Yr hd]; exact h1 v (by simp [hv])) n2 (fun v hv=>by
   have h0:=(h1 v (by simp [hv])).1;rw [hp1.keep v h0 (fun hm=>n3 v (by simp [hm]) v hv rfl),hp.keep v h0 (fun hm=>n3 v (by simp [hm]) v hv rfl)]; exact h3 v (by simp [hv]))
  exact ⟨d2,by rw [putBlocks,hd]; simp only [Option.bind_some]; rw [hd1]; exact hd2⟩
theorem Zf {e:Env} {f:Fn} {ds:List Def} {near:List Int} {i:Int} : ∀ {l:List Ins} {k:Nat},(∀ (j:Nat) (x:Ins),l[j]? = some x→insOk e f ds near i ((k+j:Nat):Int) x=true)→checkCode e f ds near i k l=true
 | [],k,_=>rfl
 | x::l,k,h=>by
  have h0:=h 0 x rfl;rw [Nat.add_zero] at h0;simp only [checkCode,Bool.and_eq_true];refine ⟨h0,Zf fun j y hy => ?_⟩;have:=h (j+1) y (by simpa using hy);rw [show k+(j+1)=k+1+j by omega] at this;exact this
def DropL (l m:List Block):Prop:=m.length=l.length ∧ ∀ (i:Nat) (b c:Block),l[i]? = some b→m[i]? = some c→c.params=b.params∧c.term=b.term∧Drop b.code c.code
theorem DropL.refl (l:List Block):DropL l l:=⟨rfl,fun i b c h1 h2=>by rw [h1] at h2; cases h2; exact ⟨rfl,rfl, .refl _⟩⟩
theorem DropL.trans {l m n:List Block} (h:DropL l m) (k:DropL m n):DropL l n:=by
 refine ⟨k.1.trans h.1,fun i b c h1 h2 => ?_⟩;have hi:i<m.length:=by rw [h.1]; exact (List.getElem?_eq_some_iff.1 h1).1
 obtain ⟨a1,a2,a3⟩:=h.2 i b m[i] h1 (List.getElem?_eq_getElem hi);obtain ⟨b1,b2,b3⟩:=k.2 i m[i] c (List.getElem?_eq_getElem hi) h2;exact ⟨b1.trans a1,b2.trans a2,a3.trans b3⟩
theorem DropL.map {α:Type} {l m:List Block} (h:DropL l m) (F:Block→α) (hF : ∀ b c:Block,b∈l→c.params=b.params→c.term=b.term→Drop b.code c.code→F c=F b):m.map F=l.map F:=by
 apply List.ext_getElem?
 intro i;rw [List.getElem?_map,List.getElem?_map]
 by_cases hi:i<l.length
 ·have hi2:i<m.length:=by rw [h.1]; exact hi
  rw [List.getElem?_eq_getElem hi,List.getElem?_eq_getElem hi2];obtain ⟨h1,h2,h3⟩:=h.2 i l[i] m[i] (List.getElem?_eq_getElem hi) (List.getElem?_eq_getElem hi2);simp only [Option.map_some,Option.some.injEq];exact hF _ _ (List.getElem_mem hi) h1 h2 h3
 ·rw [List.getElem?_eq_none (by rw [h.1]; omega),List.getElem?_eq_none (by omega)]
end Ss

namespace Ss
open Go.Vw.G
def phi {α:Type} (p:α→Bool) (l:List α) (k:Nat):Nat:=((l.take k).filter p).length
theorem pure_tick:pure 258=false:=by decide
end Ss

namespace Ss
end Ss

namespace Ss
end Ss
namespace Go.Vw
open Go.Proofs Go.RowKit
end Go.Vw

namespace Go.Vw
open Go.Proofs Go.RowKit
set_option maxRecDepth 10000
set_option maxHeartbeats 4000000
end Go.Vw

namespace Go.Vw
open Go.Proofs Go.RowKit
set_option maxRecDepth 10000
set_option maxHeartbeats 2000000
def outOf (q:Int→List Int→Bool) (S:Store):List V→Bool
 | [.int _ op,_,_, .slice ou _ _]=>q op (((S.get ou).getD (0,[])).2.map vToInt)
 | _=>false
section
variable {S H:Store} {hs:List Nat} {ob:Nat} {bs:List Ss.Block} {T:Store} {rs:List (List V)} {ids:List Nat} {i:Nat}
theorem nodup_ne {hs:List Nat} {ob op oc oe:Nat} {ic ie:List Nat} (hd:(hs++ob::(op::oc::(ic++oe::ie))).Nodup):(∀ o∈hs,o≠ob∧o≠op∧o≠oc∧o≠oe∧o∉ic∧o∉ie)∧ob≠op∧ob≠oc∧ob≠oe∧ob∉ic∧ob∉ie∧op≠oc∧op≠oe∧op∉ic∧op∉ie∧oc≠oe∧oc∉ic∧oc∉ie∧oe∉ic∧oe∉ie∧(∀ o∈ic,o∉ie)∧ic.Nodup∧ie.Nodup:=by
 obtain ⟨h1,h2,h3⟩:=List.nodup_append.1 hd;simp only [List.nodup_cons,List.mem_cons,List.mem_append,not_or,List.nodup_append] at h2;obtain ⟨⟨a1,a2,a3,a4,a5⟩,⟨b1,b2,b3,b4⟩,⟨c1,c2,c3⟩,d1,⟨e1,e2⟩,d3⟩:=h2;refine ⟨fun o ho=>⟨h3 o ho ob (by simp),h3 o ho op (by simp),h3 o ho oc (by simp),h3 o ho oe (by simp),fun hm=>h3 o ho o (by simp [hm]) rfl,fun hm=>h3 o ho o (by simp [hm]) rfl⟩,a1,a2,a4,a3,a5,b1,b3,b2,b4,c2,c1,c3, ?_,e1, ?_,d1,e2⟩
 ·exact fun hm=>d3 oe hm oe (by simp) rfl
 ·exact fun o ho hm=>d3 o ho o (by simp [hm]) rfl
theorem BInv.pars (h:BInv S H hs ob bs T rs ids) (hw:T.Wf) (hi:i<bs.length) : ∃ op,rs.flatten[i*6]? = some (.slice op 0 bs[i].params.length)∧T.get op=some (1,bs[i].params.map vint)∧ob≠op∧(∀ o∈hs,o≠op) ∧ ∀ l:List Int, ∃ rs' ids',rs'.flatten=rs.flatten.set (i*6) (.slice op 0 l.length) ∧
  BInv S H hs ob (bs.set i ⟨l,bs[i].code,bs[i].term⟩) ((T.upd op (1,l.map vint)).upd ob (6,rs'.flatten)) rs' ids':=by
 obtain ⟨r1,r2,i1,i2,op,oc,oe,rc,ce,ip,ic,ie,rfl,h6,hl,hop,hoc,hrc,hoe,hie,rfl,hnd,hput⟩:=h.at hw hi;obtain ⟨n0,n1,n2,n3,n4,n5,n6,n7,n8,n9,n10,n11,n12,n13,n14,n15,n16,n17⟩:=nodup_ne hnd;refine ⟨op,Jo h6 hl (q:=0) rfl,hop,n1,fun o ho=>(n0 o ho).2.1,fun l => ?_⟩;have hfs:=Kb (m:=6) (r:=[V.slice op 0 bs[i].params.length, .slice oc 0 bs[i].code.length,vint bs[i].term.kind,vint bs[i].term.arg, .slice oe 0 bs[i].term.to.length,vl vint bs[i].term.args]) (r2:=r2) (q:=0) (w := .slice op 0 l.length) h6 hl (by simp);refine ⟨_,_,hfs.symm,hput _ _ ⟨l,bs[i].code,bs[i].term⟩ (op::oc::(ic++oe::ie)) (Nat.le_refl _) ?_ Jh ?_ (List.nodup_append.1 hnd).2.1.of_cons fun o ho => .inl ho⟩
 ·intro o _ h1 h2;simp only [List.mem_cons,not_or] at h2;rw [jT h1,jT h2.1]
 ·have g : ∀ o,o≠ob→o≠op→((T.upd op (1,l.map vint)).upd ob (6,(r1++List.set [V.slice op 0 bs[i].params.length, .slice oc 0 bs[i].code.length,vint bs[i].term.kind,vint bs[i].term.arg, .slice oe 0 bs[i].term.to.length,vl vint bs[i].term.args] 0 (.slice op 0 l.length)::r2).flatten)).get o=T.get o:=fun o h1 h2=>by rw [jT h1,jT h2]
  refine jcw (b:=⟨l,bs[i].code,bs[i].term⟩) (rs:=rc) (ce:=ce) ?_ ?_ ?_ ?_ ?_
  ·rw [jT (Ne.symm n1),Jh]
  ·rw [g oc (Ne.symm n2) (Ne.symm n6)]; exact hoc
  ·exact hrc.mono fun o ho=>g o (fun e=>n4 (e▸ho)) (fun e=>n8 (e▸ho))
  ·rw [g oe (Ne.symm n3) (Ne.symm n7)]; exact hoe
  ·exact hie.mono fun o ho=>g o (fun e=>n5 (e▸ho)) (fun e=>n9 (e▸ho))
theorem BInv.to (h:BInv S H hs ob bs T rs ids) (hw:T.Wf) (hi:i<bs.length) : ∃ (oe:Nat) (ce:List V),rs.flatten[i*6+4]? = some (.slice oe 0 bs[i].term.to.length)∧T.get oe=some (2,ce):=by
 obtain ⟨r1,r2,i1,i2,op,oc,oe,rc,ce,ip,ic,ie,rfl,h6,hl,hop,hoc,hrc,hoe,hie,rfl,hnd,hput⟩:=h.at hw hi;exact ⟨oe,ce,Jo h6 hl (q:=4) rfl,hoe⟩
end
end Go.Vw

namespace Go.Vw
open Go.Proofs Go.RowKit
set_option maxRecDepth 10000
set_option maxHeartbeats 2000000
abbrev idxU (p:Int→Bool) (l:List Int) (k:Nat):Int:=(idxG (fun (_:Unit) x=>p x) (fun _ _=>()) () l k).1
section
variable {S:Store} {l:List Int} {oc:Nat} {fid:FuncId} {caps:List V} {p:Int→Bool}
end
end Go.Vw

namespace Ss
def dKeepO (need:List Bool) (op:Int) (outs:List Int):Bool := !pure op||on need (outs.getD 0 0)
end Ss
namespace Go.Vw
open Go.Proofs Go.RowKit
set_option maxRecDepth 10000
set_option maxHeartbeats 2000000
end Go.Vw

namespace Go.Vw
open Go.Proofs Go.RowKit
set_option maxRecDepth 10000
set_option pp.deepTerms true
set_option maxHeartbeats 4000000
end Go.Vw

namespace Go.Vw
open Go.Proofs Go.RowKit
set_option maxRecDepth 10000
set_option maxHeartbeats 2000000
end Go.Vw

namespace Go.Vw
open Go.Proofs Go.RowKit
set_option maxRecDepth 10000
set_option maxHeartbeats 1500000
set_option pp.deepTerms true
end Go.Vw

namespace Go.Vw
open Go.Proofs Go.RowKit
set_option maxRecDepth 10000
set_option maxHeartbeats 2000000
theorem fn_ghostE {S:Store} {fi fo ts:List Int} {bs:List Ss.Block} {cells:List V} {ot ob n m:Nat} {ids:List Nat} (h:OwL S (reps n blkE) cells (jh jd bs) ids) (hb:S.get ob=some (6,cells)) (hn:bs.length=n) (ht:S.get ot=some (1,ts.map vint)) (hm:ts.length=m) (hd:(ot::ob::ids).Nodup) :
  Ghost (.agg [vl vint fi,vl vint fo, .slice ot 0 m, .slice ob 0 n]) S (.agg [vl vint fi,vl vint fo,vl vint ts,vl jd bs]) (S.dels (ot::ob::ids)):=by
 subst hn;subst hm;refine ghost_agg ?_;have hw:OwL S [.c, .c, .s (List.replicate 1 .c), .s blkE] [vl vint fi,vl vint fo, .slice ot 0 ts.length, .slice ob 0 bs.length] [vl vint fi,vl vint fo,vl vint ts,vl jd bs] (ot::ob::ids):=by
  refine .c rfl (.c rfl (OwL.slice (enc:=vint) (fun _=>rfl) (fun _=>rfl) ts (by rw [qI]; exact ht) ?_));have:=OwL.s (S:=S) (o:=ob) (tys:=blkE) (cells:=cells) (ys:=bs.map jd) (i:=ids) (j:=[]) hb (fun y hy=>(by
   obtain ⟨b,_,rfl⟩:=List.mem_map.1 hy;exact ⟨by rw [jK]; rfl,JA b⟩)) (by rw [List.length_map,qT]; exact h) .nil
  rw [List.length_map,List.append_nil] at this;exact this
 exact hw.freeze hd S fun _ _=>rfl
end Go.Vw

namespace Go.Vw
open Go.Proofs Go.RowKit
set_option maxRecDepth 10000
set_option maxHeartbeats 4000000
theorem Nan0_v (x:Int):VPure Tryz.prog 116 [vint x] (.bool false):=by
 intro S;refine jb (c:=jg Tryz.f116) Tryz.func116 rfl rfl (by simp [Tryz.ntmps116]) ?_;rw [Tryz.ntmps116];intro hwf
 repeat first|refine QG ?_|refine QY ?_
 exact ja hwf rfl rfl
theorem Nan1_v (x:Int):VPure Tryz.prog 82 [vint x] (.bool false):=by
 intro S;refine jb (c:=jg Tryz.f82) Tryz.func82 rfl rfl (by simp [Tryz.ntmps82]) ?_;rw [Tryz.ntmps82];intro hwf
 repeat first|refine QG ?_|refine QY ?_
 exact ja hwf rfl rfl
theorem Less_int_v (x y:Int):VPure Tryz.prog 81 [vint x,vint y] (.bool (decide (x<y))):=by
 intro S;have cn:=Nan0_v x;refine jb (c:=jg Tryz.f81) Tryz.func81 rfl rfl (by simp [Tryz.ntmps81]) ?_;rw [Tryz.ntmps81];intro hwf
 repeat first|refine QG ?_|refine QY ?_
 repeat refine QS ?_
 refine QP ?_;refine jn rfl (cn) ?_
 by_cases h:x<y
 ·refine QM (by conv=>lhs;simp[-List.map_set,QV,h]) ?_;refine QN ?_
  repeat first|refine QG ?_|refine QY ?_ (r:=by conv=>lhs;simp[-List.map_set,QV,h])
  exact ja hwf (by simp [h]) rfl
 ·refine QM (by conv=>lhs;simp[-List.map_set,QV,h]) ?_;refine QN ?_
  repeat first|refine QG ?_|refine QY ?_ (r:=by conv=>lhs;simp[-List.map_set,QV,h])
  exact ja hwf (by simp [h]) rfl
theorem Index_v (l:List Int) (x:Int) (hl:l.length<2^63):VPure Tryz.prog 115 [vl vint l,vint x] (vint (qB (fun y=>decide (x=y)) l 0)):=by
 intro S;refine jb (c:=jg Tryz.f115) Tryz.func115 rfl rfl (by simp [Tryz.ntmps115]) ?_;rw [Tryz.ntmps115];intro hwf
 repeat first|refine QG ?_|refine QY ?_
 repeat refine QS ?_
 refine je [0,1,7,8] rfl (fun c σ S' => ∃ (k:Nat),k≤l.length∧c=l.length-k∧qB (fun y=>decide (x=y)) (l.drop k) k=qB (fun y=>decide (x=y)) l 0∧σ=[(0,vl vint l),(1,vint x),(7,vnat l.length),(8,vnat k)]∧S'=St S [] []) l.length ?_ ?_
 ·exact ⟨0,by omega,rfl,rfl,by simp [Fr.only],rfl⟩
 ·rintro c σ T ⟨k,hk,rfl,hd,rfl,rfl⟩
  by_cases hkt:k<l.length
  ·have hst:qB (fun y=>decide (x=y)) (l.drop k) k=if decide (x=l[k])=true then (k:Int) else qB (fun y=>decide (x=y)) (l.drop (k+1)) (k+1):=by rw [List.drop_eq_getElem_cons hkt,qB]
   have hw:=jo hkt hl
   by_cases hp:x=l[k]
   ·rw [if_pos (by simpa using hp)] at hst
    repeat first|refine QG ?_|refine QY ?_ (r:=by conv=>lhs;simp[-List.map_set,QV,hkt,hp])
    exact ja hwf (by rw [←hd,hst]; rfl) rfl
   ·rw [if_neg (by simpa using hp)] at hst
    repeat first|refine QG ?_|refine QY ?_ (r:=by conv=>lhs;simp[-List.map_set,QV,hkt,hp])
    show jx _ _ _ _ _ _ _;exact again ⟨Nat.sub_lt_sub_left hkt (Nat.lt_succ_self k),k+1,hkt,rfl,by rw [←hd,hst],by simp [Fr.only,hw],rfl⟩
  ·have e:l.drop k=[]:=by rw [List.drop_eq_nil_iff]; omega
   rw [e] at hd
   repeat first|refine QG ?_|refine QY ?_ (r:=by conv=>lhs;simp[-List.map_set,QV,hkt])
   exact ja hwf (by rw [←hd]; rfl) rfl
theorem Contains_v (l:List Int) (x:Int) (hl:l.length<2^63):VPure Tryz.prog 80 [vl vint l,vint x] (.bool (decide (x∈l))):=by
 intro S;have ci:=Index_v l x hl;have he:decide (x∈l)=decide (0≤qB (fun y=>decide (x=y)) l 0):=by
  rw [Je,Bool.eq_iff_iff];simp
 rw [he];refine jb (c:=jg Tryz.f80) Tryz.func80 rfl rfl (by simp [Tryz.ntmps80]) ?_;rw [Tryz.ntmps80];intro hwf
 repeat first|refine QG ?_|refine QY ?_
 repeat refine QS ?_
 refine QP ?_;refine jn rfl (ci) ?_;refine QW ?_
 repeat first|refine QG ?_|refine QY ?_
 exact ja hwf rfl rfl
def bsI (l:List Int) (x:Int) (i j:Nat):Nat:=if h:i<j then (if l.getD ((i+j) / 2) 0<x then bsI l x ((i+j) / 2+1) j else bsI l x i ((i+j) / 2)) else i
termination_by j-i
theorem BinSearch_v (l:List Int) (x:Int) (hl:l.length<4611686018427387904) (hs:l.Pairwise (· < ·)):VPure Tryz.prog 30 [vl vint l,vint x] (.tuple [vnat (bsI l x 0 l.length), .bool (decide (x∈l))]):=by
 intro S;have hle : ∀ (a b:Nat) (ha:a<l.length) (hb:b<l.length),a<b→l[a]<l[b]:=fun a b ha hb hab=>List.pairwise_iff_getElem.1 hs a b ha hb hab
 refine jb (c:=jg Tryz.f30) Tryz.func30 rfl rfl (by simp [Tryz.ntmps30]) ?_;rw [Tryz.ntmps30];intro hwf
 repeat first|refine QG ?_|refine QY ?_
 repeat refine QS ?_
 refine je [0,1,6,7,8] rfl (fun c σ S' => ∃ (i j:Nat),i≤j∧j≤l.length∧c=j-i∧bsI l x i j=bsI l x 0 l.length∧(∀ (k:Nat) (hk:k<l.length),k<i→l[k]<x)∧(∀ (k:Nat) (hk:k<l.length),j≤k→x≤l[k])∧σ=[(0,vl vint l),(1,vint x),(6,vnat l.length),(7,vnat i),(8,vnat j)]∧S'=St S [] []) l.length ?_ ?_
 ·exact ⟨0,l.length,by omega,by omega,rfl,rfl,fun k hk h=>by omega,fun k hk h=>by omega,by simp [Fr.only],rfl⟩
 ·rintro c σ T ⟨i,j,hij,hj,rfl,hbs,hlo,hhi,rfl,rfl⟩
  by_cases hlt:i<j
  ·obtain ⟨h,hh⟩ : ∃ h,h=(i+j) / 2:=⟨_,rfl⟩
   have h1:i≤h:=by omega
   have h2:h<j:=by omega
   have h3:h<l.length:=by omega
   have cl:=Less_int_v l[h] x;have hw:IntKind.i64.wrap ((IntKind.u64.wrap (IntKind.i64.wrap ((i:Int)+(j:Int)))).fdiv (2^min 1 IntKind.u64.bits))=(h:Int):=by
    have e1:IntKind.i64.wrap ((i:Int)+(j:Int))=((i+j:Nat):Int):=by
     rw [wrap_i64 (by omega) (by omega)]; omega
    have e2:IntKind.u64.wrap ((i+j:Nat):Int)=((i+j:Nat):Int):=by
     show ((i+j:Nat):Int) % 18446744073709551616=_;omega
    have e3:((i+j:Nat):Int).fdiv (2^min 1 IntKind.u64.bits)=((h:Nat):Int):=by
     show ((i+j:Nat):Int).fdiv 2=_;rw [Int.fdiv_eq_ediv_of_nonneg _ (by omega),hh]; omega
    rw [e1,e2,e3];exact wrap_i64 (by omega) (by omega)
   have hw2:=jo (k:=h) (n:=l.length) h3 (by omega);have hgd:l.getD h 0=l[h]:=by rw [List.getD_eq_getElem?_getD,List.getElem?_eq_getElem h3]; rfl
   rw [bsI,dif_pos hlt, ←hh,hgd] at hbs
   repeat first|refine QG ?_|refine QY ?_ (r:=by conv=>lhs;simp[-List.map_set,QV,hlt])
   repeat refine QS ?_
   refine QP ?_ (r:=by conv=>lhs;simp[-List.map_set,QV,hw,h3]);refine jn rfl (cl) ?_
   by_cases hx:l[h]<x
   ·have hlo2 : ∀ (k:Nat) (hk:k<l.length),k<h+1→l[k]<x:=fun k hk hkh=>by
     rcases Nat.lt_or_ge k h with h5 | h5
     ·exact Int.lt_trans (hle k h hk h3 h5) hx
     ·have:k=h:=by omega
      subst this; exact hx
    refine QM (by conv=>lhs;simp[-List.map_set,QV,hx]) ?_;refine QN ?_
    repeat first|refine QG ?_|refine QY ?_ (r:=by conv=>lhs;simp[-List.map_set,QV,hx,hw2])
    show jx _ _ _ _ _ _ _;exact again ⟨(by omega),h+1,j,by omega,hj,rfl,(by rw [if_pos hx] at hbs; exact hbs),hlo2,hhi,by simp [Fr.only,Fr.look],rfl⟩
   ·have hhi2 : ∀ (k:Nat) (hk:k<l.length),h≤k→x≤l[k]:=fun k hk hkh=>by
     rcases Nat.lt_or_ge h k with h5 | h5
     ·have:=hle h k h3 hk h5; omega
     ·have:k=h:=by omega
      subst this; omega
    refine QM (by conv=>lhs;simp[-List.map_set,QV,hx]) ?_;refine QN ?_
    repeat first|refine QG ?_|refine QY ?_ (r:=by conv=>lhs;simp[-List.map_set,QV,hx])
    show jx _ _ _ _ _ _ _;exact again ⟨(by omega),i,h,by omega,by omega,rfl,(by rw [if_neg hx] at hbs; exact hbs),hlo,hhi2,by simp [Fr.only,Fr.look],rfl⟩
  ·have e:i=j:=by omega
   subst e;have c1:=Nan1_v;rw [bsI,dif_neg hlt] at hbs;rw [←hbs]
   by_cases hil:i<l.length
   ·by_cases he:l[i]=x
    ·have hm:decide (x∈l)=true:=decide_eq_true (he▸List.getElem_mem hil);rw [hm]
     repeat first|refine QG ?_|refine QY ?_ (r:=by conv=>lhs;simp[-List.map_set,QV,hlt])
     repeat refine QS ?_
     refine QY ?_ (r:=by conv=>lhs;simp[-List.map_set,QV,hil,he])
     repeat first|refine QG ?_|refine QY ?_
     exact ja hwf rfl rfl
    ·have hm:decide (x∈l)=false:=decide_eq_false fun hx=>by
      obtain ⟨k,hk,rfl⟩:=List.getElem_of_mem hx;rcases Nat.lt_or_ge k i with h5 | h5
      ·have:=hlo k hk h5; omega
      ·rcases Nat.lt_or_ge i k with h6 | h6
       ·have h7:=hle i k hil hk h6;have:=hhi i hil (Nat.le_refl _); omega
       ·have:k=i:=by omega
        subst this; exact he rfl
     rw [hm]
     repeat first|refine QG ?_|refine QY ?_ (r:=by conv=>lhs;simp[-List.map_set,QV,hlt])
     repeat refine QS ?_
     refine QP ?_ (r:=by conv=>lhs;simp[-List.map_set,QV,hil,he]);refine jn rfl (c1 l[i]) ?_;refine QM (by conv=>lhs;simp[-List.map_set,QV,hil,he]) ?_;refine QN ?_
     repeat first|refine QG ?_|refine QY ?_
     exact ja hwf rfl rfl
   ·have hm:decide (x∈l)=false:=decide_eq_false fun hx=>by
     obtain ⟨k,hk,rfl⟩:=List.getElem_of_mem hx;have:=hlo k hk (by omega); omega
    rw [hm]
    repeat first|refine QG ?_|refine QY ?_ (r:=by conv=>lhs;simp[-List.map_set,QV,hlt])
    repeat refine QS ?_
    refine QY ?_ (r:=by conv=>lhs;simp[-List.map_set,QV,hil])
    repeat first|refine QG ?_|refine QY ?_
    exact ja hwf rfl rfl
end Go.Vw
