import Derived.Test.YtenhhokhkkfgbaaGreatC31
import Derived.Test.YtenhhokhkkfgbaaGreatC28
import Derived.Test.YtenhhokhkkfgbaaGreatC29
/-
  Part of the proof (texts BChkP, DChk, DKeep, DNeedL, DRNeed).
-/
set_option linter.unusedVariables false
set_option linter.unusedSimpArgs false
namespace Ss
inductive Drop:List Ins→List Ins→Prop
 | nil:Drop [] []
 | keep (x:Ins) {l m:List Ins} (h:Drop l m):Drop (x::l) (x::m)
 | drop (x:Ins) {l m:List Ins} (o:x.op=257) (h:Drop l m):Drop (x::l) m
theorem Drop.refl : ∀ l:List Ins,Drop l l
 | [] => .nil
 | x::l => .keep x (Drop.refl l)
theorem Drop.trans {a b c:List Ins} (h:Drop a b):Drop b c→Drop a c:=by
 induction h generalizing c with
 | nil=>exact fun k=>k
 | keep x h ih =>
  intro k
  cases k with
  | keep _ k=>exact .keep x (ih k)
  | drop _ o k=>exact .drop x o (ih k)
 | drop x o h ih=>exact fun k => .drop x o (ih k)
theorem Drop.pos {l m:List Ins} (h:Drop l m) : ∃ φ:Nat→Nat,(∀ k k',k≤k'→φ k≤φ k')∧(∀ k x,l[k]? = some x→x.op≠257→m[φ k]? = some x ∧ ∀ k',k<k'→φ k<φ k')∧(∀ j y,m[j]? = some y → ∃ k,l[k]? = some y∧φ k=j)∧φ l.length=m.length:=by
 induction h with
 | nil=>exact ⟨fun _=>0,fun _ _ _=>Nat.le_refl _,by simp,by simp,rfl⟩
 | @keep x l m h ih =>
  obtain ⟨φ,h1,h2,h3,h4⟩:=ih
  refine ⟨fun k=>match k with | 0=>0 | k+1=>φ k+1,fun k k' hk => ?_,fun k y hk ho => ?_,fun j y hj => ?_,by simp [h4]⟩
  ·cases k with
   | zero=>simp
   | succ k=>cases k' with
    | zero=>omega
    | succ k'=>have:=h1 k k' (by omega); simp only; omega
  ·cases k with
   | zero=>exact ⟨by simpa using hk,fun k' hk'=>by cases k' with | zero=>omega | succ k'=>simp⟩
   | succ k =>
    obtain ⟨g1,g2⟩:=h2 k y (by simpa using hk) ho
    exact ⟨by simpa using g1,fun k' hk'=>by cases k' with | zero=>omega | succ k'=>have:=g2 k' (by omega); simp only; omega⟩
  ·cases j with
   | zero=>exact ⟨0,by simpa using hj,rfl⟩
   | succ j =>
    obtain ⟨k,e1,e2⟩:=h3 j y (by simpa using hj)
    exact ⟨k+1,by simpa using e1,by simp [e2]⟩
 | @drop x l m o h ih =>
  obtain ⟨φ,h1,h2,h3,h4⟩:=ih
  refine ⟨fun k=>match k with | 0=>0 | k+1=>φ k,fun k k' hk => ?_,fun k y hk ho => ?_,fun j y hj => ?_,by simp [h4]⟩
  ·cases k with
   | zero=>simp
   | succ k=>cases k' with
    | zero=>omega
    | succ k'=>exact h1 k k' (by omega)
  ·cases k with
   | zero =>
    simp only [List.getElem?_cons_zero,Option.some.injEq] at hk
    subst hk; exact absurd o ho
   | succ k =>
    obtain ⟨g1,g2⟩:=h2 k y (by simpa using hk) ho
    exact ⟨g1,fun k' hk'=>by cases k' with | zero=>omega | succ k'=>exact g2 k' (by omega)⟩
  ·obtain ⟨k,e1,e2⟩:=h3 j y hj
   exact ⟨k+1,by simpa using e1,e2⟩
theorem Drop.outs {l m:List Ins} (h:Drop l m) (ho : ∀ x∈l,x.op=257→x.outs=[]):outsC m=outsC l:=by
 induction h with
 | nil=>rfl
 | @keep x l m h ih=>simp only [outsC,List.flatMap_cons] at ih ⊢; rw [ih fun y hy=>ho y (by simp [hy])]
 | @drop x l m o h ih =>
  simp only [outsC,List.flatMap_cons] at ih ⊢
  rw [ih fun y hy=>ho y (by simp [hy]),ho x (by simp) o,List.nil_append]
theorem Drop.tick {l m:List Ins} (h:Drop l m):(m.any fun x=>decide (x.op=258))=l.any fun x=>decide (x.op=258):=by
 induction h with
 | nil=>rfl
 | keep x h ih=>simp only [List.any_cons,ih]
 | drop x o h ih=>simp only [List.any_cons,ih,o]; simp
theorem put_mk {block pos:Int} : ∀ {l:List Int} {ds:List Def},(∀ v∈l,0≤v∧v<ds.length)→l.Nodup→(∀ v∈l,(dAt ds v).made=false) → ∃ d,put block pos ds l=some d
 | [],ds,_,_,_=>⟨ds,rfl⟩
 | v::l,ds,h1,h2,h3=>by
  obtain ⟨a1,a2⟩:=h1 v (by simp)
  obtain ⟨n1,n2⟩:=List.nodup_cons.1 h2
  have hm:=h3 v (by simp)
  have hm':(ds.getD v.toNat default).made=false:=hm
  simp only [put]
  rw [if_neg (by rw [hm']; simp; omega)]
  refine put_mk (fun w hw=>by rw [List.length_set]; exact h1 w (by simp [hw])) n2 fun w hw => ?_
  have hne:w≠v:=fun e=>n1 (e▸hw)
  rw [dAt_set a1 a2 (h1 w (by simp [hw])).1,if_neg hne]
  exact h3 w (by simp [hw])
theorem putCode_mk {i:Int} : ∀ {l:List Ins} {k:Nat} {ds:List Def},(∀ v∈outsC l,0≤v∧v<ds.length)→(outsC l).Nodup→(∀ v∈outsC l,(dAt ds v).made=false) → ∃ d,putCode i k ds l=some d
 | [],k,ds,_,_,_=>⟨ds,rfl⟩
 | x::l,k,ds,h1,h2,h3=>by
  have e:outsC (x::l)=x.outs++outsC l:=rfl
  rw [e] at h1 h2 h3
  obtain ⟨n1,n2,n3⟩:=List.nodup_append.1 h2
  obtain ⟨d,hd⟩:=put_mk (block:=i) (pos:=k) (fun v hv=>h1 v (by simp [hv])) n1 (fun v hv=>h3 v (by simp [hv]))
  have hp:=(put_puts hd).1
  obtain ⟨d',hd'⟩:=putCode_mk (i:=i) (k:=k+1) (l:=l) (ds:=d) (fun v hv=>by rw [put_len hd]; exact h1 v (by simp [hv])) n2 (fun v hv=>by
   rw [hp.keep v (h1 v (by simp [hv])).1 (fun hm=>n3 v hm v hv rfl)]; exact h3 v (by simp [hv]))
  exact ⟨d',by rw [putCode,hd]; exact hd'⟩
theorem putBlocks_mk : ∀ {l:List Block} {i:Nat} {ds:List Def},(∀ v∈allL l,0≤v∧v<ds.length)→(allL l).Nodup→(∀ v∈allL l,(dAt ds v).made=false) → ∃ d,putBlocks i ds l=some d
 | [],i,ds,_,_,_=>⟨ds,rfl⟩
 | b::l,i,ds,h1,h2,h3=>by
  have e:allL (b::l)=(b.params++outsC b.code)++allL l:=rfl
  rw [e] at h1 h2 h3
  obtain ⟨n0,n2,n3⟩:=List.nodup_append.1 h2
  obtain ⟨n1,n4,n5⟩:=List.nodup_append.1 n0
  obtain ⟨d,hd⟩:=put_mk (block:=i) (pos := -1) (fun v hv=>h1 v (by simp [hv])) n1 (fun v hv=>h3 v (by simp [hv]))
  have hp:=(put_puts hd).1
  obtain ⟨d1,hd1⟩:=putCode_mk (i:=i) (k:=0) (l:=b.code) (ds:=d) (fun v hv=>by rw [put_len hd]; exact h1 v (by simp [hv])) n4 (fun v hv=>by
   rw [hp.keep v (h1 v (by simp [hv])).1 (fun hm=>n5 v hm v hv rfl)]; exact h3 v (by simp [hv]))
  have hp1:=(putCode_puts hd1).1
  obtain ⟨d2,hd2⟩:=putBlocks_mk (i:=i+1) (l:=l) (ds:=d1) (fun v hv=>by rw [putCode_len' hd1,put_len hd]; exact h1 v (by simp [hv])) n2 (fun v hv=>by
   have h0:=(h1 v (by simp [hv])).1
   rw [hp1.keep v h0 (fun hm=>n3 v (by simp [hm]) v hv rfl),hp.keep v h0 (fun hm=>n3 v (by simp [hm]) v hv rfl)]; exact h3 v (by simp [hv]))
  exact ⟨d2,by rw [putBlocks,hd]; simp only [Option.bind_some]; rw [hd1]; exact hd2⟩
theorem checkCode_mk {e:Env} {f:Fn} {ds:List Def} {near:List Int} {i:Int} : ∀ {l:List Ins} {k:Nat},(∀ (j:Nat) (x:Ins),l[j]? = some x→insOk e f ds near i ((k+j:Nat):Int) x=true)→checkCode e f ds near i k l=true
 | [],k,_=>rfl
 | x::l,k,h=>by
  have h0:=h 0 x rfl
  rw [Nat.add_zero] at h0
  simp only [checkCode,Bool.and_eq_true]
  refine ⟨h0,checkCode_mk fun j y hy => ?_⟩
  have:=h (j+1) y (by simpa using hy)
  rw [show k+(j+1)=k+1+j by omega] at this
  exact this
def DropL (l m:List Block):Prop:=m.length=l.length ∧ ∀ (i:Nat) (b c:Block),l[i]? = some b→m[i]? = some c→c.params=b.params∧c.term=b.term∧Drop b.code c.code
theorem DropL.refl (l:List Block):DropL l l:=⟨rfl,fun i b c h1 h2=>by rw [h1] at h2; cases h2; exact ⟨rfl,rfl, .refl _⟩⟩
theorem DropL.trans {l m n:List Block} (h:DropL l m) (k:DropL m n):DropL l n:=by
 refine ⟨k.1.trans h.1,fun i b c h1 h2 => ?_⟩
 have hi:i<m.length:=by rw [h.1]; exact (List.getElem?_eq_some_iff.1 h1).1
 obtain ⟨a1,a2,a3⟩:=h.2 i b m[i] h1 (List.getElem?_eq_getElem hi)
 obtain ⟨b1,b2,b3⟩:=k.2 i m[i] c (List.getElem?_eq_getElem hi) h2
 exact ⟨b1.trans a1,b2.trans a2,a3.trans b3⟩
theorem DropL.map {α:Type} {l m:List Block} (h:DropL l m) (F:Block→α) (hF : ∀ b c:Block,b∈l→c.params=b.params→c.term=b.term→Drop b.code c.code→F c=F b):m.map F=l.map F:=by
 apply List.ext_getElem?
 intro i
 rw [List.getElem?_map,List.getElem?_map]
 by_cases hi:i<l.length
 ·have hi2:i<m.length:=by rw [h.1]; exact hi
  rw [List.getElem?_eq_getElem hi,List.getElem?_eq_getElem hi2]
  obtain ⟨h1,h2,h3⟩:=h.2 i l[i] m[i] (List.getElem?_eq_getElem hi) (List.getElem?_eq_getElem hi2)
  simp only [Option.map_some,Option.some.injEq]
  exact hF _ _ (List.getElem_mem hi) h1 h2 h3
 ·rw [List.getElem?_eq_none (by rw [h.1]; omega),List.getElem?_eq_none (by omega)]
end Ss

namespace Ss
open Go.Vw.G
def phi {α:Type} (p:α→Bool) (l:List α) (k:Nat):Nat:=((l.take k).filter p).length
theorem phi_zero {α:Type} (p:α→Bool) (l:List α):phi p l 0=0:=by simp [phi]
theorem phi_succ {α:Type} (p:α→Bool) (a:α) (l:List α) (k:Nat):phi p (a::l) (k+1)=(if p a then 1 else 0)+phi p l k:=by
 unfold phi
 rw [List.take_succ_cons]
 by_cases h:p a=true
 ·rw [List.filter_cons_of_pos h,List.length_cons,if_pos h]; omega
 ·rw [List.filter_cons_of_neg h,if_neg h]; omega
theorem phi_at {α:Type} (p:α→Bool) : ∀ (l:List α) (k:Nat) (x:α),l[k]? = some x→p x=true→(l.filter p)[phi p l k]? = some x ∧ ∀ k',k<k'→phi p l k<phi p l k'
 | [],k,x,h,_=>by simp at h
 | a::l,0,x,h,hp=>by
  simp only [List.getElem?_cons_zero,Option.some.injEq] at h
  subst h
  rw [phi_zero,List.filter_cons_of_pos hp]
  refine ⟨rfl,fun k' hk => ?_⟩
  obtain ⟨m,rfl⟩ : ∃ m,k'=m+1:=⟨k'-1,by omega⟩
  rw [phi_succ,if_pos hp]; omega
 | a::l,k+1,x,h,hp=>by
  obtain ⟨h1,h2⟩:=phi_at p l k x (by simpa using h) hp
  rw [phi_succ]
  refine ⟨?_,fun k' hk => ?_⟩
  ·by_cases ha:p a=true
   ·rw [List.filter_cons_of_pos ha,if_pos ha,Nat.add_comm,List.getElem?_cons_succ]; exact h1
   ·rw [List.filter_cons_of_neg ha,if_neg ha,Nat.zero_add]; exact h1
  ·obtain ⟨m,rfl⟩ : ∃ m,k'=m+1:=⟨k'-1,by omega⟩
   have:=h2 m (by omega)
   rw [phi_succ]; omega
theorem phi_from {α:Type} (p:α→Bool) : ∀ (l:List α) (j:Nat) (y:α),(l.filter p)[j]? = some y → ∃ k,l[k]? = some y∧phi p l k=j
 | [],j,y,h=>by simp at h
 | a::l,j,y,h=>by
  by_cases ha:p a=true
  ·rw [List.filter_cons_of_pos ha] at h
   cases j with
   | zero=>exact ⟨0,by simpa using h,phi_zero _ _⟩
   | succ j =>
    obtain ⟨k,h1,h2⟩:=phi_from p l j y (by simpa using h)
    exact ⟨k+1,by simpa using h1,by rw [phi_succ,if_pos ha]; omega⟩
  ·rw [List.filter_cons_of_neg ha] at h
   obtain ⟨k,h1,h2⟩:=phi_from p l j y h
   exact ⟨k+1,by simpa using h1,by rw [phi_succ,if_neg ha]; omega⟩
theorem phi_end {α:Type} (p:α→Bool) (l:List α):phi p l l.length=(l.filter p).length:=by rw [phi,List.take_length]
theorem pure_tick:pure 258=false:=by decide
theorem keep_tick {need:List Bool} {x:Ins} (h:x.op=258):dKeep need x=true:=by rw [dKeep,h,pure_tick]; rfl
theorem filter_tick (need:List Bool) (l:List Ins):((l.filter (dKeep need)).any fun x=>decide (x.op=258))=l.any fun x=>decide (x.op=258):=by
 induction l with
 | nil=>rfl
 | cons x l ih =>
  by_cases h:dKeep need x=true
  ·rw [List.filter_cons_of_pos h,List.any_cons,List.any_cons,ih]
  ·rw [List.filter_cons_of_neg h,List.any_cons,ih]
   have : ¬ x.op=258:=fun e=>h (keep_tick e)
   simp [this]
theorem outs_sub {l m:List Ins} (h:l.Sublist m):(outsC l).Sublist (outsC m):=by
 induction h with
 | slnil=>exact .refl _
 | cons a _ ih=>exact ih.trans (List.sublist_append_right _ _)
 | cons_cons a _ ih=>exact (List.Sublist.refl _).append ih
theorem dce_all (need:List Bool) (bs:List Block) : ∀ l:List Block,(allL (l.map (dBlock need bs))).Sublist (allL l)
 | [] => .refl _
 | b::l=>by
  have:=dce_all need bs l
  simp only [allL,List.map_cons,List.flatMap_cons] at this ⊢
  refine List.Sublist.append ?_ this
  exact List.Sublist.append List.filter_sublist (outs_sub List.filter_sublist)
theorem eqF_keep {p q:Int→Int→Bool} {T:Int→Int} (ok:Int→Bool) : ∀ (l m:List Int),l.length=m.length→(∀ a∈l.zip m,ok a.1=true → ∀ t,p a.2 t=true→q a.2 t=true)→Go.Vw.eqF p m (l.map T)=true→Go.Vw.eqF q (((l.zip m).filter fun a=>ok a.1).map Prod.snd) ((l.filter ok).map T)=true
 | [],[],_,_,_=>by simp [Go.Vw.eqF]
 | [],_::_,h,_,_=>by simp at h
 | _::_,[],h,_,_=>by simp at h
 | a::l,b::m,h,hq,he=>by
  simp only [List.map_cons,Go.Vw.eqF,Bool.and_eq_true] at he
  have ih:=eqF_keep ok l m (by simpa using h) (fun x hx=>hq x (by simp [hx])) he.2
  by_cases ha:ok a=true
  ·have e1:((a::l).zip (b::m)).filter (fun a=>ok a.1)=(a,b)::(l.zip m).filter fun a=>ok a.1:=by
    rw [List.zip_cons_cons]; exact List.filter_cons_of_pos (p:=fun a:Int × Int=>ok a.1) ha
   rw [e1,List.filter_cons_of_pos ha]
   simp only [List.map_cons,Go.Vw.eqF,Bool.and_eq_true]
   exact ⟨hq (a,b) (by simp) ha _ he.1,ih⟩
  ·have e1:((a::l).zip (b::m)).filter (fun a=>ok a.1)=(l.zip m).filter fun a=>ok a.1:=by
    rw [List.zip_cons_cons]; exact List.filter_cons_of_neg (p:=fun a:Int × Int=>ok a.1) ha
   rw [e1,List.filter_cons_of_neg ha]
   exact ih
theorem zip_len_le (p:Int × Int→Bool) (l m:List Int):(((l.zip m).filter p).map Prod.snd).length≤m.length:=by
 rw [List.length_map]
 refine Nat.le_trans (List.length_filter_le _ _) ?_
 rw [List.length_zip]; omega
theorem dEdge_mem {need:List Bool} {bs:List Block} {e:Edge} {v:Int} (h:v∈(dEdge need bs e).args):v∈e.args:=by
 simp only [dEdge,List.mem_map,List.mem_filter] at h
 obtain ⟨q,⟨hq,_⟩,rfl⟩:=h
 exact (List.of_mem_zip hq).2
theorem ints_sub {l m:List Int} (h:Ints m) (hl:l.length≤m.length) (hs : ∀ v∈l,v∈m):Ints l:=⟨Nat.le_trans hl h.1,fun v hv=>h.2 v (hs v hv)⟩
theorem dBlock_fits {need:List Bool} {bs:List Block} {b:Block} (h:b.Fits):(dBlock need bs b).Fits:=by
 obtain ⟨h1,⟨h2,h3⟩,h4,h5,⟨h6,h7⟩,h8⟩:=h
 refine ⟨ints_sub h1 (List.length_filter_le _ _) fun v hv=>(List.mem_filter.1 hv).1,⟨Nat.le_trans (List.length_filter_le _ _) h2,fun x hx=>h3 x (List.mem_filter.1 hx).1⟩,h4,h5,⟨by simp only [dBlock,List.length_map]; exact h6,fun x hx => ?_⟩,h8⟩
 simp only [dBlock,List.mem_map] at hx
 obtain ⟨e,he,rfl⟩:=hx
 obtain ⟨k1,k2⟩:=h7 e he
 exact ⟨k1,ints_sub k2 (zip_len_le _ _ _) fun v hv=>dEdge_mem hv⟩
theorem dceF_fits {f:Fn} (h:f.Fits):(dceF f).Fits:=by
 obtain ⟨h1,h2,h3,h4⟩:=h
 refine ⟨h1,h2,by simp only [dceF,List.length_map]; exact h3,fun c hc => ?_⟩
 simp only [dceF,List.mem_map] at hc
 obtain ⟨b,hb,rfl⟩:=hc
 exact dBlock_fits (h4 b hb)
theorem dce_count (need:List Bool) (bs:List Block) : ∀ l:List Block,count (l.map (dBlock need bs))≤count l
 | []=>Nat.le_refl _
 | b::l=>by
  have:=dce_count need bs l
  have h1:(dBlock need bs b).code.length≤b.code.length:=List.length_filter_le _ _
  simp only [count,List.map_cons,List.sum_cons] at this ⊢
  omega
theorem dceF_small {f:Fn} (k:f.small=true):(dceF f).small=true:=by
 obtain ⟨k1,k2,k3⟩:=(small_iff f).1 k
 refine (small_iff _).2 ⟨?_,fun c hc => ?_,Nat.le_trans (dce_count _ _ _) k3⟩
 ·simp only [Fn.heads,dceF,List.length_map] at k1 ⊢; exact k1
 ·simp only [dceF,List.mem_map] at hc
  obtain ⟨b,hb,rfl⟩:=hc
  have h:=k2 b hb
  simp only [Block.small,Bool.and_eq_true,decide_eq_true_eq,List.all_eq_true] at h ⊢
  obtain ⟨⟨⟨⟨a1,a2⟩,a3⟩,a4⟩,a5⟩:=h
  refine ⟨⟨⟨⟨Nat.le_trans (List.length_filter_le _ _) a1,by simp only [dBlock,List.length_map]; exact a2⟩,a3⟩,fun x hx=>a4 x (List.mem_filter.1 hx).1⟩,fun e he => ?_⟩
  simp only [dBlock,List.mem_map] at he
  obtain ⟨e',he',rfl⟩:=he
  have:=a5 e' he'
  simp only [Edge.small,decide_eq_true_eq] at this ⊢
  exact Nat.le_trans (zip_len_le _ _ _) this
theorem dce_check {e:Env} {f:Fn} (h:check e f=true):check e (dceF f)=true:=by
 have hd:=check_dok h
 obtain ⟨hh,ds,hds,hsh,hbs⟩:=check_spec h
 obtain ⟨hdl,hdin⟩:=defs_in hds
 obtain ⟨hnd,hmade,hout⟩:=defs_made hds
 obtain ⟨need,hneed⟩ : ∃ need,dNeed f=need:=⟨_,rfl⟩
 have hroot : ∀ v∈roots f,on need v=true:=fun v hv=>hneed▸dNeed_root hd hv
 have hask : ∀ v u:Int,on need v=true→Asks f v u→on need u=true:=fun v u hv ha=>by rw [←hneed] at hv ⊢; exact dNeed_asks hd hv ha
 have hrootB : ∀ b∈f.blocks, ∀ v∈rootsB b,on need v=true:=fun b hb v hv=>hroot v (by
  simp only [roots,List.mem_append,List.mem_flatMap]; exact .inr ⟨b,hb,hv⟩)
 have hhd:=dce_head hd
 have hg:(dceF f).blocks=f.blocks.map (dBlock need f.blocks):=by simp only [dceF,hneed]
 have hgs:(dceF f).sig=f.sig:=rfl
 have hgt:(dceF f).types=f.types:=rfl
 have hsmall:=dceF_small (check_small h)
 generalize dceF f=g at *
 have hgl:g.blocks.length=f.blocks.length:=by rw [hg,List.length_map]
 have hgi : ∀ (i:Nat) (b:Block),f.blocks[i]? = some b→g.blocks[i]? = some (dBlock need f.blocks b):=fun i b hb=>by rw [hg,List.getElem?_map,hb]; rfl
 have hgd : ∀ n:Nat,n<f.blocks.length→(g.blocks.getD n default).params=(f.blocks.getD n default).params.filter (on need):=fun n hn=>by rw [hg,getD_map_block hn]; rfl
 have hsubl:(allL g.blocks).Sublist (allL f.blocks):=by rw [hg]; exact dce_all _ _ _
 have hrange : ∀ v∈allL f.blocks,0≤v∧v<f.types.length:=fun v hv=>by
  obtain ⟨b,hb,hv⟩:=List.mem_flatMap.1 hv
  obtain ⟨k1,k2⟩:=hdin b hb
  rcases List.mem_append.1 hv with hv | hv
  ·exact k1 v hv
  ·obtain ⟨x,hx,hv⟩:=List.mem_flatMap.1 hv
   exact k2 x hx v hv
 obtain ⟨ds',hds'⟩:=putBlocks_mk (l:=g.blocks) (i:=0) (ds:=List.replicate g.types.length ⟨false,0,0⟩) (by rw [List.length_replicate,hgt]; exact fun v hv=>hrange v (hsubl.subset hv)) (hsubl.nodup hnd) (fun v _=>dAt_rep _ _)
 have hds2:defsOf g=some ds':=hds'
 obtain ⟨hdl',_⟩:=defs_in hds2
 obtain ⟨_,hmade',hout'⟩:=defs_made hds2
 have hrow : ∀ b:Block,rowOf (dBlock need f.blocks b)=rowOf b:=fun b=>by
  simp only [rowOf,dBlock,List.map_map]
  exact List.map_congr_left fun e _=>rfl
 have hsu:succs g.blocks=succs f.blocks:=by
  rw [hg,succs,succs,List.map_map]
  exact List.map_congr_left fun b _=>hrow b
 have htk:g.blocks.map tickB=f.blocks.map tickB:=by
  rw [hg,List.map_map]
  exact List.map_congr_left fun b _=>filter_tick need b.code
 have hhead:checkHead e g=true:=by
  simp only [checkHead,Bool.and_eq_true,decide_eq_true_eq,List.all_eq_true] at hh ⊢
  obtain ⟨⟨⟨⟨⟨g1,g2⟩,g3⟩,g4⟩,g5⟩,g6⟩:=hh
  refine ⟨⟨⟨⟨⟨g1,hsmall⟩,by rw [hgl]; exact g3⟩,by rw [hgt]; exact g4⟩,by rw [hgs]; exact g5⟩,fun c hc => ?_⟩
  rw [hg] at hc
  obtain ⟨b,hb,rfl⟩:=List.mem_map.1 hc
  exact Nat.le_trans (List.length_filter_le _ _) (g6 b hb)
 have hshape:shapeOk g=true:=by
  simp only [shapeOk,Bool.and_eq_true] at hsh ⊢
  have hr:rings g.blocks (Go.Vw.G.nats (succs f.blocks))=rings f.blocks (Go.Vw.G.nats (succs f.blocks)):=by simp only [rings,htk]
  rw [hsu,hgl,hgs,hhd,hgt,hr]
  refine ⟨hsh.1, ?_⟩
  have h5:=hsh.2
  have h0:0<f.blocks.length:=List.length_pos_iff.2 hd.ne
  have e0:(g.blocks.getD 0 default).code=(f.blocks.getD 0 default).code.filter (dKeep need):=by rw [hg,getD_map_block h0]; rfl
  rw [e0]
  generalize (f.blocks.getD 0 default).code=cf at *
  cases cf with
  | nil=>cases h5
  | cons x r =>
   simp only [decide_eq_true_eq] at h5
   rw [List.filter_cons_of_pos (keep_tick h5)]
   simp [h5]
 have key : ∀ (i:Nat) (b:Block),f.blocks[i]? = some b → ∀ (K:Nat) (v t:Int),on need v=true→askOk f.types ds (Go.Vw.G.nearI (succs f.blocks)) i K v t=true→askOk g.types ds' (Go.Vw.G.nearI (succs f.blocks)) i (phi (dKeep need) b.code K:Nat) v t=true:=by
  intro i b hb K v t hon ha
  simp only [askOk,Bool.and_eq_true,decide_eq_true_eq] at ha ⊢
  obtain ⟨⟨⟨⟨q1,q2⟩,q3⟩,q4⟩,q5⟩:=ha
  have hv:=hmade v q1 q4
  obtain ⟨b2,hb2,hv2⟩:=List.mem_flatMap.1 hv
  obtain ⟨j,hj⟩:=List.mem_iff_getElem?.1 hb2
  have hgj:=hgi j b2 hj
  have fact : ∃ B P P':Int,ds.getD v.toNat default=⟨true,B,P⟩∧ds'.getD v.toNat default=⟨true,B,P'⟩∧(B=i→P<K→P'<(phi (dKeep need) b.code K:Nat)):=by
   rcases List.mem_append.1 hv2 with hp | ho
   ·have a1:=putBlocks_params hds j b2 hj v hp
    have a2:=putBlocks_params hds' j _ hgj v (by simp only [dBlock,List.mem_filter]; exact ⟨hp,hon⟩)
    rw [Nat.zero_add] at a1 a2
    exact ⟨_,_,_,a1,a2,fun _ _=>by omega⟩
   ·obtain ⟨x,hx,hvx⟩:=List.mem_flatMap.1 ho
    obtain ⟨k,hk⟩:=List.mem_iff_getElem?.1 hx
    have hkeep:dKeep need x=true:=by
     unfold dKeep
     cases hp:pure x.op with
     | false=>rfl
     | true =>
      obtain ⟨o,ho⟩:=hd.one b2 hb2 x hx hp
      rw [ho,List.mem_singleton] at hvx
      subst hvx
      rw [ho,List.getD_cons_zero,hon]; rfl
    have a1:=hout j b2 hj k x hk v hvx
    obtain ⟨r1,r2⟩:=phi_at (dKeep need) b2.code k x hk hkeep
    have a2:=hout' j _ hgj _ x r1 v hvx
    refine ⟨_,_,_,a1,a2,fun e2 hlt => ?_⟩
    have e3:j=i:=by omega
    subst e3
    rw [hb] at hj
    cases hj
    have:=r2 K (by omega); omega
  obtain ⟨B,P,P',f1,f2,f3⟩:=fact
  rw [f1] at q5
  refine ⟨⟨⟨⟨q1,by rw [hdl',hgt, ←hdl]; exact q2⟩,by rw [hgt]; exact q3⟩,by rw [f2]⟩, ?_⟩
  rw [f2]
  simp only at q5 ⊢
  by_cases e:B=i
  ·rw [if_pos e,decide_eq_true_eq] at q5 ⊢
   exact f3 e q5
  ·rw [if_neg e] at q5 ⊢; exact q5
 have keyA : ∀ (i:Nat) (b:Block),f.blocks[i]? = some b → ∀ (K:Nat) (l t:List Int),(∀ v∈l,on need v=true)→asks f.types ds (Go.Vw.G.nearI (succs f.blocks)) i K l t=true→asks g.types ds' (Go.Vw.G.nearI (succs f.blocks)) i (phi (dKeep need) b.code K:Nat) l t=true :=
  fun i b hb K l t hl ha=>eqF_mono (fun x hx y hxy=>key i b hb K x y (hl x hx) hxy) ha
 have hblocks:checkBlocks e g ds' (Go.Vw.G.nearI (succs g.blocks)) 0 g.blocks=true:=by
  rw [hsu]
  refine checkBlocks_mk fun i c hc => ?_
  rw [Nat.zero_add]
  have hil:i<f.blocks.length:=by rw [←hgl]; exact (List.getElem?_eq_some_iff.1 hc).1
  obtain ⟨b,hb⟩ : ∃ b,f.blocks[i]? = some b:=⟨_,List.getElem?_eq_getElem hil⟩
  have hbm:=List.mem_of_getElem? hb
  rw [hgi i b hb] at hc
  cases hc
  obtain ⟨c1,c2⟩:=checkBlocks_at hbs hb
  rw [Nat.zero_add] at c1 c2
  constructor
  ·refine checkCode_mk fun j x hx => ?_
   rw [Nat.zero_add]
   have hkx:dKeep need x=true:=(List.mem_filter.1 (List.mem_of_getElem? hx)).2
   obtain ⟨k,hk,rfl⟩:=phi_from (dKeep need) b.code j x hx
   have hxm:=List.mem_of_getElem? hk
   have:=checkCode_at c1 hk
   rw [Nat.zero_add] at this
   simp only [insOk,Bool.and_eq_true] at this ⊢
   rw [hgt]
   refine ⟨this.1, ?_⟩
   have h9:=keyA i b hb k _ _ (fun v hv => ?_) this.2
   ·rw [hgt] at h9; exact h9
   ·unfold dKeep at hkx
    cases hp:pure x.op with
    | true =>
     rw [hp] at hkx
     obtain ⟨o,ho⟩:=hd.one b hbm x hxm hp
     rw [ho] at hkx
     exact hask o v (by simpa using hkx) (.inl ⟨b,hbm,x,hxm,hp,ho,hv⟩)
    | false=>exact hrootB b hbm v (by
      simp only [rootsB,List.mem_append,List.mem_flatMap]
      exact .inl ⟨x,hxm,by rw [hp]; simp [hv]⟩)
  ·unfold termOk at c2 ⊢
   have e1:(dBlock need f.blocks b).term.kind=b.term.kind:=rfl
   have e2:(dBlock need f.blocks b).code.length=phi (dKeep need) b.code b.code.length:=(phi_end _ _).symm
   rw [e1,hgs,e2]
   split at c2
   ·rename_i le mo rs heq
    simp only [termTail,Bool.and_eq_true] at c2 ⊢
    obtain ⟨⟨⟨⟨t1,t2⟩,t3⟩,t4⟩,t5⟩:=c2
    have e3:(dBlock need f.blocks b).term.to.length=b.term.to.length:=by simp [dBlock]
    have e4:(dBlock need f.blocks b).term.arg=b.term.arg:=rfl
    have e5:(dBlock need f.blocks b).term.args=b.term.args:=rfl
    have e6:branches (dBlock need f.blocks b).term=branches b.term:=rfl
    rw [e3,e4,e5,e6]
    refine ⟨⟨⟨⟨?_,t2⟩,t3⟩,keyA i b hb _ _ _ (fun v hv=>hrootB b hbm v (by simp only [rootsB,List.mem_append]; exact .inr (.inl hv))) t4⟩,List.all_eq_true.2 fun x hx => ?_⟩
    ·split at t1
     ·rename_i hbr
      rw [if_pos hbr]
      exact keyA i b hb _ _ _ (fun v hv=>hrootB b hbm v (by simp only [rootsB,List.mem_append]; exact .inr (.inr (by rw [if_pos hbr]; exact hv)))) t1
     ·rename_i hbr; rw [if_neg hbr]; exact t1
    ·simp only [dBlock,List.mem_map] at hx
     obtain ⟨x',hx',rfl⟩:=hx
     obtain ⟨h0,h1,h2⟩:=hd.etos b hbm x' hx'
     have:=List.all_eq_true.1 t5 x' hx'
     simp only [edgeOk,Bool.and_eq_true] at this ⊢
     have e7:(dEdge need f.blocks x').to=x'.to:=rfl
     rw [e7,hgd _ (by omega)]
     refine ⟨this.1, ?_⟩
     rw [hgt]
     refine eqF_keep (p:=askOk f.types ds (Go.Vw.G.nearI (succs f.blocks)) i b.code.length) (T:=fun v=>f.types.getD v.toNat 0) (on need) (f.blocks.getD x'.to.toNat default).params x'.args h2.symm (fun a ha hona t hat => ?_) this.2
     have:=key i b hb b.code.length a.2 t (hask a.1 a.2 hona (.inr ⟨b,hbm,x',hx',ha⟩)) hat
     rw [hgt] at this
     exact this
   ·cases c2
 simp only [check,hhead,hds2,hshape,hblocks,Bool.and_self]
end Ss

namespace Ss
theorem dce_made {e:Env} {f:Fn} (h:check e f=true) : ∀ b∈(dceF f).blocks,(∀ p∈b.params,on (dNeed (dceF f)) p=true) ∧ ∀ x∈b.code, ∀ o∈x.outs,on (dNeed (dceF f)) o=true:=by
 have hd:=check_dok h
 have hg:=check_dok (dce_check h)
 have hn:=dce_needs hd hg
 intro b hb
 have hb':=hb
 simp only [dceF,List.mem_map] at hb'
 obtain ⟨c,hc,rfl⟩:=hb'
 refine ⟨fun p hp=>hn p (List.mem_filter.1 hp).2,fun x hx o ho=>hn o ?_⟩
 obtain ⟨hxm,hk⟩:=List.mem_filter.1 hx
 unfold dKeep at hk
 cases hp:pure x.op with
 | true =>
  rw [hp] at hk
  obtain ⟨v,hv⟩:=hd.one c hc x hxm hp
  rw [hv] at hk ho
  rw [List.mem_singleton] at ho
  subst ho
  simpa using hk
 | false =>
  refine dNeed_root hd ?_
  simp only [roots,List.mem_append,List.mem_flatMap]
  refine .inr ⟨c,hc, ?_⟩
  simp only [rootsB,List.mem_append,List.mem_flatMap]
  exact .inl ⟨x,hxm,by rw [hp]; simp [ho]⟩
theorem dceOut_t {e:Env} {f:Fn} (h:check e f=true):dceOut e f=(dceF f,0):=by simp [dceOut,h]
theorem dceOut_f {e:Env} {f:Fn} (h:check e f=false):dceOut e f=(⟨⟨[],[]⟩,[],[]⟩,6):=by simp [dceOut,h]
end Ss

namespace Ss
theorem tab_in {f:Fn} (h:DOk f) : ∀ t,askTab f=t → ∀ l∈t, ∀ u∈l,InR f.types.length u:=by
 rintro t rfl l hl u hu
 obtain ⟨i,hi⟩:=List.mem_iff_getElem?.1 hl
 have hu':u∈(askTab f).getD ((i:Int)).toNat []:=by
  rw [List.getD_eq_getElem?_getD,Int.toNat_natCast,hi]; exact hu
 rcases tab_sound h (i:Int) u (by omega) hu' with ⟨b,hb,x,hx,_,_,hxu⟩ | ⟨b,hb,e,he,hq⟩
 ·exact h.args b hb x hx u hxu
 ·exact h.eargs b hb e he u (List.of_mem_zip hq).2
theorem dNeed_len {f:Fn} (h:DOk f):(dNeed f).length=f.types.length:=by
 rw [(dNeed_marks h).len,List.length_replicate]
end Ss
namespace Go.Vw
open Go.Proofs Go.RowKit
theorem Needed_v (e:Ss.Env) (f:Ss.Fn) (hf:f.Fits) (hc:Ss.check e f=true):VPure Tryz.prog 25 [encFn f] (vl V.bool (Ss.dNeed f)) :=
 Needed0_v f hf (Ss.check_small hc) (Ss.check_dok hc) (Ss.tab_in (Ss.check_dok hc))
end Go.Vw

namespace Go.Vw
open Go.Proofs Go.RowKit
set_option maxRecDepth 10000
set_option maxHeartbeats 4000000
theorem St_over {S:Store} {pm on:Nat} {x y c d:Option (Nat × List V)} (lm:pm<S.nx) (lo:on<S.nx):St (St S [(pm,x),(on,y)] []) [(pm,c),(on,d)] []=St S [(pm,c),(on,d)] []:=by
 have e:(St S [(pm,x),(on,y)] []).nx=S.nx:=by rw [St_nx]; rfl
 refine Store.ext' (funext fun q => ?_) (by simp [St_nx,lid])
 rw [St_at,St_at,e]
 by_cases hq:q<S.nx
 ·rw [if_pos hq,if_pos hq,St_at,if_pos hq]
  simp only [uGet]
  by_cases e1:q=pm
  ·simp [e1]
  ·by_cases e2:q=on
   ·subst e2; simp [e1]
   ·simp [e1,e2]
 ·rw [if_neg hq,St_at,if_neg hq]
theorem RNeed0_v (f:Ss.Fn) (hf:f.Fits) (hs:f.small=true) (hd:Ss.DOk f):VPure Tryz.prog 32 [encFn f] (vl V.bool (Ss.dNeed f)):=by
 intro S
 have hsame:Ss.rTurns f (f.types.length+1) (Ss.marks (List.replicate f.types.length false) (f.blocks.getD 0 default).params)=Ss.dNeed f:=Ss.need_same hd (m:=Ss.roots f) fun v=>Iff.rfl
 generalize Ss.dNeed f=D at *
 have hsm:=(Ss.small_iff f).1 hs
 have hh:=hsm.1
 simp only [Ss.Fn.heads,Bool.and_eq_true,decide_eq_true_eq] at hh
 obtain ⟨⟨⟨hh1,hh2⟩,_⟩,_⟩:=hh
 have crd:=fun pm on N tu o S h1 h2 h3 h4 h5=>RRound_v f hf hs hd pm on N tu o S h1 h2 h3 h4 h5
 have hinc:=Ss.round_inc f
 have hrt : ∀ k o,Ss.rTurns f (k+1) o=if Ss.rRound f o=o then o else Ss.rTurns f k (Ss.rRound f o):=fun k o=>rfl
 generalize Ss.rRound f=rnd at *
 generalize Ss.rTurns f=turns at *
 have hne:=hd.ne
 have dpar:=hd.pars
 obtain ⟨⟨fi,fo⟩,ts,bs⟩:=f
 simp only at *
 generalize hN:ts.length=N at *
 obtain ⟨⟨p0,c0,w0⟩,bs',hbs⟩ : ∃ b bs',bs=b::bs':=by cases bs with | nil=>exact absurd rfl hne | cons b bs'=>exact ⟨b,bs',rfl⟩
 have hb0:bs[0]? = some ⟨p0,c0,w0⟩:=by rw [hbs]; rfl
 have hb0m:(⟨p0,c0,w0⟩:Ss.Block)∈bs:=by rw [hbs]; simp
 have hp0:=dpar _ hb0m
 have hp0l:p0.length≤4096:=by
  have:=hsm.2.1 _ hb0m
  simp only [Ss.Block.small,Bool.and_eq_true,decide_eq_true_eq] at this
  exact this.1.1.1.1
 have hlt0:0<bs.length:=by rw [hbs]; simp
 have hb00:bs[0]=⟨p0,c0,w0⟩:=by have:=hb0; rw [List.getElem?_eq_getElem hlt0] at this; exact Option.some.inj this
 have hgd0:(bs.getD 0 default).params=p0:=by rw [hbs]; rfl
 rw [hgd0] at hsame
 clear hf hs hd hsm
 refine vcalls_start (c:=bodyOf Tryz.f32) Tryz.func32 rfl rfl (by simp [Tryz.ntmps32]) ?_
 rw [Tryz.ntmps32]
 intro hwf
 repeat refine QS ?_
 refine QR (r:=by conv=>lhs;simp[-List.map_set,QV]) (k:=?_)
 refine QN ?_
 refine vw_ghost' 1 rfl ((refSt (k:=0) (by simp) (by rfl) (by rfl) (by simp))) (by conv=>lhs; simp [Fr.set]) ?_
 simp only [List.set_cons_succ,List.set_cons_zero]
 have e1:N*1≤140737488355328:=by omega
 have e3:N≤140737488355328:=by omega
 have hrI : ∀ p,V.idsL p (List.replicate N (V.bool false))=true:=fun p=>idsL_rep rfl
 have hrR : ∀ g,V.renL g (List.replicate N (V.bool false))=List.replicate N (V.bool false):=fun g=>by rw [←List.map_replicate]; exact renL_bool (f:=g) _
 repeat refine QS ?_
 refine vw_drawTwo (σm := ?sm) (Sm := ?Sm) (ZZ.mk _ (St S [] [none]) (St S [] [none]) []) 4 6 [0,1,2,3,4,5,6,7] [0,1,2,3,6,4,5,7] rfl (by kernel_rfl) (by conv=>lhs; reduce) (by kernel_rfl) (by decide) (by kernel_rfl) (by kernel_rfl) (by kernel_rfl) (by kernel_rfl) (by kernel_rfl) (by kernel_rfl) rfl (ok_St (by simp [subU,shpU,subL,shpL])) (Store.sub_refl _) (by conv=>lhs; reduce) (by conv=>lhs; reduce) ?H1 ?H2 ?H3
 case H1 =>
  refine QM (by conv=>lhs;simp[-List.map_set,QV,hN,e1,e3]) ?_
  refine vseg_write rfl (by conv=>lhs;simp[-List.map_set,QV,e1,e3]) (ok_St (by simp [subU,shpU,subL,shpL])) ?_
  refine QM (by conv=>lhs;simp[-List.map_set,QV]) ?_
  refine vseg_write rfl (by conv=>lhs;simp[-List.map_set,QV]) (ok_St (by simp [subU,shpU,subL,shpL])) ?_
  refine vseg_write rfl (by conv=>lhs;simp[-List.map_set,QV]) (ok_St (by simp [subU,shpU,subL,shpL])) ?_
  refine QN ?_
  refine reach_only [1,3] (Eq.trans (b := ?_) ?_ rfl)
  rotate_left
  conv=>lhs; simp [Fr.only,Fr.look]
 case H2 =>
  refine QM (by conv=>lhs;simp[-List.map_set,QV,hN,e1,e3]) ?_
  refine vseg_write rfl (by conv=>lhs;simp[-List.map_set,QV]) (ok_St (by simp [subU,shpU,subL,shpL])) ?_
  refine vseg_write rfl (by conv=>lhs;simp[-List.map_set,QV,e1,e3]) (ok_St (by simp [subU,shpU,subL,shpL])) ?_
  refine QM (by conv=>lhs;simp[-List.map_set,QV]) ?_
  refine vseg_write rfl (by conv=>lhs;simp[-List.map_set,QV]) (ok_St (by simp [subU,shpU,subL,shpL])) ?_
  refine QN ?_
  exact reach_swap [1,3] [0,2,1] (by conv=>lhs; simp [Fr.only,Fr.look]) hwf (by decide) (by simp [-List.map_set,hrI,hrR]) (by conv=>lhs; simp [-List.map_set,hrI,hrR]) (by conv=>lhs; simp [-List.map_set,hrI,hrR]) (by conv=>lhs; simp [-List.map_set,hrI,hrR])
 generalize hS1:St S [] [none,some (1,List.replicate N (V.bool false)),some (6,[vl vint fi,vl vint fo,vl vint ts,vl encBlock bs,V.slice (lid S.nx 1) 0 N,V.bool false])]=S1
 have old1:Agree S S1:=by rw [←hS1]; exact agree_St
 have gm:S1.get (lid S.nx 2)=some (mkC (vl vint fi) (vl vint fo) (vl vint ts) (vl encBlock bs) (lid S.nx 1) N false):=by rw [←hS1,St_get]; rfl
 have go:S1.get (lid S.nx 1)=some (1,(List.replicate N false).map V.bool):=by rw [←hS1,St_get,List.map_replicate]; rfl
 have hdo:lid S.nx 1≠lid S.nx 2:=by simp [lid]
 have hge:S.nx≤lid S.nx 1∧S.nx≤lid S.nx 2:=by simp [lid]
 clear hS1
 generalize lid S.nx 2=pm at *
 generalize lid S.nx 1=on at *
 generalize hr0:List.replicate N false=r0 at *
 have hr0l:r0.length=N:=by rw [←hr0]; simp
 refine vw_wf fun hw1=>vw_nil hw1 ?_
 have lm:=old_lt hw1 gm
 have lo:=old_lt hw1 go
 have bm:=fun u l => @St_old S1 u l pm lm
 have bo:=fun u l => @St_old S1 u l on lo
 have hd2:pm≠on:=Ne.symm hdo
 have c0:=RMark_v (vl vint fi) (vl vint fo) (vl vint ts) (vl encBlock bs) rfl rfl rfl rfl pm on N false r0 p0 S1 hr0l (by omega) hp0 gm go hdo
 have c0':VCalls Tryz.prog 75 [.ptr pm 0,vl vint p0] (St S1 [] []) fun v T=>v = .tuple []∧T=St S1 [(pm,some (mkC (vl vint fi) (vl vint fo) (vl vint ts) (vl encBlock bs) on N (Ss.fl false r0 (Ss.marks r0 p0)))),(on,some (1,(Ss.marks r0 p0).map V.bool))] []:=by rw [St_nil hw1]; exact c0
 clear c0
 have hi0:=Ss.marks_inc r0 p0
 generalize Ss.marks r0 p0=o0 at *
 repeat refine QS ?_
 refine QR (r:=by conv=>lhs;simp[-List.map_set,QV,hb0,hb00,hlt0]) (k:=?_)
 refine vcall_any rfl c0' ?_
 rintro X T9 ⟨rfl,rfl⟩
 have hupm : ∀ x y c,(St S1 [(pm,x),(on,y)] []).upd pm c=St S1 [(pm,some c),(on,y)] []:=fun x y c=>by rw [St_updOld lm]; simp [uSet]
 have ho0:Ss.off o0<N+1:=by
  have h4:Ss.off o0≤o0.length:=List.countP_le_length
  have:=hi0.1
  omega
 refine QM (by conv=>lhs;simp[-List.map_set,QV]) ?_
 refine QN ?_
 repeat (first|refine QG ?_|refine QX (r:=by conv=>lhs;simp[-List.map_set,QV,bm,hupm]) (k:=?_))
 repeat refine QS ?_
 refine vw_loopAt [3] rfl (fun c σ S' => ∃ (t:Bool) (o1:List Bool),o1.length=N∧c=(if t then Ss.off o1+1 else 0)∧(if t then (∃ k,Ss.off o1<k∧turns k o1=D) else o1=D)∧σ=[(3, .ptr pm 0)]∧S'=St S1 [(pm,some (mkC (vl vint fi) (vl vint fo) (vl vint ts) (vl encBlock bs) on N t)),(on,some (1,o1.map V.bool))] []) (Ss.off o0+1) ?_ ?_
 ·exact ⟨true,o0,by rw [←hi0.1]; exact hr0l,rfl,⟨N+1,ho0,hsame⟩,by simp [Fr.only],rfl⟩
 ·rintro c σ T ⟨t,o1,hol,rfl,hD,rfl,rfl⟩
  cases t with
  | true =>
   simp only [if_true] at hD ⊢
   obtain ⟨k,hk,hD⟩:=hD
   obtain ⟨k,rfl⟩ : ∃ k',k=k'+1:=⟨k-1,by omega⟩
   rw [hrt] at hD
   have cr:=crd pm on N false o1 (St S1 [(pm,some (mkC (vl vint fi) (vl vint fo) (vl vint ts) (vl encBlock bs) on N false)),(on,some (1,o1.map V.bool))] []) rfl hol ((bm _ _).trans (by simp [uGet])) ((bo _ _).trans (by simp [uGet,hdo])) hdo
   rw [St_over lm lo] at cr
   have hin:=hinc o1
   generalize rnd o1=o2 at *
   repeat (first|refine QG ?_|refine QX (r:=by conv=>lhs;simp[-List.map_set,QV,bm,hupm]) (k:=?_))
   repeat refine QS ?_
   refine QR (r:=by conv=>lhs;simp[-List.map_set,QV]) (k:=?_)
   refine vcall_any rfl cr ?_
   rintro X T9 ⟨rfl,rfl⟩
   refine QM (by conv=>lhs;simp[-List.map_set,QV]) ?_
   refine QN ?_
   by_cases he:o2=o1
   ·rw [if_pos he] at hD
    subst he
    rw [Ss.fl_refl]
    show Again _ _ _ _ _ _ _
    exact again ⟨Nat.zero_lt_succ _,false,o2,hol,rfl,hD,by simp [Fr.only,Fr.look],rfl⟩
   ·rw [if_neg he] at hD
    have hlt:=Ss.inc_off hin he
    have hfl:Ss.fl false o1 o2=true:=by simp [Ss.fl,he]
    rw [hfl]
    show Again _ _ _ _ _ _ _
    exact again ⟨Nat.succ_lt_succ hlt,true,o2,by rw [←hin.1]; exact hol,rfl,⟨k,by omega,hD⟩,by simp [Fr.only,Fr.look],rfl⟩
  | false =>
   simp only [Bool.false_eq_true,if_false] at hD ⊢
   subst hD
   repeat (first|refine QG ?_|refine QX (r:=by conv=>lhs;simp[-List.map_set,QV,bm]) (k:=?_))
   have hgo:(St S1 [(pm,some (mkC (vl vint fi) (vl vint fo) (vl vint ts) (vl encBlock bs) on N false)),(on,some (1,o1.map V.bool))] []).get on=some (1,o1.map V.bool):=(bo _ _).trans (by simp [uGet,hdo])
   refine done_ghost hwf ((Ghost.freeze1 hgo (all_closed1 V.bool (fun _=>rfl) _) (by simp [hol])).toB _) ⟨?_,fun o ho => ?_⟩ (by simp)
   ·show S.nx≤lid S1.nx _
    have:=old1.1
    simp only [lid]; omega
   ·have h1:o≠on:=by have:=hge.1; omega
    have h2:o≠pm:=by have:=hge.2; omega
    rw [del_at,if_neg h1,St_old (by have:=old1.1; omega)]
    simp only [uGet,if_neg h1,if_neg h2]
    exact old1.2 o ho
theorem RNeed_v (e:Ss.Env) (f:Ss.Fn) (hf:f.Fits) (hc:Ss.check e f=true):VPure Tryz.prog 32 [encFn f] (vl V.bool (Ss.dNeed f)):=RNeed0_v f hf (Ss.check_small hc) (Ss.check_dok hc)
end Go.Vw
