import Derived.Test.YtenhhokhkkfgbaaGreatC25
import Derived.Test.YtenhhokhkkfgbaaGreatC28
/-
  Part of the proof (texts DOkc, DRun).
-/
set_option linter.unusedVariables false
set_option linter.unusedSimpArgs false
namespace Ss
theorem total_one {e:Env} {op n out:Int} (h:total op=true) : ∃ t,(form e op n out).outs=[t]:=by
 have h1:op≠258:=fun e=>by subst e; revert h; decide
 have h2:op≠16:=fun e=>by subst e; revert h; decide
 have h3:op≠35:=fun e=>by subst e; revert h; decide
 have h4:op≠36:=fun e=>by subst e; revert h; decide
 have h5:op≠256:=fun e=>by subst e; revert h; decide
 have h6:op≠27:=fun e=>by subst e; revert h; decide
 have e0:form e op n out=formNum e op:=by simp [form,h1,h2,h3,h4,h5,h6]
 rw [e0]
 unfold total at h
 unfold formNum numSig
 cases hf:find op with
 | none=>rw [hf] at h; simp at h
 | some g=>exact ⟨_,rfl⟩
theorem pure_one {e:Env} {op n out:Int} (h:pure op=true) : ∃ t,(form e op n out).outs=[t]:=by
 simp only [pure,Bool.or_eq_true,decide_eq_true_eq] at h
 rcases h with (rfl | rfl) | h
 ·by_cases ho:out=127<;>simp [form,ho]
 ·simp [form]
 ·exact total_one h
theorem asks_in {ts:List Int} {ds:List Def} {near:List Int} {block pos:Int} {l types:List Int} (h:asks ts ds near block pos l types=true) {v:Int} (hv:v∈l):InR ds.length v:=by
 obtain ⟨t,ht⟩:=eqF_fst h v hv
 simp only [askOk,Bool.and_eq_true,decide_eq_true_eq] at ht
 exact ⟨ht.1.1.1.1,ht.1.1.1.2⟩
theorem check_dok {e:Env} {f:Fn} (h:check e f=true):DOk f:=by
 obtain ⟨hh,ds,hds,hsh,hB⟩:=check_spec h
 obtain ⟨hlen,hin⟩:=defs_in hds
 obtain ⟨hnd,hmade,hat⟩:=defs_made hds
 have hpar:=putBlocks_params hds
 have hr:Go.Vw.G.right (succs f.blocks)=true:=by
  simp only [shapeOk,Bool.and_eq_true] at hsh
  exact hsh.1.1.1.1
 have hto:=right_to hr
 have hblk : ∀ b∈f.blocks, ∃ j:Nat,f.blocks[j]? = some b∧checkCode e f ds (Go.Vw.G.nearI (succs f.blocks)) (j:Int) 0 b.code=true∧termOk f ds (Go.Vw.G.nearI (succs f.blocks)) (j:Int) b=true:=fun b hb=>by
  obtain ⟨j,hj⟩:=List.mem_iff_getElem?.1 hb
  have:=checkBlocks_at hB hj
  rw [Nat.zero_add] at this
  exact ⟨j,hj,this⟩
 have hins : ∀ b∈f.blocks, ∀ x∈b.code, ∃ j k:Nat,f.blocks[j]? = some b∧b.code[k]? = some x∧insOk e f ds (Go.Vw.G.nearI (succs f.blocks)) (j:Int) (k:Int) x=true:=fun b hb x hx=>by
  obtain ⟨j,hj,hc,_⟩:=hblk b hb
  obtain ⟨k,hk⟩:=List.mem_iff_getElem?.1 hx
  have:=checkCode_at hc hk
  rw [Nat.zero_add] at this
  exact ⟨j,k,hj,hk,this⟩
 have hterm : ∀ b∈f.blocks, ∃ (j:Int) (le mo:Nat) (rs:List Int),termTail f ds (Go.Vw.G.nearI (succs f.blocks)) j b.code.length b.term le mo rs=true:=fun b hb=>by
  obtain ⟨j,hj,_,ht⟩:=hblk b hb
  unfold termOk at ht
  split at ht
  ·exact ⟨_,_,_,_,ht⟩
  ·cases ht
 have hone : ∀ b∈f.blocks, ∀ x∈b.code,pure x.op=true → ∃ o,x.outs=[o]:=fun b hb x hx hp=>by
  obtain ⟨j,k,_,_,hi⟩:=hins b hb x hx
  simp only [insOk,Bool.and_eq_true,decide_eq_true_eq] at hi
  obtain ⟨t,ht⟩:=pure_one (e:=e) (n:=x.n) (out:=insOut f.types x) hp
  have h1:=hi.1.2
  rw [ht] at h1
  have h2:=congrArg List.length h1
  simp only [typesOf,List.length_map,List.length_singleton] at h2
  exact List.length_eq_one_iff.1 h2
 refine ⟨fun hb => ?_,fun b hb x hx v hv=>(hin b hb).2 x hx v hv,hone,fun b hb x hx v hv => ?_,fun b hb v hv=>(hin b hb).1 v hv,fun b hb v hv => ?_,fun b hb hk => ?_,fun b hb x hx v hv => ?_,fun b hb x hx => ?_,fun b hb c hc x hx y hy hp hq he => ?_,fun b hb c hc p hp y hy hm => ?_⟩
 ·simp only [shapeOk,Bool.and_eq_true] at hsh
  have:=hsh.2
  rw [hb] at this
  cases this
 ·obtain ⟨j,k,_,_,hi⟩:=hins b hb x hx
  have:=asks_in (insOk_asks hi) hv
  rwa [hlen] at this
 ·obtain ⟨j,le,mo,rs,ht⟩:=hterm b hb
  simp only [termTail,Bool.and_eq_true] at ht
  have:=asks_in ht.1.2 hv
  rwa [hlen] at this
 ·obtain ⟨j,le,mo,rs,ht⟩:=hterm b hb
  simp only [termTail,Bool.and_eq_true] at ht
  have h1:=ht.1.1.1.1
  rw [if_pos hk] at h1
  have:=asks_in h1 (v:=b.term.arg) (by simp)
  rwa [hlen] at this
 ·obtain ⟨j,le,mo,rs,ht⟩:=hterm b hb
  simp only [termTail,Bool.and_eq_true,List.all_eq_true] at ht
  have h1:=ht.2 x hx
  simp only [edgeOk,Bool.and_eq_true] at h1
  have:=asks_in h1.2 hv
  rwa [hlen] at this
 ·obtain ⟨j,le,mo,rs,ht⟩:=hterm b hb
  simp only [termTail,Bool.and_eq_true,List.all_eq_true] at ht
  have h1:=ht.2 x hx
  simp only [edgeOk,Bool.and_eq_true] at h1
  have h2:=eqF_len h1.2
  simp only [typesOf,List.length_map] at h2
  exact ⟨(hto b hb x hx).1,(hto b hb x hx).2,h2⟩
 ·obtain ⟨o,ho⟩:=hone b hb x hx hp
  obtain ⟨j,k,hj,hk,_⟩:=hins b hb x hx
  obtain ⟨j',k',hj',hk',_⟩:=hins c hc y hy
  have a1:=hat j b hj k x hk o (by simp [ho])
  have a2:=hat j' c hj' k' y hk' o (by simp [←he,ho])
  rw [a1] at a2
  simp only [Def.mk.injEq,true_and] at a2
  have e1:j=j':=by omega
  have e2:k=k':=by omega
  subst e1
  subst e2
  rw [hj] at hj'
  cases hj'
  rw [hk] at hk'
  cases hk'
  rfl
 ·obtain ⟨j,hj⟩:=List.mem_iff_getElem?.1 hb
  obtain ⟨j',k',hj',hk',_⟩:=hins c hc y hy
  have a1:=hpar j b hj p hp
  have a2:=hat j' c hj' k' y hk' p hm
  rw [a1] at a2
  simp only [Def.mk.injEq,true_and] at a2
  omega
end Ss

namespace Ss
def dNeed (f:Fn):List Bool:=dfs (askTab f) (f.types.length+1) (List.replicate f.types.length false) (roots f)
def dKeep (need:List Bool) (x:Ins):Bool := !pure x.op||on need (x.outs.getD 0 0)
def dEdge (need:List Bool) (bs:List Block) (e:Edge):Edge:=⟨e.to,(((bs.getD e.to.toNat default).params.zip e.args).filter fun q=>on need q.1).map Prod.snd⟩
def dBlock (need:List Bool) (bs:List Block) (b:Block):Block:=⟨b.params.filter (on need),b.code.filter (dKeep need),⟨b.term.kind,b.term.arg,b.term.to.map (dEdge need bs),b.term.args⟩⟩
def dceF (f:Fn):Fn:=⟨f.sig,f.types,f.blocks.map (dBlock (dNeed f) f.blocks)⟩
def dceOut (e:Env) (f:Fn):Fn × Int:=if check e f then (dceF f,0) else (⟨⟨[],[]⟩,[],[]⟩,6)
theorem dNeed_marks {f:Fn} (h:DOk f):Marks (askTab f) (List.replicate f.types.length false) (roots f) (dNeed f):=by
 have:=need_same h (m:=roots f) fun v=>Iff.rfl
 unfold dNeed
 rw [←this]
 exact rneed_marks h
end Ss
