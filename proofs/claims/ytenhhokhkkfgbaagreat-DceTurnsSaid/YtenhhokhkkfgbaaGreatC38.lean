import Derived.Test.YtenhhokhkkfgbaaGreatC25
import Derived.Test.YtenhhokhkkfgbaaGreatC29
import Derived.Test.YtenhhokhkkfgbaaGreatC37
import Derived.Test.YtenhhokhkkfgbaaGreatC26
import Derived.Test.YtenhhokhkkfgbaaGreatC27
/-
  Part of the proof (texts EInv, DRound, DMark, DOkc, DRun).
-/
set_option linter.unusedVariables false
set_option linter.unusedSimpArgs false
namespace Go.Vw
open Go.Proofs Go.RowKit
set_option maxRecDepth 10000
theorem cell_atT {l xs:List V} {a m q:Nat} (h:(l.drop a).take m=xs) (hq:q<m):l[a+q]? = xs[q]? := by
 rw [←h,List.getElem?_take,if_pos hq,List.getElem?_drop]
theorem blockE_row {T:Store} {b:Ss.Block} {r:List V} {ii:List Nat} (h:OwL T blkE r (encBlock b).cells ii) : ∃ oc oe,r=[vl vint b.params, .slice oc 0 b.code.length,vint b.term.kind,vint b.term.arg, .slice oe 0 b.term.to.length,vl vint b.term.args]∧ii=[oc,oe]∧T.get oc=some (4,flatC encIns b.code)∧T.get oe=some (2,flatC encEdge b.term.to):=by
 rw [encBlock_cells] at h
 generalize hA:vl encIns b.code=A at h
 generalize hB:vl encEdge b.term.to=B at h
 cases h with
 | c h0 h=>cases h with
  | @s _ _ _ _ ca ys i j oc ho hs d h=>cases h with
   | c h1 h=>cases h with
    | c h2 h=>cases h with
     | @s _ _ _ _ cb zs i2 j2 oe ho2 hs2 d2 h=>cases h with
      | c h3 h=>cases h with
       | nil =>
        have e1:ys=b.code.map encIns:=by
         have:V.list (b.code.map encIns)=V.list ys:=hA
         exact (V.list.inj this).symm
        have e2:zs=b.term.to.map encEdge:=by
         have:V.list (b.term.to.map encEdge)=V.list zs:=hB
         exact (V.list.inj this).symm
        subst e1; subst e2
        have c1:=own_closed (n:=(b.code.map encIns).length*4) (by rw [←reps_c]; exact d)
        have c2:=own_closed (n:=(b.term.to.map encEdge).length*2) (by rw [←reps_c]; exact d2)
        rw [flatC_map] at c1 c2
        refine ⟨oc,oe,by simp, ?_, ?_, ?_⟩
        ·rw [c1.2,c2.2]; rfl
        ·rw [ho,c1.1]; rfl
        ·rw [ho2,c2.1]; rfl
theorem blockE_mk {T:Store} {b:Ss.Block} {oc oe:Nat} (h1:T.get oc=some (4,flatC encIns b.code)) (h2:T.get oe=some (2,flatC encEdge b.term.to)) :
  OwL T blkE [vl vint b.params, .slice oc 0 b.code.length,vint b.term.kind,vint b.term.arg, .slice oe 0 b.term.to.length,vl vint b.term.args] (encBlock b).cells [oc,oe]:=by
 rw [encBlock_cells]
 exact .c rfl (OwL.slice (fun _=>by rw [encIns_cells]; rfl) encIns_closed b.code h1 (.c rfl (.c rfl (OwL.slice (fun _=>by rw [encEdge_cells]; rfl) encEdge_closed b.term.to h2 (.c rfl .nil)))))
theorem edges_set {to:List Ss.Edge} {j:Nat} {l:List Int} (hj:j<to.length):(flatC encEdge to).set (j*2+1) (vl vint l)=flatC encEdge (to.set j ⟨to[j].to,l⟩):=by
 have e:to=to.take j++to[j]::to.drop (j+1):=by rw [←List.drop_eq_getElem_cons hj,List.take_append_drop]
 have h2:to.set j ⟨to[j].to,l⟩=to.take j++⟨to[j].to,l⟩::to.drop (j+1):=by
  rw [List.set_eq_take_append_cons_drop]; simp [hj]
 have h3:=flat_set (m:=2) (k:=j) (q:=1) (w:=vl vint l) (r1:=(to.take j).map fun x=>(encEdge x).cells) (r:=(encEdge to[j]).cells) (r2:=(to.drop (j+1)).map fun x=>(encEdge x).cells) (fun s hs=>by
  obtain ⟨x,_,rfl⟩:=List.mem_map.1 hs
  rw [encEdge_cells]; rfl) (by simp; omega) (by rw [encEdge_cells]; simp)
 rw [h2,flatC_flatten,flatC_flatten,List.map_append,List.map_cons]
 conv=>lhs; rw [e]
 rw [List.map_append,List.map_cons,h3]
 simp [encEdge_cells]
structure EInv (S H:Store) (hs:List Nat) (ob:Nat) (bs:List Ss.Block) (T:Store) (rs:List (List V)) (ids:List Nat):Prop where
 old:Agree S T
 hd : ∀ o∈hs,T.get o=H.get o
 al : ∀ o∈hs,(H.get o).isSome=true
 cb:T.get ob=some (6,rs.flatten)
 own:Rows T blkE encBlock bs rs ids
 nd:(hs++ob::ids).Nodup
 lt : ∀ o∈hs++ob::ids,S.nx≤o
theorem EInv.all_lt {S H:Store} {hs:List Nat} {ob:Nat} {bs:List Ss.Block} {T:Store} {rs:List (List V)} {ids:List Nat} (h:EInv S H hs ob bs T rs ids) (hw:T.Wf) : ∀ o∈hs++ob::ids,o<T.nx:=fun o ho=>by
 refine some_lt hw ?_
 rcases List.mem_append.1 ho with ho | ho
 ·rw [h.hd o ho]; exact h.al o ho
 ·rcases List.mem_cons.1 ho with rfl | ho
  ·rw [h.cb]; rfl
  ·exact h.own.owl.alive o ho
theorem EInv.at {S H:Store} {hs:List Nat} {ob:Nat} {bs:List Ss.Block} {T:Store} {rs:List (List V)} {ids:List Nat} (h:EInv S H hs ob bs T rs ids) (hw:T.Wf) {i:Nat} (hi:i<bs.length) :
  ∃ (oc oe:Nat),rs.flatten[i*6+1]? = some (.slice oc 0 bs[i].code.length)∧rs.flatten[i*6+4]? = some (.slice oe 0 bs[i].term.to.length)∧T.get oc=some (4,flatC encIns bs[i].code)∧T.get oe=some (2,flatC encEdge bs[i].term.to)∧(hs++ob::[oc,oe]).Nodup ∧
   (∀ (T':Store) (oc':Nat) (code':List Ss.Ins),T.nx≤oc'→T.nx≤T'.nx→(∀ o,o<T.nx→o≠ob→T'.get o=T.get o)→T'.get ob=some (6,rs.flatten.set (i*6+1) (.slice oc' 0 code'.length))→T'.get oc'=some (4,flatC encIns code') → ∃ rs' ids',rs'.flatten=rs.flatten.set (i*6+1) (.slice oc' 0 code'.length)∧EInv S H hs ob (bs.set i ⟨bs[i].params,code',bs[i].term⟩) T' rs' ids') ∧
   (∀ (T':Store) (l:List Int),T.nx≤T'.nx→(∀ o,o<T.nx→o≠ob→T'.get o=T.get o)→T'.get ob=some (6,rs.flatten.set (i*6) (vl vint l)) → ∃ rs' ids',rs'.flatten=rs.flatten.set (i*6) (vl vint l)∧EInv S H hs ob (bs.set i ⟨l,bs[i].code,bs[i].term⟩) T' rs' ids') ∧
   (∀ (T':Store) (to':List Ss.Edge),to'.length=bs[i].term.to.length→T.nx≤T'.nx→(∀ o,o<T.nx→o≠oe→T'.get o=T.get o)→T'.get oe=some (2,flatC encEdge to')→EInv S H hs ob (bs.set i ⟨bs[i].params,bs[i].code,⟨bs[i].term.kind,bs[i].term.arg,to',bs[i].term.args⟩⟩) T' rs ids):=by
 have hlt:=h.all_lt hw
 obtain ⟨old,hd,al,cb,own,nd,lt⟩:=h
 obtain ⟨r1,r,r2,i1,ii,i2,rfl,hl,rfl,hb,hput⟩:=own.at (List.getElem?_eq_getElem hi)
 have hr6:=own.len.2
 obtain ⟨oc,oe,rfl,rfl,hoc,hoe⟩:=blockE_row hb
 have h6 : ∀ s∈r1,s.length=6:=fun s hs=>hr6 s (by simp [hs])
 have sub:List.Sublist [oc,oe] (i1++([oc,oe]++i2)):=(List.sublist_append_left _ _).trans (List.sublist_append_right _ _)
 have hnd3:(hs++ob::[oc,oe]).Nodup:=List.Sublist.nodup ((List.Sublist.refl hs).append (sub.cons_cons ob)) nd
 have gen : ∀ (T':Store) (r':List V) (b':Ss.Block) (oc' oe':Nat),T.nx≤T'.nx→(∀ o,o<T.nx→o≠ob→o≠oc→o≠oe→T'.get o=T.get o)→T'.get ob=some (6,(r1++r'::r2).flatten)→OwL T' blkE r' (encBlock b').cells [oc',oe']→(oc'=oc∨T.nx≤oc')→oe'=oe→EInv S H hs ob (bs.set i b') T' (r1++r'::r2) (i1++([oc',oe']++i2)):=by
  intro T' r' b' oc' oe' hnx hk hcb how ho1 ho2
  subst ho2
  have cnt : ∀ o,(hs++ob::(i1++([oc,oe']++i2))).count o≤1:=fun o=>List.nodup_iff_count.1 nd o
  simp only [List.count_append,List.count_cons,List.count_nil] at cnt
  have pos : ∀ {o:Nat} {l:List Nat},o∈l→1≤l.count o:=fun h=>List.count_pos_iff.2 h
  have nob : ∀ o,o∈hs∨o∈i1∨o∈i2→o≠ob∧o≠oc∧o≠oe':=by
   intro o ho
   have c:=cnt o
   refine ⟨?_, ?_, ?_⟩ <;>
   ·rintro rfl
    simp only [beq_self_eq_true,if_true] at c
    rcases ho with ho | ho | ho<;>(have:=pos ho; omega)
  have keep : ∀ o,o∈hs∨o∈i1∨o∈i2→T'.get o=T.get o:=fun o ho=>by
   obtain ⟨a1,a2,a3⟩:=nob o ho
   refine hk o (hlt o ?_) a1 a2 a3
   rcases ho with ho | ho | ho<;>simp [ho]
  refine ⟨⟨Nat.le_trans old.1 hnx,fun o ho => ?_⟩,fun o ho=>(keep o (.inl ho)).trans (hd o ho),al,hcb,hput T' r' b' [oc',oe'] (fun o ho=>keep o ?_) how, ?_,fun o ho => ?_⟩
  ·have l1:=lt ob (by simp)
   have l2:=lt oc (by simp)
   have l3:=lt oe' (by simp)
   rw [hk o (Nat.lt_of_lt_of_le ho old.1) (by omega) (by omega) (by omega)]
   exact old.2 o ho
  ·rcases List.mem_append.1 ho with ho | ho
   ·exact .inr (.inl ho)
   ·exact .inr (.inr ho)
  ·refine List.nodup_iff_count.2 fun o => ?_
   simp only [List.count_append,List.count_cons,List.count_nil]
   have c:=cnt o
   rcases ho1 with rfl | hge
   ·exact c
   ·by_cases e:oc'=o
    ·subst e
     have z1:hs.count oc'=0:=List.count_eq_zero.2 fun h=>by have:=hlt oc' (by simp [h]); omega
     have z2:i1.count oc'=0:=List.count_eq_zero.2 fun h=>by have:=hlt oc' (by simp [h]); omega
     have z3:i2.count oc'=0:=List.count_eq_zero.2 fun h=>by have:=hlt oc' (by simp [h]); omega
     have z4:(ob==oc')=false:=by have:=hlt ob (by simp); simp only [beq_eq_false_iff_ne]; omega
     have z5:(oe'==oc')=false:=by have:=hlt oe' (by simp); simp only [beq_eq_false_iff_ne]; omega
     rw [z1,z2,z3,z4,z5]; simp
    ·have:(oc'==o)=false:=by simpa using e
     rw [this]
     simp only [Bool.false_eq_true,if_false]
     omega
  ·simp only [List.mem_append,List.mem_cons,List.not_mem_nil,or_false] at ho
   rcases ho with ho | ho | ho | (ho | ho) | ho
   ·exact lt o (by simp [ho])
   ·exact lt o (by simp [ho])
   ·exact lt o (by simp [ho])
   ·rcases ho1 with h | h
    ·exact lt o (by simp [ho,h])
    ·have:=old.1; omega
   ·exact lt o (by simp [ho])
   ·exact lt o (by simp [ho])
 have ne1:ob≠oc∧ob≠oe∧oc≠oe:=by
  have h2:=(List.nodup_append.1 hnd3).2.1
  simp only [List.nodup_cons,List.mem_cons,List.not_mem_nil,or_false,not_or] at h2
  exact ⟨h2.1.1,h2.1.2,h2.2.1⟩
 have lc:=old_lt hw hoc
 have le:=old_lt hw hoe
 refine ⟨oc,oe,flat_mid h6 hl (q:=1) rfl,flat_mid h6 hl (q:=4) rfl,hoc,hoe,hnd3, ?_, ?_, ?_⟩
 ·intro T' oc' code' hge hnx hk hcb hgc
  have hfs:=flat_set (m:=6) (r:=[vl vint bs[i].params, .slice oc 0 bs[i].code.length,vint bs[i].term.kind,vint bs[i].term.arg, .slice oe 0 bs[i].term.to.length,vl vint bs[i].term.args]) (r2:=r2) (q:=1) (w := .slice oc' 0 code'.length) h6 hl (by simp)
  rw [hfs] at hcb
  refine ⟨_,_,hfs.symm,gen T' _ ⟨bs[i].params,code',bs[i].term⟩ oc' oe hnx (fun o h1 h2 _ _=>hk o h1 h2) hcb ?_ (.inr hge) rfl⟩
  exact blockE_mk (b:=⟨bs[i].params,code',bs[i].term⟩) hgc ((hk oe le (Ne.symm ne1.2.1)).trans hoe)
 ·intro T' l hnx hk hcb
  have hfs:=flat_set (m:=6) (r:=[vl vint bs[i].params, .slice oc 0 bs[i].code.length,vint bs[i].term.kind,vint bs[i].term.arg, .slice oe 0 bs[i].term.to.length,vl vint bs[i].term.args]) (r2:=r2) (q:=0) (w:=vl vint l) h6 hl (by simp)
  rw [show i*6+0=i*6 from rfl] at hfs
  rw [hfs] at hcb
  refine ⟨_,_,hfs.symm,gen T' _ ⟨l,bs[i].code,bs[i].term⟩ oc oe hnx (fun o h1 h2 _ _=>hk o h1 h2) hcb ?_ (.inl rfl) rfl⟩
  exact blockE_mk (b:=⟨l,bs[i].code,bs[i].term⟩) ((hk oc lc (Ne.symm ne1.1)).trans hoc) ((hk oe le (Ne.symm ne1.2.1)).trans hoe)
 ·intro T' to' hlen hnx hk hge
  have hb':=blockE_mk (T:=T') (b:=⟨bs[i].params,bs[i].code,⟨bs[i].term.kind,bs[i].term.arg,to',bs[i].term.args⟩⟩) ((hk oc lc ne1.2.2).trans hoc) hge
  simp only [hlen] at hb'
  exact gen T' _ ⟨bs[i].params,bs[i].code,⟨bs[i].term.kind,bs[i].term.arg,to',bs[i].term.args⟩⟩ oc oe hnx (fun o h1 _ _ h4=>hk o h1 h4) ((hk ob (hlt ob (by simp)) ne1.2.1).trans cb) hb' (.inl rfl) rfl
end Go.Vw

namespace Ss
def marks (need:List Bool) (l:List Int):List Bool:=l.foldl (fun o v=>o.set v.toNat true) need
def rIns (o:List Bool) (x:Ins):List Bool:=if pure x.op then (if on o (x.outs.getD 0 0) then marks o x.args else o) else marks (marks o x.outs) x.args
def rPar (o:List Bool) (q:Int × Int):List Bool:=if on o q.1 then o.set q.2.toNat true else o
def rEdge (bs:List Block) (o:List Bool) (e:Edge):List Bool:=((bs.getD e.to.toNat default).params.zip e.args).foldl rPar o
def rTerm (o:List Bool) (t:Term):List Bool:=if branches t then (marks o t.args).set t.arg.toNat true else marks o t.args
def rBlock (bs:List Block) (o:List Bool) (b:Block):List Bool:=b.term.to.foldl (rEdge bs) (rTerm (b.code.foldl rIns o) b.term)
def rRound (f:Fn) (o:List Bool):List Bool:=f.blocks.foldl (rBlock f.blocks) o
def rTurns (f:Fn):Nat→List Bool→List Bool
 | 0,o=>o
 | k+1,o=>if rRound f o=o then o else rTurns f k (rRound f o)
def Inc (a b:List Bool):Prop:=a.length=b.length ∧ ∀ i:Nat,a[i]? = some true→b[i]? = some true
theorem Inc.refl (a:List Bool):Inc a a:=⟨rfl,fun _ h=>h⟩
theorem Inc.trans {a b c:List Bool} (h:Inc a b) (k:Inc b c):Inc a c:=⟨h.1.trans k.1,fun i hi=>k.2 i (h.2 i hi)⟩
theorem Inc.anti {a b:List Bool} (h:Inc a b) (k:Inc b a):a=b:=by
 refine List.ext_getElem h.1 fun i h1 h2 => ?_
 have a1:=h.2 i
 have b1:=k.2 i
 rw [List.getElem?_eq_getElem h1,List.getElem?_eq_getElem h2] at a1 b1
 simp only [Option.some.injEq] at a1 b1
 exact Bool.eq_iff_iff.2 ⟨a1,b1⟩
theorem inc_set (o:List Bool) (i:Nat):Inc o (o.set i true):=by
 refine ⟨by simp,fun j hj => ?_⟩
 rw [List.getElem?_set]
 split
 ·rename_i e
  subst e
  rw [if_pos (List.getElem?_eq_some_iff.1 hj).1]
 ·exact hj
theorem foldl_inc {α:Type} {g:List Bool→α→List Bool} (h : ∀ o a,Inc o (g o a)) : ∀ (l:List α) (o:List Bool),Inc o (l.foldl g o)
 | [],o => .refl o
 | a::l,o=>(h o a).trans (foldl_inc h l (g o a))
theorem foldl_fix {α:Type} {g:List Bool→α→List Bool} (h : ∀ o a,Inc o (g o a)) : ∀ {l:List α} {o:List Bool},l.foldl g o=o → ∀ a∈l,g o a=o
 | [],o,_,a,ha=>by simp at ha
 | b::l,o,hf,a,ha=>by
  rw [List.foldl_cons] at hf
  have h1:=foldl_inc h l (g o b)
  rw [hf] at h1
  have hb:g o b=o:=h1.anti (h o b)
  rcases List.mem_cons.1 ha with rfl | ha
  ·exact hb
  ·rw [hb] at hf; exact foldl_fix h hf a ha
theorem marks_inc (o:List Bool) (l:List Int):Inc o (marks o l):=foldl_inc (fun o v=>inc_set o _) l o
theorem ins_inc (o:List Bool) (x:Ins):Inc o (rIns o x):=by
 unfold rIns
 split
 ·split
  ·exact marks_inc _ _
  ·exact .refl _
 ·exact (marks_inc _ _).trans (marks_inc _ _)
theorem par_inc (o:List Bool) (q:Int × Int):Inc o (rPar o q):=by
 unfold rPar
 split
 ·exact inc_set _ _
 ·exact .refl _
theorem edge_inc (bs:List Block) (o:List Bool) (e:Edge):Inc o (rEdge bs o e):=foldl_inc par_inc _ _
theorem term_inc (o:List Bool) (t:Term):Inc o (rTerm o t):=by
 unfold rTerm
 split
 ·exact (marks_inc _ _).trans (inc_set _ _)
 ·exact marks_inc _ _
theorem block_inc (bs:List Block) (o:List Bool) (b:Block):Inc o (rBlock bs o b):=(foldl_inc ins_inc _ _).trans ((term_inc _ _).trans (foldl_inc (edge_inc bs) _ _))
theorem round_inc (f:Fn) (o:List Bool):Inc o (rRound f o):=foldl_inc (block_inc f.blocks) _ _
theorem inc_off {a b:List Bool} (h:Inc a b) (hn:b≠a):off b<off a:=by
 have h1:=off_le h.1 h.2
 rcases Nat.lt_or_ge (off b) (off a) with h2 | h2
 ·exact h2
 ·exfalso
  refine hn (h.anti ⟨h.1.symm,fun i hi => ?_⟩).symm
  have hlt:=(List.getElem?_eq_some_iff.1 hi).1
  cases ha:a[i]? with
  | none=>rw [List.getElem?_eq_none_iff] at ha; have:=h.1; omega
  | some x =>
   cases x with
   | true=>rfl
   | false =>
    have h3:=off_set ha
    have h4:off b≤off (a.set i true):=off_le (by rw [List.length_set]; exact h.1) fun j hj=>by
     rw [List.getElem?_set] at hj
     split at hj
     ·rename_i e; subst e; exact hi
     ·exact h.2 j hj
    omega
theorem turns_fix {f:Fn} : ∀ {k:Nat} {o:List Bool},off o<k→rRound f (rTurns f k o)=rTurns f k o
 | 0,o,h=>by omega
 | k+1,o,h=>by
  rw [rTurns]
  split
  ·rename_i e; exact e
  ·rename_i e
   have:=inc_off (round_inc f o) e
   exact turns_fix (by omega)
theorem turns_inv {f:Fn} {P:List Bool→Prop} (hs : ∀ o,P o→P (rRound f o)) : ∀ {k:Nat} {o:List Bool},P o→P (rTurns f k o)
 | 0,o,h=>h
 | k+1,o,h=>by
  rw [rTurns]
  split
  ·exact h
  ·exact turns_inv hs (hs o h)
theorem marks_on {o:List Bool} {l:List Int} (h:marks o l=o) {v:Int} (hv:v∈l) (hr:v.toNat<o.length):on o v=true:=by
 have:=foldl_fix (fun o v=>inc_set o _) h v hv
 rw [on_iff, ←this,List.getElem?_set_self hr]
def rootsB (b:Block):List Int:=(b.code.flatMap fun x=>if pure x.op then [] else x.args++x.outs)++(b.term.args++if branches b.term then [b.term.arg] else [])
def roots (f:Fn):List Int:=(f.blocks.getD 0 default).params++f.blocks.flatMap rootsB
theorem head_mem {f:Fn} (h:DOk f):f.blocks.getD 0 default∈f.blocks:=by
 cases hb:f.blocks with
 | nil=>exact absurd hb h.ne
 | cons b bs=>simp
theorem roots_in {f:Fn} (h:DOk f) : ∀ v∈roots f,InR f.types.length v:=fun v hv=>by
 rcases List.mem_append.1 hv with hv | hv
 ·exact h.pars _ (head_mem h) v hv
 ·obtain ⟨b,hb,hv⟩:=List.mem_flatMap.1 hv
  rcases List.mem_append.1 hv with hv | hv
  ·obtain ⟨x,hx,hv⟩:=List.mem_flatMap.1 hv
   split at hv
   ·simp at hv
   ·rcases List.mem_append.1 hv with hv | hv
    ·exact h.args b hb x hx v hv
    ·exact h.outs b hb x hx v hv
  ·rcases List.mem_append.1 hv with hv | hv
   ·exact h.targs b hb v hv
   ·split at hv
    ·rename_i hk
     simp only [List.mem_singleton] at hv
     subst hv
     exact h.targ b hb hk
    ·simp at hv
theorem marks_sub {P:Nat→Prop} {o:List Bool} {l:List Int} (ho : ∀ i:Nat,o[i]? = some true→P i) (hl : ∀ v∈l,P v.toNat) : ∀ i:Nat,(marks o l)[i]? = some true→P i:=by
 unfold marks
 refine foldl_inv (P:=fun o:List Bool => ∀ i:Nat,o[i]? = some true→P i) ho fun t v hv ht i hi => ?_
 rw [List.getElem?_set] at hi
 split at hi
 ·rename_i e; subst e; exact hl v hv
 ·exact ht i hi
theorem rneed_marks {f:Fn} (h:DOk f):Marks (askTab f) (List.replicate f.types.length false) (roots f) (rTurns f (f.types.length+1) (marks (List.replicate f.types.length false) (f.blocks.getD 0 default).params)):=by
 have hoff:off (marks (List.replicate f.types.length false) (f.blocks.getD 0 default).params)<f.types.length+1:=by
  have h1:off (marks (List.replicate f.types.length false) (f.blocks.getD 0 default).params)≤(marks (List.replicate f.types.length false) (f.blocks.getD 0 default).params).length:=List.countP_le_length
  have h2:=(marks_inc (List.replicate f.types.length false) (f.blocks.getD 0 default).params).1
  rw [List.length_replicate] at h2
  omega
 have hfix:=turns_fix (f:=f) hoff
 have hinc:Inc (marks (List.replicate f.types.length false) (f.blocks.getD 0 default).params) (rTurns f (f.types.length+1) (marks (List.replicate f.types.length false) (f.blocks.getD 0 default).params)) :=
  turns_inv (P:=fun o=>Inc (marks (List.replicate f.types.length false) (f.blocks.getD 0 default).params) o) (fun o ho=>ho.trans (round_inc f o)) (.refl _)
 have hlen:(rTurns f (f.types.length+1) (marks (List.replicate f.types.length false) (f.blocks.getD 0 default).params)).length=f.types.length:=by
  rw [←hinc.1, ←(marks_inc _ _).1,List.length_replicate]
 have hleast : ∀ P:Nat→Prop,(∀ v∈roots f,P v.toNat)→(∀ i:Nat,P i → ∀ u∈(askTab f).getD i [],P u.toNat) → ∀ i:Nat,(rTurns f (f.types.length+1) (marks (List.replicate f.types.length false) (f.blocks.getD 0 default).params))[i]? = some true→P i:=by
  intro P hr hc
  let Q:=fun o:List Bool => ∀ i:Nat,o[i]? = some true→P i
  have hrB : ∀ b∈f.blocks, ∀ v∈rootsB b,P v.toNat:=fun b hb v hv=>hr v (by
   simp only [roots,List.mem_append,List.mem_flatMap]; exact .inr ⟨b,hb,hv⟩)
  refine turns_inv (P:=Q) (fun o ho => ?_) (marks_sub (P:=P) (fun i hi => ?_) fun v hv=>hr v (by simp only [roots,List.mem_append]; exact .inl hv))
  ·unfold rRound
   refine foldl_inv (P:=Q) ho fun o b hb ho => ?_
   unfold rBlock
   refine foldl_inv (P:=Q) ?_ fun o e he ho => ?_
   ·have hcode:Q (b.code.foldl rIns o):=foldl_inv (P:=Q) ho fun o x hx ho=>by
     unfold rIns
     split
     ·rename_i hp
      split
      ·rename_i hon
       obtain ⟨v,hv⟩:=h.one b hb x hx hp
       rw [hv] at hon
       have hPv:=ho _ (on_iff.1 hon)
       exact marks_sub ho fun u hu=>hc _ hPv u (by
        have:=tab_full h (v:=v) (u:=u) (.inl ⟨b,hb,x,hx,hp,hv,hu⟩)
        simpa using this)
      ·exact ho
     ·rename_i hp
      have hin : ∀ v∈x.args++x.outs,P v.toNat:=fun v hv=>hrB b hb v (by
       simp only [rootsB,List.mem_append,List.mem_flatMap]
       exact .inl ⟨x,hx,by rw [if_neg hp]; exact hv⟩)
      exact marks_sub (marks_sub ho fun v hv=>hin v (by simp [hv])) fun v hv=>hin v (by simp [hv])
    have hargs:=marks_sub (l:=b.term.args) hcode fun v hv=>hrB b hb v (by simp only [rootsB,List.mem_append]; exact .inr (.inl hv))
    unfold rTerm
    split
    ·rename_i hk
     intro i hi
     rw [List.getElem?_set] at hi
     split at hi
     ·rename_i e
      subst e
      exact hrB b hb _ (by simp only [rootsB,List.mem_append]; exact .inr (.inr (by rw [if_pos hk]; simp)))
     ·exact hargs i hi
    ·exact hargs
   ·unfold rEdge
    refine foldl_inv (P:=Q) ho fun o q hq ho => ?_
    unfold rPar
    split
    ·rename_i hon
     intro i hi
     rw [List.getElem?_set] at hi
     split at hi
     ·rename_i e2
      subst e2
      exact hc _ (ho _ (on_iff.1 hon)) _ (tab_full h (.inr ⟨b,hb,e,he,hq⟩))
     ·exact ho i hi
    ·exact ho
  ·have:=List.mem_of_getElem? hi
   rw [List.mem_replicate] at this
   cases this.2
 generalize rTurns f (f.types.length+1) (marks (List.replicate f.types.length false) (f.blocks.getD 0 default).params)=R at *
 have hblk : ∀ b∈f.blocks,rBlock f.blocks R b=R:=foldl_fix (block_inc f.blocks) hfix
 have hpart : ∀ b∈f.blocks,(∀ x∈b.code,rIns R x=R)∧rTerm R b.term=R ∧ ∀ e∈b.term.to,rEdge f.blocks R e=R:=fun b hb=>by
  have e:=hblk b hb
  unfold rBlock at e
  have i1:=foldl_inc ins_inc b.code R
  have i2:=term_inc (b.code.foldl rIns R) b.term
  have i3:=foldl_inc (edge_inc f.blocks) b.term.to (rTerm (b.code.foldl rIns R) b.term)
  rw [e] at i3
  have e1:b.code.foldl rIns R=R:=(i2.trans i3).anti i1
  rw [e1] at e i2 i3
  have e2:rTerm R b.term=R:=i3.anti i2
  rw [e2] at e
  exact ⟨foldl_fix ins_inc e1,e2,foldl_fix (edge_inc f.blocks) e⟩
 have hlt : ∀ v,InR f.types.length v→v.toNat<R.length:=fun v hv=>by have:=hv.1; have:=hv.2; omega
 have hmm : ∀ {l m:List Int},marks (marks R l) m=R→marks R l=R∧marks R m=R:=fun {l m} e=>by
  have i1:=marks_inc R l
  have i2:=marks_inc (marks R l) m
  rw [e] at i2
  have e1:=i2.anti i1
  exact ⟨e1,by rw [e1] at e; exact e⟩
 refine ⟨by rw [hlen,List.length_replicate],fun i hi => ?_,fun v hv => ?_,fun i hi => .inr fun u hu => ?_,fun P _ h1 h2=>hleast P h1 h2⟩
 ·have:=List.mem_of_getElem? hi
  rw [List.mem_replicate] at this
  cases this.2
 ·have hvr:=hlt v (roots_in h v hv)
  rcases List.mem_append.1 hv with hv | hv
  ·refine on_iff.2 (hinc.2 _ ?_)
   have hfx:marks (marks (List.replicate f.types.length false) (f.blocks.getD 0 default).params) (f.blocks.getD 0 default).params=marks (List.replicate f.types.length false) (f.blocks.getD 0 default).params:=by
    refine Inc.anti ⟨(marks_inc _ _).1.symm,fun i hi => ?_⟩ (marks_inc _ _)
    refine marks_sub (P:=fun i=>(marks (List.replicate f.types.length false) (f.blocks.getD 0 default).params)[i]? = some true) (fun i hi=>hi) (fun u hu => ?_) i hi
    have hur:u.toNat<f.types.length:=by obtain ⟨a1,a2⟩:=h.pars _ (head_mem h) u hu; omega
    have key : ∀ (l:List Int) (o:List Bool),u∈l→u.toNat<o.length→(marks o l)[u.toNat]? = some true:=by
     intro l
     induction l with
     | nil=>intro o hu; simp at hu
     | cons a l ih =>
      intro o hu ho
      rcases List.mem_cons.1 hu with rfl | hu
      ·exact (marks_inc (o.set u.toNat true) l).2 _ (List.getElem?_set_self ho)
      ·exact ih _ hu (by rw [List.length_set]; exact ho)
    exact key _ _ hu (by rw [List.length_replicate]; exact hur)
   exact on_iff.1 (marks_on hfx hv (by rw [←(marks_inc _ _).1,List.length_replicate]; omega))
  ·obtain ⟨b,hb,hv⟩:=List.mem_flatMap.1 hv
   obtain ⟨p1,p2,_⟩:=hpart b hb
   rcases List.mem_append.1 hv with hv | hv
   ·obtain ⟨x,hx,hv⟩:=List.mem_flatMap.1 hv
    have e:=p1 x hx
    unfold rIns at e
    split at hv
    ·simp at hv
    ·rename_i hp
     rw [if_neg hp] at e
     obtain ⟨e1,e2⟩:=hmm e
     rcases List.mem_append.1 hv with hv | hv
     ·exact marks_on e2 hv hvr
     ·exact marks_on e1 hv hvr
   ·unfold rTerm at p2
    split at p2
    ·rename_i hk
     have i1:=marks_inc R b.term.args
     have i2:=inc_set (marks R b.term.args) b.term.arg.toNat
     rw [p2] at i2
     have e1:=i2.anti i1
     rcases List.mem_append.1 hv with hv | hv
     ·exact marks_on e1 hv hvr
     ·rw [if_pos hk,List.mem_singleton] at hv
      subst hv
      rw [e1] at p2
      rw [on_iff, ←p2,List.getElem?_set_self hvr]
    ·rename_i hk
     rcases List.mem_append.1 hv with hv | hv
     ·exact marks_on p2 hv hvr
     ·rw [if_neg hk] at hv; simp at hv
 ·have ha:=tab_sound h (i:Int) u (by omega) (by simpa using hu)
  rcases ha with ⟨b,hb,x,hx,hp,ho,hxu⟩ | ⟨b,hb,e,he,hq⟩
  ·have e:=(hpart b hb).1 x hx
   unfold rIns at e
   rw [if_pos hp,ho,if_pos (by rw [on_iff]; simpa using hi)] at e
   exact marks_on e hxu (hlt u (h.args b hb x hx u hxu))
  ·have e:=foldl_fix par_inc ((hpart b hb).2.2 e he) _ hq
   unfold rPar at e
   rw [if_pos (by rw [on_iff]; simpa using hi)] at e
   have hur:=hlt u (h.eargs b hb _ he u (List.of_mem_zip hq).2)
   rw [on_iff, ←e]
   exact List.getElem?_set_self hur
theorem need_same {f:Fn} (h:DOk f) {m:List Int} (hm : ∀ v,v∈m↔v∈roots f):rTurns f (f.types.length+1) (marks (List.replicate f.types.length false) (f.blocks.getD 0 default).params)=dfs (askTab f) (f.types.length+1) (List.replicate f.types.length false) m:=by
 refine marks_eq (rneed_marks h) (dfs_marks (N:=f.types.length) (fun l hl u hu => ?_) _ _ _ (by simp) (fun v hv => ?_) ?_) fun v=>(hm v).symm
 ·obtain ⟨i,hi⟩:=List.mem_iff_getElem?.1 hl
  have hu':u∈(askTab f).getD ((i:Int)).toNat []:=by
   rw [List.getD_eq_getElem?_getD,Int.toNat_natCast,hi]; exact hu
  have hr:InR f.types.length u:=by
   rcases tab_sound h (i:Int) u (by omega) hu' with ⟨b,hb,x,hx,_,_,hxu⟩ | ⟨b,hb,e,he,hq⟩
   ·exact h.args b hb x hx u hxu
   ·exact h.eargs b hb e he u (List.of_mem_zip hq).2
  have:=hr.1; have:=hr.2; omega
 ·have hr:=roots_in h v ((hm v).1 hv)
  have:=hr.1; have:=hr.2; omega
 ·have h1:off (List.replicate f.types.length false)≤(List.replicate f.types.length false).length:=List.countP_le_length
  rw [List.length_replicate] at h1
  omega
end Ss

namespace Go.Vw
open Go.Proofs Go.RowKit
set_option maxRecDepth 10000
set_option maxHeartbeats 2000000
def zE:Store:=⟨fun _=>none,0⟩
theorem zE_ok (S:Store):zE.Sub S∧zE.Shp S:=⟨fun o c h=>(by cases h),fun o c h=>(by cases h)⟩
theorem vcallv_t {P:Program} {σ:Fr} {Z:ZZ} {K:Fr→Store→Prop} {d:Option Nat} {g:FuncId} {caps:List V} {fz:Arg} {args:List Arg} {xs:List V} {r:List CO} {X:V} {S S':Store} (hf:ev σ fz = .func g caps) (hc:callable P g=true) (ha:args.map (ev σ)++caps=xs) (h:VCalls P g xs S fun r T=>r=X∧T=S') (hw:wrcL Z.es d=true) (ht:trnL Z.es d=true) (hz:Z.ok S') (H:vsegG P (some Z) r K (σ.put d X) S'):vsegG P (some Z) (⟨d,none, .callv fz args⟩::r) K σ S:=by
 rw [vs_callv,hf]; simp only [vcallv]; rw [ha]
 refine ⟨hc, ?_⟩
 show vcallK P (some Z) d g xs S _
 simp only [vcallK]
 rw [if_pos hw]
 exact ⟨X,S', .inl ht,h,hz,H⟩
theorem Mark_v (t:List (List Int)) (N pn pm pa on:Nat) (ht:t.length=N) (hN:N<2^62) (hr : ∀ l∈t,l.length<2^62) (hi : ∀ l∈t, ∀ u∈l,Ss.InR N u) :
  ∀ (n:Nat) (need:List Bool) (l:List Int) (S:Store),Ss.off need<n→need.length=N→l.length<2^62→(∀ v∈l,Ss.InR N v)→S.get pn=some (1,[.slice on 0 N])→S.get on=some (1,need.map V.bool)→S.get pa=some (1,[vl (vl vint) t])→S.get pm=some (1,[.func 68 [.ptr pn 0, .ptr pm 0, .ptr pa 0]])→on≠pn→on≠pa→on≠pm →
   VCalls Tryz.prog 68 [vl vint l, .ptr pn 0, .ptr pm 0, .ptr pa 0] S fun v T=>v = .tuple []∧T=S.upd on (1,(Ss.dfs t n need l).map V.bool):=by
 intro n
 induction n with
 | zero=>intro need l S h; omega
 | succ n ih =>
 intro need l S hoff hnl hll hlr gn go ga gm d1 d2 d3
 refine vcalls_start (c:=bodyOf Tryz.f68) Tryz.func68 rfl rfl (by simp [Tryz.ntmps68]) ?_
 rw [Tryz.ntmps68]
 intro hwf
 have ln:=old_lt hwf gn
 have lo:=old_lt hwf go
 have la:=old_lt hwf ga
 have lm:=old_lt hwf gm
 repeat (first|refine QG ?_|refine QX (r:=by conv=>lhs;simp[-List.map_set,QV]) (k:=?_))
 repeat refine QS ?_
 refine vw_loopAt [1,2,3,7,8,9] rfl (fun c σ S' => ∃ (k:Nat) (nd:List Bool),k≤l.length∧c=l.length-k∧nd.length=N∧Ss.off nd<n+1∧Ss.dfs t (n+1) nd (l.drop k)=Ss.dfs t (n+1) need l∧σ=[(1, .ptr pn 0),(2, .ptr pm 0),(3, .ptr pa 0),(7,vl vint l),(8,vnat l.length),(9,vnat k)]∧S'=St S [(on,some (1,nd.map V.bool))] []) l.length ?_ ?_
 ·refine ⟨0,need,by omega,rfl,hnl,hoff,rfl,by simp [Fr.only], ?_⟩
  exact (St_tell hwf [(on,some (1,need.map V.bool))] (fun p hp=>by simp only [List.mem_singleton] at hp; subst hp; exact go)).symm▸St_nil hwf
 ·rintro c σ T ⟨k,nd,hk,rfl,hndl,hndo,hd,rfl,rfl⟩
  by_cases hkt:k<l.length
  ·have hw:=wrapNat hkt (by omega)
   have hst:=List.drop_eq_getElem_cons hkt
   rw [hst,Ss.dfs] at hd
   obtain ⟨v0,v1⟩:=hlr l[k] (List.getElem_mem hkt)
   obtain ⟨m,hlk⟩ : ∃ m:Nat,l[k]=(m:Int):=⟨l[k].toNat,by omega⟩
   rw [hlk] at hd v0 v1
   have hm:m<N:=by omega
   have bn:=fun u l => @St_old S u l pn ln
   have bo:=fun u l => @St_old S u l on lo
   have ba:=fun u l => @St_old S u l pa la
   have bm:=fun u l => @St_old S u l pm lm
   have hno:pn≠on:=Ne.symm d1
   have hna:pa≠on:=Ne.symm d2
   have hnm:pm≠on:=Ne.symm d3
   have hmo:m<nd.length:=by omega
   have hmt:m<t.length:=by omega
   have hon:Ss.on nd (m:Int)=nd[m]:=by rw [Ss.on,List.getD_eq_getElem?_getD,Int.toNat_natCast,List.getElem?_eq_getElem hmo]; rfl
   have htd:t.getD ((m:Int)).toNat []=t[m]:=by rw [List.getD_eq_getElem?_getD,Int.toNat_natCast,List.getElem?_eq_getElem hmt]; rfl
   rw [hon,htd,Int.toNat_natCast] at hd
   have hup : ∀ x c,(St S [(on,x)] []).upd on c=St S [(on,some c)] []:=fun x c=>by rw [St_updOld lo]; simp [uSet]
   cases hb:nd[m] with
   | true =>
    rw [hb] at hd
    simp only [if_true] at hd
    repeat (first|refine QG ?_|refine QX (r:=by conv=>lhs;simp[-List.map_set,QV,hkt,hlk,bn,bo,gn,go,hno,hmo,hb,hndl,hm,hw]) (k:=?_))
    show Again _ _ _ _ _ _ _
    exact again ⟨Nat.sub_lt_sub_left hkt (Nat.lt_succ_self k),k+1,nd,hkt,rfl,hndl,hndo,hd,by simp [Fr.only,Fr.look],rfl⟩
   | false =>
    rw [hb] at hd
    simp only [Bool.false_eq_true,if_false] at hd
    have hof:=Ss.off_set (a:=nd) (i:=m) (by rw [List.getElem?_eq_getElem hmo,hb])
    have cih:=fun S'=>ih (nd.set m true) t[m] S' (by omega) (by rw [List.length_set]; exact hndl) (hr _ (List.getElem_mem hmt)) (fun v hv=>hi _ (List.getElem_mem hmt) v hv)
    have hmk:=Ss.dfs_marks (asks:=t) (N:=N) (fun l hl u hu=>by obtain ⟨h1,h2⟩:=hi l hl u hu; omega) n (nd.set m true) t[m] (by rw [List.length_set]; exact hndl) (fun u hu=>by obtain ⟨h1,h2⟩:=hi _ (List.getElem_mem hmt) u hu; omega) (by omega)
    have hof2:=Ss.off_le (a:=nd.set m true) (b:=Ss.dfs t n (nd.set m true) t[m]) hmk.len.symm hmk.mono
    generalize hD:Ss.dfs t n (nd.set m true) t[m]=D at *
    repeat (first|refine QG ?_|refine QX (r:=by conv=>lhs;simp[-List.map_set,QV,hkt,hlk,bn,bo,gn,go,hno,hmo,hb,hndl,hm,hw,hup]) (k:=?_))
    repeat refine QS ?_
    refine vw_drawW (zE) (zE) [21,22,24,25,20026] rfl (by kernel_rfl) (by conv=>lhs; reduce) (by conv=>lhs; reduce) (by kernel_rfl) (by kernel_rfl) (zE_ok _) (by conv=>lhs; simp [-List.map_set,QV,bn,ba,bm,gn,ga,gm,hno,hna,hnm,hlk,hmt]) ?_
    have hcall:=cih (St S [(on,some (1,(nd.set m true).map V.bool))] []) ((bn _ _).trans (by simp only [uGet,if_neg hno]; exact gn)) ((bo _ _).trans (by simp [uGet])) ((ba _ _).trans (by simp only [uGet,if_neg hna]; exact ga)) ((bm _ _).trans (by simp only [uGet,if_neg hnm]; exact gm)) d1 d2 d3
    rw [hup] at hcall
    refine vcallv_t (by rfl) (by rfl) (by rfl) hcall (by rfl) (by rfl) (zE_ok _) ?_
    refine QM (by conv=>lhs;simp[-List.map_set,QV]) ?_
    refine QN ?_
    repeat (first|refine QG ?_|refine QX (r:=by conv=>lhs;simp[-List.map_set,QV,hw]) (k:=?_))
    show Again _ _ _ _ _ _ _
    exact again ⟨Nat.sub_lt_sub_left hkt (Nat.lt_succ_self k),k+1,D,hkt,rfl,by rw [hmk.len,List.length_set]; exact hndl,by omega,hd,by simp [Fr.only,Fr.look],rfl⟩
  ·have hke:k=l.length:=by omega
   subst hke
   rw [List.drop_length,Ss.dfs] at hd
   subst hd
   repeat (first|refine QG ?_|refine QX (r:=by conv=>lhs;simp[-List.map_set,QV,hkt]) (k:=?_))
   refine done_turned (X := .tuple []) (S':=S.upd on (1,(Ss.dfs t (n+1) need l).map V.bool)) hwf (by simp) rfl ?_ ?_ ⟨rfl,rfl⟩
   ·simp [gcOkU,gcOkE]
   ·simp only [gcU,gcE,Option.map_some,renL_bool]
    exact St_upd1 hwf lo
end Go.Vw

namespace Ss
theorem total_one {e:Env} {op n out:Int} (h:total op=true) : ∃ t,(form e op n out).outs=[t]:=by
 have h1:op≠258:=fun e=>by subst e; revert h; decide
 have h2:op≠16:=fun e=>by subst e; revert h; decide
 have h3:op≠35:=fun e=>by subst e; revert h; decide
 have h4:op≠36:=fun e=>by subst e; revert h; decide
 have h5:op≠256:=fun e=>by subst e; revert h; decide
 have h6:op≠27:=fun e=>by subst e; revert h; decide
 have e0:form e op n out=formNum e op:=by simp [form,h1,h2,h3,h4,h5,h6]
 rw [e0]
 unfold total at h
 unfold formNum numSig
 cases hf:find op with
 | none=>rw [hf] at h; simp at h
 | some g=>exact ⟨_,rfl⟩
theorem pure_one {e:Env} {op n out:Int} (h:pure op=true) : ∃ t,(form e op n out).outs=[t]:=by
 simp only [pure,Bool.or_eq_true,decide_eq_true_eq] at h
 rcases h with (rfl | rfl) | h
 ·by_cases ho:out=127<;>simp [form,ho]
 ·simp [form]
 ·exact total_one h
theorem asks_in {ts:List Int} {ds:List Def} {near:List Int} {block pos:Int} {l types:List Int} (h:asks ts ds near block pos l types=true) {v:Int} (hv:v∈l):InR ds.length v:=by
 obtain ⟨t,ht⟩:=eqF_fst h v hv
 simp only [askOk,Bool.and_eq_true,decide_eq_true_eq] at ht
 exact ⟨ht.1.1.1.1,ht.1.1.1.2⟩
theorem check_dok {e:Env} {f:Fn} (h:check e f=true):DOk f:=by
 obtain ⟨hh,ds,hds,hsh,hB⟩:=check_spec h
 obtain ⟨hlen,hin⟩:=defs_in hds
 obtain ⟨hnd,hmade,hat⟩:=defs_made hds
 have hpar:=putBlocks_params hds
 have hr:Go.Vw.G.right (succs f.blocks)=true:=by
  simp only [shapeOk,Bool.and_eq_true] at hsh
  exact hsh.1.1.1.1
 have hto:=right_to hr
 have hblk : ∀ b∈f.blocks, ∃ j:Nat,f.blocks[j]? = some b∧checkCode e f ds (Go.Vw.G.nearI (succs f.blocks)) (j:Int) 0 b.code=true∧termOk f ds (Go.Vw.G.nearI (succs f.blocks)) (j:Int) b=true:=fun b hb=>by
  obtain ⟨j,hj⟩:=List.mem_iff_getElem?.1 hb
  have:=checkBlocks_at hB hj
  rw [Nat.zero_add] at this
  exact ⟨j,hj,this⟩
 have hins : ∀ b∈f.blocks, ∀ x∈b.code, ∃ j k:Nat,f.blocks[j]? = some b∧b.code[k]? = some x∧insOk e f ds (Go.Vw.G.nearI (succs f.blocks)) (j:Int) (k:Int) x=true:=fun b hb x hx=>by
  obtain ⟨j,hj,hc,_⟩:=hblk b hb
  obtain ⟨k,hk⟩:=List.mem_iff_getElem?.1 hx
  have:=checkCode_at hc hk
  rw [Nat.zero_add] at this
  exact ⟨j,k,hj,hk,this⟩
 have hterm : ∀ b∈f.blocks, ∃ (j:Int) (le mo:Nat) (rs:List Int),termTail f ds (Go.Vw.G.nearI (succs f.blocks)) j b.code.length b.term le mo rs=true:=fun b hb=>by
  obtain ⟨j,hj,_,ht⟩:=hblk b hb
  unfold termOk at ht
  split at ht
  ·exact ⟨_,_,_,_,ht⟩
  ·cases ht
 have hone : ∀ b∈f.blocks, ∀ x∈b.code,pure x.op=true → ∃ o,x.outs=[o]:=fun b hb x hx hp=>by
  obtain ⟨j,k,_,_,hi⟩:=hins b hb x hx
  simp only [insOk,Bool.and_eq_true,decide_eq_true_eq] at hi
  obtain ⟨t,ht⟩:=pure_one (e:=e) (n:=x.n) (out:=insOut f.types x) hp
  have h1:=hi.1.2
  rw [ht] at h1
  have h2:=congrArg List.length h1
  simp only [typesOf,List.length_map,List.length_singleton] at h2
  exact List.length_eq_one_iff.1 h2
 refine ⟨fun hb => ?_,fun b hb x hx v hv=>(hin b hb).2 x hx v hv,hone,fun b hb x hx v hv => ?_,fun b hb v hv=>(hin b hb).1 v hv,fun b hb v hv => ?_,fun b hb hk => ?_,fun b hb x hx v hv => ?_,fun b hb x hx => ?_,fun b hb c hc x hx y hy hp hq he => ?_,fun b hb c hc p hp y hy hm => ?_⟩
 ·simp only [shapeOk,Bool.and_eq_true] at hsh
  have:=hsh.2
  rw [hb] at this
  cases this
 ·obtain ⟨j,k,_,_,hi⟩:=hins b hb x hx
  have:=asks_in (insOk_asks hi) hv
  rwa [hlen] at this
 ·obtain ⟨j,le,mo,rs,ht⟩:=hterm b hb
  simp only [termTail,Bool.and_eq_true] at ht
  have:=asks_in ht.1.2 hv
  rwa [hlen] at this
 ·obtain ⟨j,le,mo,rs,ht⟩:=hterm b hb
  simp only [termTail,Bool.and_eq_true] at ht
  have h1:=ht.1.1.1.1
  rw [if_pos hk] at h1
  have:=asks_in h1 (v:=b.term.arg) (by simp)
  rwa [hlen] at this
 ·obtain ⟨j,le,mo,rs,ht⟩:=hterm b hb
  simp only [termTail,Bool.and_eq_true,List.all_eq_true] at ht
  have h1:=ht.2 x hx
  simp only [edgeOk,Bool.and_eq_true] at h1
  have:=asks_in h1.2 hv
  rwa [hlen] at this
 ·obtain ⟨j,le,mo,rs,ht⟩:=hterm b hb
  simp only [termTail,Bool.and_eq_true,List.all_eq_true] at ht
  have h1:=ht.2 x hx
  simp only [edgeOk,Bool.and_eq_true] at h1
  have h2:=eqF_len h1.2
  simp only [typesOf,List.length_map] at h2
  exact ⟨(hto b hb x hx).1,(hto b hb x hx).2,h2⟩
 ·obtain ⟨o,ho⟩:=hone b hb x hx hp
  obtain ⟨j,k,hj,hk,_⟩:=hins b hb x hx
  obtain ⟨j',k',hj',hk',_⟩:=hins c hc y hy
  have a1:=hat j b hj k x hk o (by simp [ho])
  have a2:=hat j' c hj' k' y hk' o (by simp [←he,ho])
  rw [a1] at a2
  simp only [Def.mk.injEq,true_and] at a2
  have e1:j=j':=by omega
  have e2:k=k':=by omega
  subst e1
  subst e2
  rw [hj] at hj'
  cases hj'
  rw [hk] at hk'
  cases hk'
  rfl
 ·obtain ⟨j,hj⟩:=List.mem_iff_getElem?.1 hb
  obtain ⟨j',k',hj',hk',_⟩:=hins c hc y hy
  have a1:=hpar j b hj p hp
  have a2:=hat j' c hj' k' y hk' p hm
  rw [a1] at a2
  simp only [Def.mk.injEq,true_and] at a2
  omega
end Ss

namespace Ss
def dNeed (f:Fn):List Bool:=dfs (askTab f) (f.types.length+1) (List.replicate f.types.length false) (roots f)
def dKeep (need:List Bool) (x:Ins):Bool := !pure x.op||on need (x.outs.getD 0 0)
def dEdge (need:List Bool) (bs:List Block) (e:Edge):Edge:=⟨e.to,(((bs.getD e.to.toNat default).params.zip e.args).filter fun q=>on need q.1).map Prod.snd⟩
def dBlock (need:List Bool) (bs:List Block) (b:Block):Block:=⟨b.params.filter (on need),b.code.filter (dKeep need),⟨b.term.kind,b.term.arg,b.term.to.map (dEdge need bs),b.term.args⟩⟩
def dceF (f:Fn):Fn:=⟨f.sig,f.types,f.blocks.map (dBlock (dNeed f) f.blocks)⟩
def dceOut (e:Env) (f:Fn):Fn × Int:=if check e f then (dceF f,0) else (⟨⟨[],[]⟩,[],[]⟩,6)
theorem dNeed_marks {f:Fn} (h:DOk f):Marks (askTab f) (List.replicate f.types.length false) (roots f) (dNeed f):=by
 have:=need_same h (m:=roots f) fun v=>Iff.rfl
 unfold dNeed
 rw [←this]
 exact rneed_marks h
end Ss
