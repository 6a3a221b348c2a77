import Derived.Test.YtkfllaokjaldnaaGreatC39
import Derived.Test.YtkfllaokjaldnaaGreatC40
import Derived.Test.YtkfllaokjaldnaaGreatC27
import Derived.Test.YtkfllaokjaldnaaGreatC33
import Derived.Test.YtkfllaokjaldnaaGreatC34
import Derived.Test.YtkfllaokjaldnaaGreatC35
import Derived.Test.YtkfllaokjaldnaaGreatC38
import Derived.Test.YtkfllaokjaldnaaGreatC32
/-
  Part of the proof (texts LRunH, LRInv, LRRun, LRPure).
-/
set_option linter.unusedVariables false
set_option linter.unusedSimpArgs false
namespace Go.Vw
open Go.Proofs Go.RowKit
set_option maxRecDepth 10000
set_option maxHeartbeats 2000000
theorem plus_none {S:Store} (h:S.Wf):plus S ⟨fun _=>none,0⟩=S:=by
 refine Store.ext' (funext fun o => ?_) rfl;simp only [plus];split
 ·rfl
 ·rw [h.gone o (by omega)]; rfl
theorem VPure.thawF {P:Program} {f:FuncId} {xs xs':List V} {S S':Store} {X:V} (h:VPure P f xs' X) (hg:GhostArgs xs S xs' S') (hcl : ∀ x∈xs',x.closed=true) (hf:flatV X=true) (hsx : ∀ n,jbh n X=X):VCalls P f xs S fun r T=>r=X∧T=S:=by
 refine Jb fun hw => ?_
 refine ((h ⟨fun _=>none,0⟩).thaw hg hcl ?_).mono ?_
 ·rintro r T ⟨rfl,rfl⟩;exact ⟨hf,fun o c hc=>by cases hc⟩
 ·rintro r T ⟨r0,T0,⟨rfl,rfl⟩,rfl,rfl⟩;exact ⟨hsx _,plus_none hw⟩
theorem plus_one {S:Store} (h:S.Wf) (l:List Int):plus S (St ⟨fun _=>none,0⟩ [] [some (1,l.map vint)])=St S [] [some (1,l.map vint)]:=by
 refine Store.ext' (funext fun o => ?_) ?_
 ·simp only [plus,St]
  by_cases ho:o<S.nx
  ·simp [ho,uGet]
  ·rw [if_neg ho,if_neg ho];simp only [Nat.not_lt_zero,if_false,Nat.sub_zero]
   cases hk:o-S.nx with
   | zero=>simp [Wz,vint]
   | succ k=>simp
 ·simp [plus,St,lid]
def y1 (o:Nat) (c:Nat × List V):Store:=⟨fun q=>if q=o then some c else none,0⟩
theorem y1_sub {o:Nat} {c:Nat × List V} {S:Store} (h:S.get o=some c):(y1 o c).Sub S:=fun q d hd=>by
 simp only [y1] at hd; split at hd
 ·rename_i e; subst e; cases hd; exact h
 ·cases hd
theorem y1_get {o:Nat} {c:Nat × List V}:(y1 o c).get o=some c:=by simp [y1]
def y2 (o:Nat) (c:Nat × List V) (p:Nat) (d:Nat × List V):Store:=⟨fun q=>if q=o then some c else if q=p then some d else none,0⟩
theorem y2_sub {o p:Nat} {c d:Nat × List V} {S:Store} (h:S.get o=some c) (h2:S.get p=some d):(y2 o c p d).Sub S:=fun q e he=>by
 simp only [y2] at he; split at he
 ·rename_i e2; subst e2; cases he; exact h
 ·split at he
  ·rename_i e2; subst e2; cases he; exact h2
  ·cases he
theorem y2_shp {o p:Nat} {c d c' d':Nat × List V} {S:Store} (h:S.get o=some c') (hc:c'.1=c.1) (h2:S.get p=some d') (hd:d'.1=d.1):(y2 o c p d).Shp S:=fun q e he=>by
 simp only [y2] at he; split at he
 ·rename_i e2; subst e2; cases he; exact ⟨c',h,hc⟩
 ·split at he
  ·rename_i e2; subst e2; cases he; exact ⟨d',h2,hd⟩
  ·cases he
theorem y2_get {o p:Nat} {c d:Nat × List V}:(y2 o c p d).get o=some c:=by simp [y2]
theorem ZC {o p:Nat} {c d:Nat × List V} (h:p≠o):(y2 o c p d).get p=some d:=by simp [y2,h]
def y3 (o:Nat) (c:Nat × List V) (p:Nat) (d:Nat × List V) (q:Nat) (e:Nat × List V):Store:=⟨fun r=>if r=o then some c else if r=p then some d else if r=q then some e else none,0⟩
theorem y3_shp {o p q:Nat} {c d e c' d' e':Nat × List V} {S:Store} (h:S.get o=some c') (hc:c'.1=c.1) (h2:S.get p=some d') (hd:d'.1=d.1) (h3:S.get q=some e') (he:e'.1=e.1):(y3 o c p d q e).Shp S:=fun r x hx=>by
 simp only [y3] at hx; split at hx
 ·rename_i e2; subst e2; cases hx; exact ⟨c',h,hc⟩
 ·split at hx
  ·rename_i e2; subst e2; cases hx; exact ⟨d',h2,hd⟩
  ·split at hx
   ·rename_i e2; subst e2; cases hx; exact ⟨e',h3,he⟩
   ·cases hx
theorem y3_get {o p q:Nat} {c d e:Nat × List V}:(y3 o c p d q e).get o=some c:=by simp [y3]
theorem y3_get2 {o p q:Nat} {c d e:Nat × List V} (h:p≠o):(y3 o c p d q e).get p=some d:=by simp [y3,h]
theorem y3_get3 {o p q:Nat} {c d e:Nat × List V} (h:q≠o) (h2:q≠p):(y3 o c p d q e).get q=some e:=by simp [y3,h,h2]
section
variable {S H:Store} {hs:List Nat} {ob:Nat} {bs:List Ss.Block} {T:Store} {rs:List (List V)} {ids:List Nat}
theorem BInv.ext (h:BInv S H hs ob bs T rs ids) (hw:T.Wf) {T':Store} (hn:T.nx≤T'.nx) (hk : ∀ o,o<T.nx→T'.get o=T.get o):BInv S H hs ob bs T' rs ids:=by
 have hlt:=h.all_lt hw;obtain ⟨old,hd,al,cb,own,nd,lt⟩:=h;exact ⟨⟨Nat.le_trans old.1 hn,fun o ho=>(hk o (Nat.lt_of_lt_of_le ho old.1)).trans (old.2 o ho)⟩,fun o ho=>(hk o (hlt o (by simp [ho]))).trans (hd o ho),al,(hk ob (hlt ob (by simp))).trans cb,own.mono fun o ho=>hk o (hlt o (by simp [ho])),nd,lt⟩
theorem BInv.st (h:BInv S H hs ob bs T rs ids) (hw:T.Wf) (l:List (Option (Nat × List V))):BInv S H hs ob bs (St T [] l) rs ids :=
 h.ext hw (by rw [jQ,lid]; omega) fun o ho=>by rw [jt ho]; rfl
theorem BInv.ghost (h:BInv S H hs ob bs T rs ids) {fi fo ts:List Int} {ot:Nat} (hot:ot∈hs) (ht:T.get ot=some (1,ts.map vint)) (post:List V) :
  ∃ S',GhostArgs (.agg [vl vint fi,vl vint fo, .slice ot 0 ts.length, .slice ob 0 bs.length]::post) T (qD ⟨⟨fi,fo⟩,ts,bs⟩::post) S':=by
 have hnd:(ot::ob::ids).Nodup:=List.Sublist.nodup ((List.singleton_sublist.2 hot).append (List.Sublist.refl (ob::ids))) h.nd;exact ⟨_,GhostArgs.one [] post (fn_ghostD (fi:=fi) (fo:=fo) h.own.owl h.cb rfl ht rfl hnd)⟩
end
end Go.Vw

namespace Go.Vw
open Go.Proofs Go.RowKit
set_option maxRecDepth 10000
section
variable {S H:Store} {hs:List Nat} {ob:Nat} {bs:List Ss.Block} {T:Store} {rs:List (List V)} {ids:List Nat}
theorem EInv.code (h:EInv S H hs ob bs T rs ids) (hw:T.Wf) {i:Nat} (hi:i<bs.length) :
  ∃ (oc:Nat),rs.flatten[i*6+1]? = some (.slice oc 0 bs[i].code.length)∧T.get oc=some (4,jh jm bs[i].code)∧ob≠oc∧(∀ o∈hs,o≠oc∧o≠ob) ∧
   ∀ (T':Store) (oc':Nat) (code':List Ss.Ins),T.nx≤oc'→T.nx≤T'.nx→(∀ o,o<T.nx→o≠ob→o≠oc→T'.get o=T.get o)→T'.get ob=some (6,rs.flatten.set (i*6+1) (.slice oc' 0 code'.length))→T'.get oc'=some (4,jh jm code') → ∃ rs' ids',rs'.flatten=rs.flatten.set (i*6+1) (.slice oc' 0 code'.length)∧EInv S H hs ob (bs.set i ⟨bs[i].params,code',bs[i].term⟩) T' rs' ids':=by
 have hlt:=h.all_lt hw;obtain ⟨old,hd,al,cb,own,nd,lt⟩:=h;obtain ⟨r1,r,r2,i1,ii,i2,rfl,hl,rfl,hb,hput⟩:=own.at (List.getElem?_eq_getElem hi);have hr6:=own.len.2;obtain ⟨oc,oe,rfl,rfl,hoc,hoe⟩:=jbF hb;have h6 : ∀ s∈r1,s.length=6:=fun s hs=>hr6 s (by simp [hs])
 have sub:List.Sublist [oc,oe] (i1++([oc,oe]++i2)):=(List.sublist_append_left _ _).trans (List.sublist_append_right _ _);have hnd3:(hs++ob::[oc,oe]).Nodup:=List.Sublist.nodup ((List.Sublist.refl hs).append (sub.cons_cons ob)) nd;have ne1:ob≠oc∧ob≠oe∧oc≠oe:=by
  have h2:=(List.nodup_append.1 hnd3).2.1;simp only [List.nodup_cons,List.mem_cons,List.not_mem_nil,or_false,not_or] at h2;exact ⟨h2.1.1,h2.1.2,h2.2.1⟩
 have ne2 : ∀ o∈hs,o≠oc∧o≠ob:=fun o ho=>⟨(List.nodup_append.1 hnd3).2.2 o ho oc (by simp),(List.nodup_append.1 hnd3).2.2 o ho ob (by simp)⟩
 have le:=jA hw hoe;refine ⟨oc,Jo h6 hl (q:=1) rfl,hoc,ne1.1,ne2, ?_⟩;intro T' oc' code' hge hnx hk hcb hgc;have hfs:=Kb (m:=6) (r:=[vl vint bs[i].params, .slice oc 0 bs[i].code.length,vint bs[i].term.kind,vint bs[i].term.arg, .slice oe 0 bs[i].term.to.length,vl vint bs[i].term.args]) (r2:=r2) (q:=1) (w := .slice oc' 0 code'.length) h6 hl (by simp);rw [hfs] at hcb;refine ⟨_,i1++([oc',oe]++i2),hfs.symm, ?_⟩;have cnt : ∀ o,(hs++ob::(i1++([oc,oe]++i2))).count o≤1:=fun o=>List.nodup_iff_count.1 nd o
 simp only [List.count_append,List.count_cons,List.count_nil] at cnt;have pos : ∀ {o:Nat} {l:List Nat},o∈l→1≤l.count o:=fun h=>List.count_pos_iff.2 h
 have nob : ∀ o,o∈hs∨o∈i1∨o∈i2→o≠ob∧o≠oc:=by
  intro o ho;have c:=cnt o;refine ⟨?_, ?_⟩ <;>
  ·rintro rfl;simp only [beq_self_eq_true,if_true] at c;rcases ho with ho | ho | ho<;>(have:=pos ho; omega)
 have keep : ∀ o,o∈hs∨o∈i1∨o∈i2→T'.get o=T.get o:=fun o ho=>by
  obtain ⟨a1,a2⟩:=nob o ho;refine hk o (hlt o ?_) a1 a2;rcases ho with ho | ho | ho<;>simp [ho]
 have hblk:OwL T' blkE [vl vint bs[i].params, .slice oc' 0 code'.length,vint bs[i].term.kind,vint bs[i].term.arg, .slice oe 0 bs[i].term.to.length,vl vint bs[i].term.args] (jd ⟨bs[i].params,code',bs[i].term⟩).cells [oc',oe] :=
  WZ (b:=⟨bs[i].params,code',bs[i].term⟩) hgc ((hk oe le (Ne.symm ne1.2.1) (Ne.symm ne1.2.2)).trans hoe)
 refine ⟨⟨Nat.le_trans old.1 hnx,fun o ho => ?_⟩,fun o ho=>(keep o (.inl ho)).trans (hd o ho),al,hcb,hput T' _ ⟨bs[i].params,code',bs[i].term⟩ [oc',oe] (fun o ho=>keep o ?_) hblk, ?_,fun o ho => ?_⟩
 ·have l1:=lt ob (by simp);have l2:=lt oc (by simp);rw [hk o (Nat.lt_of_lt_of_le ho old.1) (by omega) (by omega)];exact old.2 o ho
 ·rcases List.mem_append.1 ho with ho | ho
  ·exact .inr (.inl ho)
  ·exact .inr (.inr ho)
 ·refine List.nodup_iff_count.2 fun o => ?_
  simp only [List.count_append,List.count_cons,List.count_nil];have c:=cnt o
  by_cases e:oc'=o
  ·subst e;have z1:hs.count oc'=0:=List.count_eq_zero.2 fun h=>by have:=hlt oc' (by simp [h]); omega
   have z2:i1.count oc'=0:=List.count_eq_zero.2 fun h=>by have:=hlt oc' (by simp [h]); omega
   have z3:i2.count oc'=0:=List.count_eq_zero.2 fun h=>by have:=hlt oc' (by simp [h]); omega
   have z4:(ob==oc')=false:=by have:=hlt ob (by simp); simp only [beq_eq_false_iff_ne]; omega
   have z5:(oe==oc')=false:=by have:=hlt oe (by simp); simp only [beq_eq_false_iff_ne]; omega
   rw [z1,z2,z3,z4,z5]; simp
  ·have:(oc'==o)=false:=by simpa using e
   rw [this];simp only [Bool.false_eq_true,if_false];omega
 ·simp only [List.mem_append,List.mem_cons,List.not_mem_nil,or_false] at ho;rcases ho with ho | ho | ho | (ho | ho) | ho
  ·exact lt o (by simp [ho])
  ·exact lt o (by simp [ho])
  ·exact lt o (by simp [ho])
  ·have:=old.1; omega
  ·exact lt o (by simp [ho])
  ·exact lt o (by simp [ho])
theorem EInv.ext (h:EInv S H hs ob bs T rs ids) (hw:T.Wf) {T':Store} (hn:T.nx≤T'.nx) (hk : ∀ o,o<T.nx→T'.get o=T.get o):EInv S H hs ob bs T' rs ids:=by
 have hlt:=h.all_lt hw;obtain ⟨old,hd,al,cb,own,nd,lt⟩:=h;exact ⟨⟨Nat.le_trans old.1 hn,fun o ho=>(hk o (Nat.lt_of_lt_of_le ho old.1)).trans (old.2 o ho)⟩,fun o ho=>(hk o (hlt o (by simp [ho]))).trans (hd o ho),al,(hk ob (hlt ob (by simp))).trans cb,own.mono fun o ho=>hk o (hlt o (by simp [ho])),nd,lt⟩
theorem EInv.st (h:EInv S H hs ob bs T rs ids) (hw:T.Wf) (l:List (Option (Nat × List V))):EInv S H hs ob bs (St T [] l) rs ids :=
 h.ext hw (by rw [jQ,lid]; omega) fun o ho=>by rw [jt ho]; rfl
theorem EInv.ghost (h:EInv S H hs ob bs T rs ids) {fi fo ts:List Int} {ot:Nat} (hot:ot∈hs) (ht:T.get ot=some (1,ts.map vint)) (post:List V) :
  ∃ S',GhostArgs (.agg [vl vint fi,vl vint fo, .slice ot 0 ts.length, .slice ob 0 bs.length]::post) T (qD ⟨⟨fi,fo⟩,ts,bs⟩::post) S':=by
 have hnd:(ot::ob::ids).Nodup:=List.Sublist.nodup ((List.singleton_sublist.2 hot).append (List.Sublist.refl (ob::ids))) h.nd;exact ⟨_,GhostArgs.one [] post (fn_ghostE (fi:=fi) (fo:=fo) h.own.owl h.cb rfl ht rfl hnd)⟩
end
theorem KN (l:List Ss.Ins):(jh jm l).length=l.length*4:=by
 rw [qA,qX (m:=4) (fun r hr=>by
  obtain ⟨x,_,rfl⟩:=List.mem_map.1 hr;rw [jV]; rfl),List.length_map]
theorem insL_take (l:List Ss.Ins) (k:Nat):(jh jm l).take (k*4)=jh jm (l.take k):=by
 rw [qA,jay k (fun r hr=>by
  obtain ⟨x,_,rfl⟩:=List.mem_map.1 hr;rw [jV]; rfl),qA,List.map_take]
theorem insL_drop (l:List Ss.Ins) (k:Nat):(jh jm l).drop (k*4)=jh jm (l.drop k):=by
 rw [qA,flat_drop k (fun r hr=>by
  obtain ⟨x,_,rfl⟩:=List.mem_map.1 hr;rw [jV]; rfl),qA,List.map_drop]
theorem flatC_app (l m:List Ss.Ins):jh jm (l++m)=jh jm l++jh jm m:=by
 rw [qA,qA,qA,List.map_append,List.flatten_append]
theorem insL_row {l:List Ss.Ins} {k:Nat} (hk:k<l.length):((jh jm l).drop (k*4)).take 4=[vint l[k].op,vu l[k].n,vl vint l[k].args,vl vint l[k].outs]:=by
 rw [qA,WQ (k:=k) (fun r hr=>by
  obtain ⟨x,_,rfl⟩:=List.mem_map.1 hr;rw [jV]; rfl) (by rw [List.length_map]; exact hk),List.getElem_map,jV]
theorem app_head {S:Store} {oc k:Nat} {code:List Ss.Ins} (h:S.get oc=some (4,jh jm code)) (hk:k≤code.length) (hb:code.length*64≤140737488355328):qe 4 64 S .nils (.slice oc 0 k)=some (.slice S.nx 0 k,S.add (4,jh jm (code.take k))):=by
 have e1:jX 4 S (.slice oc 0 k)=some (jh jm (code.take k),k):=by
  simp only [jX,h,Nat.zero_add,List.drop_zero];rw [if_pos (by rw [KN]; omega),insL_take]
 have h1:k*64≤140737488355328:=by omega
 have h2:k≤140737488355328:=by omega
 simp [qe,e1,h1,h2]
theorem app_tail {S:Store} {o oc k:Nat} {code:List Ss.Ins} (h0:S.get o=some (4,jh jm (code.take k))) (h:S.get oc=some (4,jh jm code)) (hk:k<code.length) (hb:code.length*64≤140737488355328):qe 4 64 S (.slice o 0 k) (.slice oc ((k+1)*4) (code.length-(k+1)))=some (.slice S.nx 0 (code.length-1),(S.del o).add (4,jh jm (code.eraseIdx k))):=by
 have e1:jX 4 S (.slice oc ((k+1)*4) (code.length-(k+1)))=some (jh jm (code.drop (k+1)),code.length-(k+1)):=by
  simp only [jX,h];rw [if_pos (by rw [KN]; omega),insL_drop,List.take_of_length_le (by rw [KN,List.length_drop]; omega)]
 have hl:(jh jm (code.take k)).length=k*4:=by rw [KN,List.length_take,Nat.min_eq_left (by omega)]
 have h1:(k+(code.length-(k+1)))*64≤140737488355328:=by omega
 have h2:k+(code.length-(k+1))≤140737488355328:=by omega
 have h3:k+(code.length-(k+1))=code.length-1:=by omega
 simp only [qe,e1,h0];rw [if_pos ⟨trivial,by rw [hl]; omega,h1,h2⟩,List.drop_zero, ←hl,List.take_length,h3,List.eraseIdx_eq_take_drop_succ,flatC_app]
theorem sl_tail {S:Store} {oc k:Nat} {code:List Ss.Ins} (h:S.get oc=some (4,jh jm code)) (hk:k<code.length):qJ 4 S (.slice oc 0 code.length) (some (.int .i64 ((k:Int)+1))) none none=some (.slice oc ((k+1)*4) (code.length-(k+1))):=by
 have:=YW (S:=S) (s:=4) (k := .i64) (o:=oc) (off:=0) (len:=code.length) (h:=((k+1:Nat):Int)) h rfl (by omega) (by omega);rw [Int.toNat_natCast,Nat.zero_add] at this;exact this
end Go.Vw

namespace Ss
structure RK (e:Env) (f g:Fn):Prop where
 chk:check e g=true
 fits:g.Fits
 fin:licF g=licF f
 sig:g.sig=f.sig
 types:g.types=f.types
 len:g.blocks.length=f.blocks.length
theorem RK.start {e:Env} {f:Fn} (h:check e f=true) (hf:f.Fits):RK e f f:=⟨h,hf,rfl,rfl,rfl,rfl⟩
theorem RK.end {e:Env} {f g:Fn} (h:RK e f g) (hf:first g.blocks (homeOf g) (lps g.blocks)=none):g=licF f:=by
 have:=Jn (wt g+1) hf;rw [←h.fin]; exact this.symm
theorem RK.step {e:Env} {f g:Fn} (h:RK e f g) {p n i:Nat} (hf:first g.blocks (homeOf g) (lps g.blocks)=some (p,n,i)) :
  ∃ (hp:p<g.blocks.length) (hn:n<g.blocks.length) (hi:i<g.blocks[n].code.length),p≠n∧moveAt g.blocks p n i=(g.blocks.set n (cutAt g.blocks[n] i)).set p (endWith g.blocks[p] g.blocks[n].code[i])∧RK e f (moved g p n i)∧wt (moved g p n i)<wt g:=by
 obtain ⟨bp,bn,x,hm',hx,hc,hr⟩:=Zv h.chk hf;obtain ⟨s1,s2,s3⟩:=ZN h.chk hf;obtain ⟨hp,ep⟩:=List.getElem?_eq_some_iff.1 hm'.hp;obtain ⟨hn,en⟩:=List.getElem?_eq_some_iff.1 hm'.hn;obtain ⟨hi,ei⟩:=List.getElem?_eq_some_iff.1 hm'.hi;have heq:=hm'.eq;have hlen:=hm'.len;subst en;subst ep;subst ei;exact ⟨hp,hn,hi,hm'.ne,heq,⟨s1,ZO h.chk h.fits hf,(jap h.chk hf).trans h.fin,h.sig,h.types,hlen.trans h.len⟩,s3⟩
end Ss
namespace Go.Vw
open Go.Proofs Go.RowKit
set_option maxRecDepth 10000
set_option pp.deepTerms true
set_option maxHeartbeats 4000000
theorem RLic_v (S:Store) (e:Ss.Env) (f:Ss.Fn) (he:e.Fits) (hf:f.Fits) (hc:Ss.check e f=true):VCalls Tryz.prog 10 [zl e,qD f] S fun r T => ∃ r',r = .tuple [r',vint 0]∧YL S (Ss.licF f) r' T:=by
 have hs:=Ss.check_small hc;have cck:=RCheck_v e f he hf;rw [Ss.check_agrees hf] at cck;have crp:=fun S=>RCopyE_v S f hf hs
 have hK0:=Ss.RK.start hc hf;have hsm:=Ss.small_iff f;have hh:=(hsm.1 hs).1;simp only [Ss.Fn.heads,Bool.and_eq_true,decide_eq_true_eq] at hh;obtain ⟨⟨⟨hh1,hh2⟩,_⟩,_⟩:=hh;clear hsm hs;generalize hfin:Ss.licF f=fin at *
 generalize Ss.check e f=ck at *
 obtain ⟨⟨fi,fo⟩,ts,bs⟩:=f;obtain ⟨sg,im,gl,mu,me⟩:=e;simp only at *
 have cck':VPure Tryz.prog 13 [.agg [vl jR sg,vint im,vl vint gl,vl V.bool mu, .bool me], .agg [vl vint fi,vl vint fo,vl vint ts,vl jd bs]] (.bool ck):=cck;have crp' : ∀ S,VCalls Tryz.prog 18 [.agg [vl vint fi,vl vint fo,vl vint ts,vl jd bs]] S (YL S ⟨⟨fi,fo⟩,ts,bs⟩):=crp
 refine qw (c:=jg Tryz.f10) Tryz.func10 rfl (by conv=>lhs; reduce) (by simp [Tryz.ntmps10]) ?_;rw [Tryz.ntmps10];intro hwf
 repeat refine QS ?_
 refine QY ?_;refine QH 2 0 ?_;refine QH 3 1 ?_;refine jE [2,3,4,5] (by conv=>lhs; simp [Fr.only,Fr.look]) ?_;refine zp [2] hwf (by decide) (by simp [-List.map_set]) (by conv=>lhs; simp [-List.map_set]) (by conv=>lhs; simp [-List.map_set]) (by conv=>lhs; simp [-List.map_set]) ?_
 repeat refine QS ?_
 refine QP ?_;refine jc (cck') (by rfl) ?_;refine QM (by conv=>lhs;simp[-List.map_set,QV,hc]) ?_;refine QN ?_
 repeat first|refine QG ?_|refine QY ?_ (r:=by conv=>lhs;simp[-List.map_set,QV,hc])
 repeat refine QS ?_
 refine QP ?_;refine qb rfl (crp' _) ?_;rintro X T ⟨hag0,hwT,ot,ob,cells,ids,rfl,hotg,hob,how,hnd,hids⟩;simp only at hotg how;refine jbN hwT ?_;refine QW ?_;have hag1:=hag0.1;rw [jQ] at hag1 hids;simp only [List.length_cons,List.length_nil,Nat.zero_add,lid] at hag1 hids;have h4:T.get (lid S.nx 0)=some (4,[V.nils,V.nils,V.nils,V.nils]):=by
  rw [hag0.2 (lid S.nx 0) (by rw [jQ]; simp [lid]),jC]; rfl
 have h4lt:lid S.nx 0<T.nx:=by simp only [lid]; omega
 have hwf0:=hwf
 repeat first|refine QG ?_|refine QY ?_
 obtain ⟨rs0,rfl,hrl0,hrows0⟩:=ZR (fun x=>by rw [jK]; rfl) how;have g0 : ∀ o l,o<T.nx→(St T [] l).get o=T.get o:=fun o l ho=>by rw [jt ho]; rfl
 have hlt : ∀ o∈ot::ob::ids,o<T.nx:=fun o ho=>(hids o ho).2
 generalize hT0:St T [] [some (4,[vl vint fi,vl vint fo,V.slice ot 0 ts.length,V.slice ob 0 bs.length])]=T0;have hinv:EInv S T0 [lid S.nx 0,lid T.nx 0,ot] ob bs T0 rs0 ids:=by
  subst hT0;refine ⟨⟨by rw [jQ,lid]; have:=hag0.1; omega,fun o ho => ?_⟩,fun o _=>rfl, ?_, ?_, ?_, ?_, ?_⟩
  ·rw [g0 o _ (by omega),hag0.2 o (by rw [jQ,lid]; omega),jt ho]; rfl
  ·intro o ho;simp only [List.mem_cons,List.not_mem_nil,or_false] at ho;rcases ho with rfl | rfl | rfl
   ·rw [g0 _ _ h4lt,h4]; rfl
   ·rw [jC]; rfl
   ·rw [g0 _ _ (hlt _ (by simp)),hotg]; rfl
  ·rw [g0 _ _ (hlt ob (by simp))]; exact hob
  ·exact hrows0.mono fun o ho=>g0 o _ (hlt o (by simp [ho]))
  ·have hno : ∀ o,T.nx≤o→o∉ot::ob::ids:=fun o ho hm=>by have:=hlt o hm; omega
   refine List.nodup_cons.2 ⟨?_,List.nodup_cons.2 ⟨hno _ (by simp only [lid]; omega),hnd⟩⟩;simp only [lid] at h4lt ⊢;refine fun hm => ?_
   rcases List.mem_cons.1 hm with h | hm
   ·omega
   ·have:=(hids _ hm).1; omega
  ·intro o ho;simp only [List.cons_append,List.nil_append,List.mem_cons] at ho;rcases ho with h | h | h | h | h
   ·subst h; simp only [lid]; omega
   ·subst h; simp only [lid]; omega
   ·have:=(hids o (by simp [h])).1; omega
   ·have:=(hids o (by simp [h])).1; omega
   ·have:=(hids o (by simp [h])).1; omega
 have hgH:T0.get (lid T.nx 0)=some (4,[vl vint fi,vl vint fo,V.slice ot 0 ts.length,V.slice ob 0 bs.length]):=by rw [←hT0,jC]; rfl
 have h4H:T0.get (lid S.nx 0)=some (4,[V.nils,V.nils,V.nils,V.nils]):=by rw [←hT0,g0 _ _ h4lt]; exact h4
 have htH:T0.get ot=some (1,ts.map vint):=by rw [←hT0,g0 _ _ (hlt _ (by simp))]; exact hotg
 generalize hp4:lid S.nx 0=p4 at *
 generalize hpg:lid T.nx 0=pg at *
 clear hT0
 repeat refine QS ?_
 refine je [4,6] rfl (fun c σ S' => ∃ (g:Ss.Fn) (rs:List (List V)) (ids1:List Nat),Ss.RK ⟨sg,im,gl,mu,me⟩ ⟨⟨fi,fo⟩,ts,bs⟩ g∧EInv S T0 [p4,pg,ot] ob g.blocks S' rs ids1∧c=Ss.wt g∧σ=[(4, .ptr p4 0),(6, .ptr pg 0)]) (Ss.wt ⟨⟨fi,fo⟩,ts,bs⟩) ?_ ?_
 ·exact ⟨_,rs0,ids,hK0,hinv,rfl,by simp [Fr.only,Fr.look]⟩
 ·rintro c σ T1 ⟨g,rs,ids1,hK,hI,rfl,rfl⟩;refine Zh fun hw1=>YP hw1 ?_
  have hst:=fun p n i hf=>Ss.RK.step hK (p:=p) (n:=n) (i:=i) hf
  have hend:=fun hf=>Ss.RK.end hK hf
  have hfg:=hK.fits;have hsg:=hK.sig;have htg:=hK.types;have hcg:=hK.chk;have hgl:=hK.len;have cFi:=RFirst_v _ g hfg hcg;have hgb2:=(qd (Ss.check_small hcg)).2.2.1;obtain ⟨R,hR⟩ : ∃ R,R=Ss.first g.blocks (Ss.homeOf g) (Ss.lps g.blocks):=⟨_,rfl⟩
  rw [←hR] at cFi hst hend;obtain ⟨⟨gi,go'⟩,gt,gb⟩:=g;simp only at hsg htg hgl hI hgb2
  cases hsg
  subst gt;have hgT:=(hI.hd pg (by simp)).trans hgH;have htT:=(hI.hd ot (by simp)).trans htH;have lg:=jA hw1 hgT;have bg:=fun u l => @jt T1 u l pg lg
  have hIb:=hI.cb;have lb:=jA hw1 hIb;have bb:=fun u l => @jt T1 u l ob lb
  have cFi2:VCalls Tryz.prog 34 [.agg [vl vint fi,vl vint fo, .slice ot 0 ts.length, .slice ob 0 bs.length]] (St T1 [] []) fun r T'=>r=YZ R∧T'=St T1 [] []:=by
   rw [qM hw1, ←hgl];obtain ⟨S',hg⟩:=hI.ghost (fi:=fi) (fo:=fo) (ts:=ts) (ot:=ot) (by simp) htT [];refine cFi.thawF hg (fun x hx => ?_) ?_ ?_
   ·simp only [List.mem_cons,List.not_mem_nil,or_false] at hx;rw [hx]; rfl
   ·cases R<;>rfl
   ·intro n
    cases R<;>rfl
  repeat first|refine QG ?_|refine QY ?_
  repeat refine QS ?_
  refine QP ?_ (r:=by conv=>lhs;simp[-List.map_set,QV,bg,hgT]);refine qb rfl cFi2 ?_;rintro X T9 ⟨rfl,rfl⟩
  cases R with
  | none =>
   have hg:=(hend rfl).trans hfin;subst hg;have h42:=(hI.hd p4 (by simp)).trans h4H;have l4:=jA hw1 h42;have b4:=fun u l => @jt T1 u l p4 l4
   have h4g:pg≠p4:=fun e=>by have:=hI.nd; simp [e] at this
   simp only [YZ];refine QW ?_
   repeat first|refine QG ?_|refine QY ?_ (r:=by conv=>lhs;simp[-List.map_set,QV,bg,b4,hgT,h42,h4g])
   rw [qM hw1];have hg4:(T1.upd p4 (4,[vl vint fi,vl vint fo,V.slice ot 0 ts.length,V.slice ob 0 bs.length])).get p4=some (4,[vl vint fi,vl vint fo,V.slice ot 0 ts.length,V.slice ob 0 bs.length]):=Jh;refine jaY (xs:=[.agg [vl vint fi,vl vint fo, .slice ot 0 ts.length, .slice ob 0 bs.length], .int .i64 0]) (by simp [hg4]) ?_;have hall:=hI.all_lt hw1;obtain ⟨old,hd',al,cb,own,nd,lt⟩:=hI;have hw5:(T1.upd p4 (4,[vl vint fi,vl vint fo,V.slice ot 0 ts.length,V.slice ob 0 bs.length])).Wf:=upd_wf hw1 l4 (hw1.ids pg _ hgT);simp only [List.cons_append,List.nil_append] at nd lt hall;have nd2:=nd;simp only [List.nodup_cons,List.mem_cons,not_or] at nd2;obtain ⟨⟨a1,a2,a3,a4⟩,⟨c1,c2,c3⟩,⟨k1,k2⟩,k3,nd3⟩:=nd2;refine zm ⟨_,rfl,⟨old.1,fun o ho => ?_⟩,hw5,ot,ob,rs.flatten,ids1, ?_, ?_, ?_, ?_, ?_, ?_⟩
   ·have:=lt p4 (by simp);rw [jT (by omega)]; exact old.2 o ho
   ·simp only [hgl]
   ·rw [jT (fun e=>a2 e.symm),hd' ot (by simp)]; exact htH
   ·rw [jT (fun e=>a3 e.symm)]; exact cb
   ·exact own.owl.mono fun o ho=>jT fun e=>a4 (e▸ho)
   ·exact List.Sublist.nodup (.cons _ (.cons _ (List.Sublist.refl _))) nd
   ·intro o ho;have hm:o∈p4::pg::ot::ob::ids1:=by
     simp only [List.mem_cons] at ho ⊢;exact .inr (.inr ho)
    exact ⟨lt o hm,hall o hm⟩
  | some m =>
   obtain ⟨pn,n,i⟩:=m;obtain ⟨hpb,hnb,hib,hne,hmv,hK',hwt⟩:=hst pn n i rfl;have hpb:pn<gb.length:=hpb;have hnb:n<gb.length:=hnb;have hib:i<gb[n].code.length:=hib;have hmv:Ss.moveAt gb pn n i=(gb.set n (Ss.cutAt gb[n] i)).set pn (Ss.endWith gb[pn] gb[n].code[i]):=hmv;clear hst hend cFi cFi2 hK hcg hfg;simp only [YZ];obtain ⟨oc,hcell,hoc,hboc,hhs,hput⟩:=hI.code hw1 hnb;have hcn:=(hgb2 _ (List.getElem_mem hnb)).2.2.2;obtain ⟨⟨ps,code,tm⟩,hbn⟩ : ∃ b,gb[n]=b:=⟨_,rfl⟩
   simp only [hbn] at hcell hoc hput hcn hmv hib;have hit:i<code.length:=hib;obtain ⟨⟨xo,xn,xa,xs⟩,hxe⟩ : ∃ x,code[i]=x:=⟨_,rfl⟩
   have hx4:=insL_row hit;simp only [hxe] at hmv hx4;have hcl4:=KN code;have hwi:=jo hit (by omega);have ha1:=fun (S:Store) (h:S.get oc=some (4,jh jm code))=>app_head h (k:=i) (by omega) (by omega)
   have ha2:=fun (S:Store) (o:Nat) (h0:S.get o=some (4,jh jm (code.take i))) (h:S.get oc=some (4,jh jm code))=>app_tail h0 h hit (by omega)
   have hs2:=fun (S:Store) (h:S.get oc=some (4,jh jm code))=>sl_tail h hit
   have hel:(code.eraseIdx i).length=code.length-1:=List.length_eraseIdx_of_lt hit;obtain ⟨F,hF⟩ : ∃ F,F=jh jm code:=⟨_,rfl⟩
   rw [←hF] at hoc hx4 hcl4;simp only [←hF] at ha1 ha2 hs2;obtain ⟨F1,hF1⟩ : ∃ F1,F1=jh jm (code.take i):=⟨_,rfl⟩
   obtain ⟨F2,hF2⟩ : ∃ F2,F2=jh jm (code.eraseIdx i):=⟨_,rfl⟩
   simp only [←hF1, ←hF2] at ha1 ha2;obtain ⟨cells,hcells⟩ : ∃ c,c=rs.flatten:=⟨_,rfl⟩
   rw [←hcells] at hIb hcell;simp only [←hcells] at hput;have hcl1:n*6+1<cells.length:=(List.getElem?_eq_some_iff.1 hcell).1;have hcv:cells[n*6+1] = .slice oc 0 code.length:=by rw [List.getElem?_eq_getElem hcl1] at hcell; exact Option.some.inj hcell
   have hgl':n<bs.length:=by omega
   have hnbI:(n:Int)<(bs.length:Int):=by omega
   have lc:=jA hw1 hoc;have bc:=fun u l => @jt T1 u l oc lc
   have hc4:i*4+4≤F.length:=by omega
   obtain ⟨hpgoc,hpgob⟩:=hhs pg (by simp);refine QW ?_
   repeat first|refine QG ?_|refine QY ?_
   repeat first|refine QG ?_|refine QY ?_ (r:=by conv=>lhs;simp[-List.map_set,QV,bg,hgT,bb,hIb,hcv,hcl1,hgl',hnbI,bc,hoc,hit,hx4,hc4])
   have hboc':=Ne.symm hboc;have hok : ∀ u l,uGet u pg (T1.get pg)=some (4,[vl vint fi,vl vint fo,V.slice ot 0 ts.length,V.slice ob 0 bs.length])→uGet u oc (T1.get oc)=some (4,F)→(∃ c,uGet u ob (T1.get ob)=some (6,c))→(y1 pg (4,[vl vint fi,vl vint fo,V.slice ot 0 ts.length,V.slice ob 0 bs.length])).Sub (St T1 u l)∧(y3 pg (4,[vl vint fi,vl vint fo,V.slice ot 0 ts.length,V.slice ob 0 bs.length]) ob (6,cells) oc (4,F)).Shp (St T1 u l):=fun u l h1 h2 h3=>by
    obtain ⟨c,h3⟩:=h3;exact ⟨y1_sub ((bg u l).trans h1),y3_shp ((bg u l).trans h1) rfl ((bb u l).trans h3) rfl ((bc u l).trans h2) rfl⟩
   have hz1 := @y1_get pg (4,[vl vint fi,vl vint fo,V.slice ot 0 ts.length,V.slice ob 0 bs.length]);have hz2 := @y3_get pg ob oc (4,[vl vint fi,vl vint fo,V.slice ot 0 ts.length,V.slice ob 0 bs.length]) (6,cells) (4,F);have hz3 := @y3_get2 pg ob oc (4,[vl vint fi,vl vint fo,V.slice ot 0 ts.length,V.slice ob 0 bs.length]) (6,cells) (4,F) (Ne.symm hpgob);have hz4 := @y3_get3 pg ob oc (4,[vl vint fi,vl vint fo,V.slice ot 0 ts.length,V.slice ob 0 bs.length]) (6,cells) (4,F) (Ne.symm hpgoc) hboc';have hs2z:=hs2 _ hz4;have hs2':=fun u l (h:uGet u oc (T1.get oc)=some (4,F))=>hs2 (St T1 u l) ((bc u l).trans h)
   have iI:(i:Int)≤(code.length:Int):=by omega
   have q1:qe 4 64 (St T1 [] [some (4,[V.int .i64 xo,V.int .u64 xn,vl vint xa,vl vint xs])]) .nils (.slice oc 0 i)=some (.slice (lid T1.nx 1) 0 i,St T1 [] [some (4,[V.int .i64 xo,V.int .u64 xn,vl vint xa,vl vint xs]),some (4,F1)]):=by
    rw [ha1 _ (by rw [bc]; exact hoc)]; simp [jQ,Yd]
   have q2:qe 4 64 (St T1 [] [some (4,[V.int .i64 xo,V.int .u64 xn,vl vint xa,vl vint xs]),some (4,F1)]) (.slice (lid T1.nx 1) 0 i) (.slice oc ((i+1)*4) (code.length-(i+1)))=some (.slice (lid T1.nx 2) 0 (code.length-1),St T1 [] [some (4,[V.int .i64 xo,V.int .u64 xn,vl vint xa,vl vint xs]),none,some (4,F2)]):=by
    rw [ha2 _ _ (by rw [jC]; rfl) (by rw [bc]; exact hoc)]; simp [jQ,jbI,Yd]
   have hup : ∀ c l,(St T1 [] l).upd ob c=St T1 [(ob,some c)] l:=fun c l=>by rw [zz lb]; rfl
   repeat refine QS ?_
   refine jN (y1 pg (4,[vl vint fi,vl vint fo,V.slice ot 0 ts.length,V.slice ob 0 bs.length])) (y3 pg (4,[vl vint fi,vl vint fo,V.slice ot 0 ts.length,V.slice ob 0 bs.length]) ob (6,cells) oc (4,F)) [46,55] rfl (by kernel_rfl) (by conv=>lhs; reduce) (by conv=>lhs; reduce) (by kernel_rfl) (by kernel_rfl) (hok [] _ hgT hoc ⟨_,hIb⟩) (by conv=>lhs; simp [-List.map_set,QV,hz1,hz2,hz3,hz4,bg,bb,bc,hgT,hIb,hoc,hcv,hcl1,hgl',hnbI,hwi,iI,hs2z]) ?_;refine jf rfl (by conv=>lhs; simp [-List.map_set,QV,q1]) (hok [] _ hgT hoc ⟨_,hIb⟩) ?_;refine QM (by conv=>lhs;simp[-List.map_set,QV,hz1,hz2,hz3,hz4,bg,bb,bc,hgT,hIb,hoc,hcv,hcl1,hgl',hnbI,hwi,iI,hs2',hs2z]) ?_;refine jf rfl (by conv=>lhs; simp [-List.map_set,QV,q2]) (hok [] _ hgT hoc ⟨_,hIb⟩) ?_;refine QM (by conv=>lhs;simp[-List.map_set,QV,hz1,hz2,hz3,hz4,bg,bb,hgT,hIb,hcl1,hgl',hnbI]) ?_;refine jf rfl (by conv=>lhs; simp [-List.map_set,QV,hup,bb,hIb,hcl1]) (hok [(ob,some (6,cells.set (n*6+1) (.slice (lid T1.nx 2) 0 (code.length-1))))] _ (by simp [uGet,hpgob]; exact hgT) (by simp [uGet,hboc']; exact hoc) ⟨_,by simp [uGet]; rfl⟩) ?_
   refine QN ?_
   trace_state
   obtain ⟨T8,hT8⟩ : ∃ T8,T8=St T1 [(ob,some (6,cells.set (n*6+1) (.slice (lid T1.nx 2) 0 (code.length-1))))] [some (4,[V.int .i64 xo,V.int .u64 xn,vl vint xa,vl vint xs]),none,some (4,F2)]:=⟨_,rfl⟩
   obtain ⟨rs2,ids2,hset2,hI8⟩:=hput T8 (lid T1.nx 2) (code.eraseIdx i) (by simp [lid]) (by rw [hT8,jQ,lid]; omega) (fun q hq h1 h2=>by rw [hT8,jt hq]; simp [uGet,h1]) (by rw [hT8,jt lb,hel]; simp [uGet]) (by rw [hT8,jC, ←hF2]; rfl);rw [hel] at hset2;rw [←hT8];have gpx8:T8.get (lid T1.nx 0)=some (4,[V.int .i64 xo,V.int .u64 xn,vl vint xa,vl vint xs]):=by rw [hT8,jC]; rfl
   have gp8:=(hI8.hd pg (by simp)).trans hgH;have hpxne : ∀ q,q<T1.nx→lid T1.nx 0≠q:=fun q hq=>by simp only [lid]; omega
   have hpxpg:=hpxne pg lg;have hpxob:=hpxne ob lb;generalize lid T1.nx 0=px at *
   generalize lid T1.nx 2=oc2 at *
   refine Zh fun hw8 => ?_
   have hp8:pn<(gb.set n ⟨ps,code.eraseIdx i,tm⟩).length:=by rw [List.length_set]; exact hpb
   have hg8:(gb.set n ⟨ps,code.eraseIdx i,tm⟩)[pn]'hp8=gb[pn]:=List.getElem_set_ne (Ne.symm hne) _;obtain ⟨ocp,d1,d2,d4,d5,hpush⟩:=hI8.code hw8 hp8;simp only [hg8] at d1 d2 hpush;obtain ⟨ocq,hcq,hgcq,_,_,_⟩:=hI.code hw1 hpb;have hcp:=(hgb2 _ (List.getElem_mem hpb)).2.2.2;obtain ⟨⟨pps,pcode,ptm⟩,hbp⟩ : ∃ b,gb[pn]=b:=⟨_,rfl⟩
   simp only [hbp] at d1 d2 hpush hcp hcq hgcq hmv;obtain ⟨fc2,hfc2⟩ : ∃ c,c=rs2.flatten:=⟨_,rfl⟩
   have gb8:=hI8.cb;rw [←hfc2] at d1 gb8;simp only [←hfc2] at hpush;have hpxocp:px≠ocp:=by
    rw [←hcells] at hcq;have e1:fc2[pn*6+1]? = cells[pn*6+1]? := by rw [hfc2,hset2,List.getElem?_set_ne (by omega)]
    rw [d1,hcq] at e1;have e2:ocp=ocq:=by injection e1 with h; injection h
    rw [e2]; exact hpxne _ (jA hw1 hgcq)
   have hpc1:pn*6+1<fc2.length:=(List.getElem?_eq_some_iff.1 d1).1;have hcvp:fc2[pn*6+1] = .slice ocp 0 pcode.length:=by rw [List.getElem?_eq_getElem hpc1] at d1; exact Option.some.inj d1
   have hpl:pn<bs.length:=by omega
   have hplI:(pn:Int)<(bs.length:Int):=by omega
   have lg8:=jA hw8 gp8;have lb8:=jA hw8 gb8;have lx8:=jA hw8 gpx8;have lp8:=jA hw8 d2;have bg8:=fun u l => @jt T8 u l pg lg8
   have bb8:=fun u l => @jt T8 u l ob lb8
   have bx8:=fun u l => @jt T8 u l px lx8
   have bp8:=fun u l => @jt T8 u l ocp lp8
   have hpgocp:=(d5 pg (by simp)).1;have hb64:(pcode.length+1)*64≤140737488355328:=by omega
   have hb1:pcode.length+1≤140737488355328:=by omega
   have hap:=flatC_app pcode [⟨xo,xn,xa,xs⟩];have hcl:=KN pcode;have hnew:jh jm [⟨xo,xn,xa,xs⟩]=[V.int .i64 xo,V.int .u64 xn,vl vint xa,vl vint xs]:=rfl;rw [hnew] at hap;have hpush2:=fun T' o'=>hpush T' o' (pcode++[⟨xo,xn,xa,xs⟩])
   simp only [hap,List.length_append,List.length_cons,List.length_nil,Nat.zero_add] at hpush2;obtain ⟨cellsp,hcp2⟩ : ∃ c,c=jh jm pcode:=⟨_,rfl⟩
   rw [←hcp2] at d2 hcl;simp only [←hcp2] at hpush2;have hr4:rep0 [V.int .i64 0, .int .u64 0, .nils, .nils] 1=[.int .i64 0, .int .u64 0, .nils, .nils]:=rfl;have d3':=hcl.symm;have hdl : ∀ l,(St T8 [] l).del ocp=St T8 [(ocp,none)] l:=fun l=>by rw [St_delOld lp8]; rfl
   have hup8 : ∀ c l,(St T8 [(ocp,none)] l).upd ob c=St T8 [(ocp,none),(ob,some c)] l:=fun c l=>by rw [zz lb8]; simp [uSet,d4,Ne.symm d4]
   clear hok hz1 hz2 hz3 hz4 hs2z q1 q2 hup ha1 ha2 hs2 hT8 hcell hcv hx4 hoc hcl4 hput hpush hcl1 hc4 bc bb bg lc hnbI iI;refine YP hw8 ?_;have hok : ∀ u l,uGet u pg (T8.get pg)=some (4,[vl vint fi,vl vint fo,V.slice ot 0 ts.length,V.slice ob 0 bs.length])→uGet u px (T8.get px)=some (4,[V.int .i64 xo,V.int .u64 xn,vl vint xa,vl vint xs])→(∃ c,uGet u ob (T8.get ob)=some (6,c))→(y2 pg (4,[vl vint fi,vl vint fo,V.slice ot 0 ts.length,V.slice ob 0 bs.length]) px (4,[V.int .i64 xo,V.int .u64 xn,vl vint xa,vl vint xs])).Sub (St T8 u l)∧(y2 pg (4,[vl vint fi,vl vint fo,V.slice ot 0 ts.length,V.slice ob 0 bs.length]) ob (6,fc2)).Shp (St T8 u l):=fun u l h1 h2 h3=>by
    obtain ⟨c,h3⟩:=h3;exact ⟨y2_sub ((bg8 u l).trans h1) ((bx8 u l).trans h2),y2_shp ((bg8 u l).trans h1) rfl ((bb8 u l).trans h3) rfl⟩
   have hz1 := @y2_get pg px (4,[vl vint fi,vl vint fo,V.slice ot 0 ts.length,V.slice ob 0 bs.length]) (4,[V.int .i64 xo,V.int .u64 xn,vl vint xa,vl vint xs]);have hz2 := @ZC pg px (4,[vl vint fi,vl vint fo,V.slice ot 0 ts.length,V.slice ob 0 bs.length]) (4,[V.int .i64 xo,V.int .u64 xn,vl vint xa,vl vint xs]) hpxpg;have hz3 := @y2_get pg ob (4,[vl vint fi,vl vint fo,V.slice ot 0 ts.length,V.slice ob 0 bs.length]) (6,fc2);have hz4 := @ZC pg ob (4,[vl vint fi,vl vint fo,V.slice ot 0 ts.length,V.slice ob 0 bs.length]) (6,fc2) (Ne.symm hpgob)
   repeat refine QS ?_
   refine jN (y2 pg (4,[vl vint fi,vl vint fo,V.slice ot 0 ts.length,V.slice ob 0 bs.length]) px (4,[V.int .i64 xo,V.int .u64 xn,vl vint xa,vl vint xs])) (y2 pg (4,[vl vint fi,vl vint fo,V.slice ot 0 ts.length,V.slice ob 0 bs.length]) ob (6,fc2)) [70] rfl (by kernel_rfl) (by conv=>lhs; reduce) (by conv=>lhs; reduce) (by kernel_rfl) (by kernel_rfl) (hok [] _ gp8 gpx8 ⟨_,gb8⟩) (by conv=>lhs; simp [-List.map_set,QV,hz1,hz2,hz3,hz4,bg8,bb8,bx8,gp8,gb8,gpx8,hcvp,hpl,hplI,hpc1]) ?_;refine jf rfl (by conv=>lhs; simp [-List.map_set,QV,hz2,hr4]) (hok [] _ gp8 gpx8 ⟨_,gb8⟩) ?_;refine jf rfl (by conv=>lhs; simp [-List.map_set,QV,bp8,d2,hb64,hb1,hdl,d3']) (hok [(ocp,none)] _ (by simp [uGet,hpgocp]; exact gp8) (by simp [uGet,hpxocp]; exact gpx8) ⟨fc2,by simp [uGet,d4]; exact gb8⟩) ?_;refine QM (by conv=>lhs;simp[-List.map_set,QV,hz1,hz2,hz3,hz4,bg8,bb8,gp8,gb8,hpl,hplI,hpc1]) ?_
   refine jf rfl (by conv=>lhs; simp [-List.map_set,QV,hup8,bb8,gb8,hpc1,d4]) (hok [(ocp,none),(ob,some (6,fc2.set (pn*6+1) (.slice (lid T8.nx 1) 0 (pcode.length+1))))] _ (by simp [uGet,hpgocp,hpgob]; exact gp8) (by simp [uGet,hpxocp,hpxob]; exact gpx8) ⟨_,by simp [uGet,d4]; rfl⟩) ?_;refine QN ?_
   repeat first|refine QG ?_|refine QY ?_
   trace_state
   obtain ⟨rs3,ids3,hset3,hI9⟩:=hpush2 (St T8 [(ocp,none),(ob,some (6,fc2.set (pn*6+1) (.slice (lid T8.nx 1) 0 (pcode.length+1))))] [some (4,[V.int .i64 xo,V.int .u64 xn,vl vint xa,vl vint xs]),some (4,cellsp++[V.int .i64 xo,V.int .u64 xn,vl vint xa,vl vint xs])]) (lid T8.nx 1) (by simp [lid]) (by rw [jQ,lid]; omega) (fun q hq h1 h2=>by rw [jt hq]; simp [uGet,h1,h2]) (by rw [jt lb8]; simp [uGet,d4]) (by rw [jC]; rfl);show jx _ _ _ _ _ _ _;exact again ⟨hwt,Ss.moved ⟨⟨fi,fo⟩,ts,gb⟩ pn n i,rs3,ids3,hK',by show EInv S T0 _ ob (Ss.moveAt gb pn n i) _ rs3 ids3; rw [hmv]; exact hI9,rfl,by simp [Fr.only,Fr.look]⟩
end Go.Vw

namespace Go.Vw
open Go.Proofs Go.RowKit
set_option maxRecDepth 10000
set_option maxHeartbeats 2000000
theorem RLicErr_v (e:Ss.Env) (f:Ss.Fn) (he:e.Fits) (hf:f.Fits) (hc:Ss.check e f=false):VPure Tryz.prog 10 [zl e,qD f] (.tuple [qD Ss.emptyFn,vint 6]):=by
 intro S;have cck:=RCheck_v e f he hf;rw [Ss.check_agrees hf] at cck;generalize Ss.check e f=ck at *
 obtain ⟨⟨fi,fo⟩,ts,bs⟩:=f;obtain ⟨sg,im,gl,mu,me⟩:=e;have cck':VPure Tryz.prog 13 [.agg [vl jR sg,vint im,vl vint gl,vl V.bool mu, .bool me], .agg [vl vint fi,vl vint fo,vl vint ts,vl jd bs]] (.bool ck):=cck;refine qw (c:=jg Tryz.f10) Tryz.func10 rfl (by conv=>lhs; reduce) (by simp [Tryz.ntmps10]) ?_;rw [Tryz.ntmps10];intro hwf
 repeat refine QS ?_
 refine QY ?_;refine QH 2 0 ?_;refine QH 3 1 ?_;refine jE [2,3,4,5] (by conv=>lhs; simp [Fr.only,Fr.look]) ?_;refine zp [2] hwf (by decide) (by simp [-List.map_set]) (by conv=>lhs; simp [-List.map_set]) (by conv=>lhs; simp [-List.map_set]) (by conv=>lhs; simp [-List.map_set]) ?_
 repeat refine QS ?_
 refine QP ?_;refine jc (cck') (by rfl) ?_;refine QM (by conv=>lhs;simp[-List.map_set,QV,hc]) ?_;refine QN ?_
 repeat first|refine QG ?_|refine QY ?_ (r:=by conv=>lhs;simp[-List.map_set,QV,hc])
 refine jaY (xs:=[.agg [.nils, .nils, .nils, .nils], .int .i64 6]) (by simp) ?_;exact zG hwf ((Ghost.tuple [] [_] (jaE _)).toB _) JH (by rfl)
theorem RLicP_v (e:Ss.Env) (f:Ss.Fn) (he:e.Fits) (hf:f.Fits):VPure Tryz.prog 10 [zl e,qD f] (.tuple [qD (Ss.licOut e f).1,vint (Ss.licOut e f).2]):=by
 cases hc:Ss.check e f with
 | false=>rw [Ss.licOut_f hc]; exact RLicErr_v e f he hf hc
 | true =>
  rw [Ss.licOut_t hc];intro S;have hr:=RLic_v S e f he hf hc;refine Jb fun hwf=>zk (hr.mono ?_)
  rintro r T ⟨r',rfl,hag,hwT,ot,ob,cells,ids,rfl,hot,hob,how,hnd,hids⟩;have hg:=fn_ghostE (fi:=(Ss.licF f).sig.inn) (fo:=(Ss.licF f).sig.out) how hob rfl hot rfl hnd;have hfin:Agree S (T.dels (ot::ob::ids)):=by
   refine ⟨by rw [jaH]; exact hag.1,fun o ho => ?_⟩;rw [Wn,if_neg]
   ·exact hag.2 o ho
   ·intro hm;have:=(hids o hm).1; omega
  exact zG hwf ((Ghost.tuple [] [_] hg).toB _) hfin (by simp [qD])
end Go.Vw
