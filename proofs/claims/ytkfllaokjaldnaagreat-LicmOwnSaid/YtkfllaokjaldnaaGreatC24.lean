import Derived.Test.YtkfllaokjaldnaaGreatC23
import Derived.Test.YtkfllaokjaldnaaGreatC16
import Derived.Test.YtkfllaokjaldnaaGreatC20
import Derived.Test.YtkfllaokjaldnaaGreatC21
import Derived.Test.YtkfllaokjaldnaaGreatC22
import Derived.Test.YtkfllaokjaldnaaGreatC19
import Derived.Test.YtkfllaokjaldnaaGreatProg
import Derived.WalkKit
import Derived.Deep.RegionLaw
import Derived.Lib.SliceRun
import Derived.Test.YtkfllaokjaldnaaGreatC2
import Derived.Test.YtkfllaokjaldnaaGreatC6
/- Part of the proof. -/
set_option linter.unusedVariables false
set_option linter.unusedSimpArgs false
set_option maxRecDepth 10000
set_option maxHeartbeats 4000000
namespace Go.Vw
open Go.Proofs Go.RowKit
theorem plus_none {S:Store} (h:S.Wf):plus S ⟨fun _=>none,0⟩=S:=by
 refine Store.ext' (funext fun o => ?_) rfl;simp only [plus];split
 ·rfl
 ·rw [h.gone o (by omega)]; rfl
theorem VPure.thawF {P:Program} {f:FuncId} {xs xs':List V} {S S':Store} {X:V} (h:VPure P f xs' X) (hg:GhostArgs xs S xs' S') (hcl : ∀ x∈xs',x.closed=true) (hf:flatV X=true) (hsx : ∀ n,jbo n X=X):VCalls P f xs S fun r T=>r=X∧T=S:=by
 refine zG fun hw => ?_
 refine ((h ⟨fun _=>none,0⟩).thaw hg hcl ?_).mono ?_
 ·rintro r T ⟨rfl,rfl⟩;exact ⟨hf,fun o c hc=>by cases hc⟩
 ·rintro r T ⟨r0,T0,⟨rfl,rfl⟩,rfl,rfl⟩;exact ⟨hsx _,plus_none hw⟩
theorem plus_one {S:Store} (h:S.Wf) (l:List Int):plus S (St ⟨fun _=>none,0⟩ [] [some (1,l.map vint)])=St S [] [some (1,l.map vint)]:=by
 refine Store.ext' (funext fun o => ?_) ?_
 ·simp only [plus,St]
  by_cases ho:o<S.nx
  ·simp [ho,uGet]
  ·rw [if_neg ho,if_neg ho];simp only [Nat.not_lt_zero,if_false,Nat.sub_zero]
   cases hk:o-S.nx with
   | zero=>simp [WC,vint]
   | succ k=>simp
 ·simp [plus,St,lid]
def y1 (o:Nat) (c:Nat × List V):Store:=⟨fun q=>if q=o then some c else none,0⟩
theorem y1_sub {o:Nat} {c:Nat × List V} {S:Store} (h:S.get o=some c):(y1 o c).Sub S:=fun q d hd=>by
 simp only [y1] at hd; split at hd
 ·rename_i e; subst e; cases hd; exact h
 ·cases hd
theorem y1_get {o:Nat} {c:Nat × List V}:(y1 o c).get o=some c:=by simp [y1]
def y2 (o:Nat) (c:Nat × List V) (p:Nat) (d:Nat × List V):Store:=⟨fun q=>if q=o then some c else if q=p then some d else none,0⟩
theorem y2_sub {o p:Nat} {c d:Nat × List V} {S:Store} (h:S.get o=some c) (h2:S.get p=some d):(y2 o c p d).Sub S:=fun q e he=>by
 simp only [y2] at he; split at he
 ·rename_i e2; subst e2; cases he; exact h
 ·split at he
  ·rename_i e2; subst e2; cases he; exact h2
  ·cases he
theorem y2_shp {o p:Nat} {c d c' d':Nat × List V} {S:Store} (h:S.get o=some c') (hc:c'.1=c.1) (h2:S.get p=some d') (hd:d'.1=d.1):(y2 o c p d).Shp S:=fun q e he=>by
 simp only [y2] at he; split at he
 ·rename_i e2; subst e2; cases he; exact ⟨c',h,hc⟩
 ·split at he
  ·rename_i e2; subst e2; cases he; exact ⟨d',h2,hd⟩
  ·cases he
theorem y2_get {o p:Nat} {c d:Nat × List V}:(y2 o c p d).get o=some c:=by simp [y2]
theorem ZI {o p:Nat} {c d:Nat × List V} (h:p≠o):(y2 o c p d).get p=some d:=by simp [y2,h]
def y3 (o:Nat) (c:Nat × List V) (p:Nat) (d:Nat × List V) (q:Nat) (e:Nat × List V):Store:=⟨fun r=>if r=o then some c else if r=p then some d else if r=q then some e else none,0⟩
theorem y3_shp {o p q:Nat} {c d e c' d' e':Nat × List V} {S:Store} (h:S.get o=some c') (hc:c'.1=c.1) (h2:S.get p=some d') (hd:d'.1=d.1) (h3:S.get q=some e') (he:e'.1=e.1):(y3 o c p d q e).Shp S:=fun r x hx=>by
 simp only [y3] at hx; split at hx
 ·rename_i e2; subst e2; cases hx; exact ⟨c',h,hc⟩
 ·split at hx
  ·rename_i e2; subst e2; cases hx; exact ⟨d',h2,hd⟩
  ·split at hx
   ·rename_i e2; subst e2; cases hx; exact ⟨e',h3,he⟩
   ·cases hx
theorem y3_get {o p q:Nat} {c d e:Nat × List V}:(y3 o c p d q e).get o=some c:=by simp [y3]
theorem y3_get2 {o p q:Nat} {c d e:Nat × List V} (h:p≠o):(y3 o c p d q e).get p=some d:=by simp [y3,h]
theorem y3_get3 {o p q:Nat} {c d e:Nat × List V} (h:q≠o) (h2:q≠p):(y3 o c p d q e).get q=some e:=by simp [y3,h,h2]
section
variable {S H:Store} {hs:List Nat} {ob:Nat} {bs:List Ss.Block} {T:Store} {rs:List (List V)} {ids:List Nat}
theorem BInv.ext (h:BInv S H hs ob bs T rs ids) (hw:T.Wf) {T':Store} (hn:T.nx≤T'.nx) (hk : ∀ o,o<T.nx→T'.get o=T.get o):BInv S H hs ob bs T' rs ids:=by
 have hlt:=h.all_lt hw;obtain ⟨old,hd,al,cb,own,nd,lt⟩:=h;exact ⟨⟨Nat.le_trans old.1 hn,fun o ho=>(hk o (Nat.lt_of_lt_of_le ho old.1)).trans (old.2 o ho)⟩,fun o ho=>(hk o (hlt o (by simp [ho]))).trans (hd o ho),al,(hk ob (hlt ob (by simp))).trans cb,own.mono fun o ho=>hk o (hlt o (by simp [ho])),nd,lt⟩
theorem BInv.st (h:BInv S H hs ob bs T rs ids) (hw:T.Wf) (l:List (Option (Nat × List V))):BInv S H hs ob bs (St T [] l) rs ids :=
 h.ext hw (by rw [jE,lid]; omega) fun o ho=>by rw [jk ho]; rfl
theorem BInv.ghost (h:BInv S H hs ob bs T rs ids) {fi fo ts:List Int} {ot:Nat} (hot:ot∈hs) (ht:T.get ot=some (1,ts.map vint)) (post:List V) :
  ∃ S',GhostArgs (.agg [vl vint fi,vl vint fo, .slice ot 0 ts.length, .slice ob 0 bs.length]::post) T (ql ⟨⟨fi,fo⟩,ts,bs⟩::post) S':=by
 have hnd:(ot::ob::ids).Nodup:=List.Sublist.nodup ((List.singleton_sublist.2 hot).append (List.Sublist.refl (ob::ids))) h.nd;exact ⟨_,GhostArgs.one [] post (fn_ghostD (fi:=fi) (fo:=fo) h.own.owl h.cb rfl ht rfl hnd)⟩
end
section
variable {S H:Store} {hs:List Nat} {ob:Nat} {bs:List Ss.Block} {T:Store} {rs:List (List V)} {ids:List Nat}
theorem EInv.code (h:EInv S H hs ob bs T rs ids) (hw:T.Wf) {i:Nat} (hi:i<bs.length) :
  ∃ (oc:Nat),rs.flatten[i*6+1]? = some (.slice oc 0 bs[i].code.length)∧T.get oc=some (4,je jg bs[i].code)∧ob≠oc∧(∀ o∈hs,o≠oc∧o≠ob) ∧
   ∀ (T':Store) (oc':Nat) (code':List Ss.Ins),T.nx≤oc'→T.nx≤T'.nx→(∀ o,o<T.nx→o≠ob→o≠oc→T'.get o=T.get o)→T'.get ob=some (6,rs.flatten.set (i*6+1) (.slice oc' 0 code'.length))→T'.get oc'=some (4,je jg code') → ∃ rs' ids',rs'.flatten=rs.flatten.set (i*6+1) (.slice oc' 0 code'.length)∧EInv S H hs ob (bs.set i ⟨bs[i].params,code',bs[i].term⟩) T' rs' ids':=by
 have hlt:=h.all_lt hw;obtain ⟨old,hd,al,cb,own,nd,lt⟩:=h;obtain ⟨r1,r,r2,i1,ii,i2,rfl,hl,rfl,hb,hput⟩:=own.at (List.getElem?_eq_getElem hi);have hr6:=own.len.2;obtain ⟨oc,oe,rfl,rfl,hoc,hoe⟩:=jbM hb;have h6 : ∀ s∈r1,s.length=6:=fun s hs=>hr6 s (by simp [hs])
 have sub:List.Sublist [oc,oe] (i1++([oc,oe]++i2)):=(List.sublist_append_left _ _).trans (List.sublist_append_right _ _);have hnd3:(hs++ob::[oc,oe]).Nodup:=List.Sublist.nodup ((List.Sublist.refl hs).append (sub.cons_cons ob)) nd;have ne1:ob≠oc∧ob≠oe∧oc≠oe:=by
  have h2:=(List.nodup_append.1 hnd3).2.1;simp only [List.nodup_cons,List.mem_cons,List.not_mem_nil,or_false,not_or] at h2;exact ⟨h2.1.1,h2.1.2,h2.2.1⟩
 have ne2 : ∀ o∈hs,o≠oc∧o≠ob:=fun o ho=>⟨(List.nodup_append.1 hnd3).2.2 o ho oc (by simp),(List.nodup_append.1 hnd3).2.2 o ho ob (by simp)⟩
 have le:=jy hw hoe;refine ⟨oc,Jm h6 hl (q:=1) rfl,hoc,ne1.1,ne2, ?_⟩;intro T' oc' code' hge hnx hk hcb hgc;have hfs:=JY (m:=6) (r:=[vl vint bs[i].params, .slice oc 0 bs[i].code.length,vint bs[i].term.kind,vint bs[i].term.arg, .slice oe 0 bs[i].term.to.length,vl vint bs[i].term.args]) (r2:=r2) (q:=1) (w := .slice oc' 0 code'.length) h6 hl (by simp);rw [hfs] at hcb;refine ⟨_,i1++([oc',oe]++i2),hfs.symm, ?_⟩;have cnt : ∀ o,(hs++ob::(i1++([oc,oe]++i2))).count o≤1:=fun o=>List.nodup_iff_count.1 nd o
 simp only [List.count_append,List.count_cons,List.count_nil] at cnt;have pos : ∀ {o:Nat} {l:List Nat},o∈l→1≤l.count o:=fun h=>List.count_pos_iff.2 h
 have nob : ∀ o,o∈hs∨o∈i1∨o∈i2→o≠ob∧o≠oc:=by
  intro o ho;have c:=cnt o;refine ⟨?_, ?_⟩ <;>
  ·rintro rfl;simp only [beq_self_eq_true,if_true] at c;rcases ho with ho | ho | ho<;>(have:=pos ho; omega)
 have keep : ∀ o,o∈hs∨o∈i1∨o∈i2→T'.get o=T.get o:=fun o ho=>by
  obtain ⟨a1,a2⟩:=nob o ho;refine hk o (hlt o ?_) a1 a2;rcases ho with ho | ho | ho<;>simp [ho]
 have hblk:OwL T' blkE [vl vint bs[i].params, .slice oc' 0 code'.length,vint bs[i].term.kind,vint bs[i].term.arg, .slice oe 0 bs[i].term.to.length,vl vint bs[i].term.args] (jb ⟨bs[i].params,code',bs[i].term⟩).cells [oc',oe] :=
  Yb (b:=⟨bs[i].params,code',bs[i].term⟩) hgc ((hk oe le (Ne.symm ne1.2.1) (Ne.symm ne1.2.2)).trans hoe)
 refine ⟨⟨Nat.le_trans old.1 hnx,fun o ho => ?_⟩,fun o ho=>(keep o (.inl ho)).trans (hd o ho),al,hcb,hput T' _ ⟨bs[i].params,code',bs[i].term⟩ [oc',oe] (fun o ho=>keep o ?_) hblk, ?_,fun o ho => ?_⟩
 ·have l1:=lt ob (by simp);have l2:=lt oc (by simp);rw [hk o (Nat.lt_of_lt_of_le ho old.1) (by omega) (by omega)];exact old.2 o ho
 ·rcases List.mem_append.1 ho with ho | ho
  ·exact .inr (.inl ho)
  ·exact .inr (.inr ho)
 ·refine List.nodup_iff_count.2 fun o => ?_
  simp only [List.count_append,List.count_cons,List.count_nil];have c:=cnt o
  by_cases e:oc'=o
  ·subst e;have z1:hs.count oc'=0:=List.count_eq_zero.2 fun h=>by have:=hlt oc' (by simp [h]); omega
   have z2:i1.count oc'=0:=List.count_eq_zero.2 fun h=>by have:=hlt oc' (by simp [h]); omega
   have z3:i2.count oc'=0:=List.count_eq_zero.2 fun h=>by have:=hlt oc' (by simp [h]); omega
   have z4:(ob==oc')=false:=by have:=hlt ob (by simp); simp only [beq_eq_false_iff_ne]; omega
   have z5:(oe==oc')=false:=by have:=hlt oe (by simp); simp only [beq_eq_false_iff_ne]; omega
   rw [z1,z2,z3,z4,z5]; simp
  ·have:(oc'==o)=false:=by simpa using e
   rw [this];simp only [Bool.false_eq_true,if_false];omega
 ·simp only [List.mem_append,List.mem_cons,List.not_mem_nil,or_false] at ho;rcases ho with ho | ho | ho | (ho | ho) | ho
  ·exact lt o (by simp [ho])
  ·exact lt o (by simp [ho])
  ·exact lt o (by simp [ho])
  ·have:=old.1; omega
  ·exact lt o (by simp [ho])
  ·exact lt o (by simp [ho])
theorem EInv.ext (h:EInv S H hs ob bs T rs ids) (hw:T.Wf) {T':Store} (hn:T.nx≤T'.nx) (hk : ∀ o,o<T.nx→T'.get o=T.get o):EInv S H hs ob bs T' rs ids:=by
 have hlt:=h.all_lt hw;obtain ⟨old,hd,al,cb,own,nd,lt⟩:=h;exact ⟨⟨Nat.le_trans old.1 hn,fun o ho=>(hk o (Nat.lt_of_lt_of_le ho old.1)).trans (old.2 o ho)⟩,fun o ho=>(hk o (hlt o (by simp [ho]))).trans (hd o ho),al,(hk ob (hlt ob (by simp))).trans cb,own.mono fun o ho=>hk o (hlt o (by simp [ho])),nd,lt⟩
theorem EInv.st (h:EInv S H hs ob bs T rs ids) (hw:T.Wf) (l:List (Option (Nat × List V))):EInv S H hs ob bs (St T [] l) rs ids :=
 h.ext hw (by rw [jE,lid]; omega) fun o ho=>by rw [jk ho]; rfl
theorem EInv.ghost (h:EInv S H hs ob bs T rs ids) {fi fo ts:List Int} {ot:Nat} (hot:ot∈hs) (ht:T.get ot=some (1,ts.map vint)) (post:List V) :
  ∃ S',GhostArgs (.agg [vl vint fi,vl vint fo, .slice ot 0 ts.length, .slice ob 0 bs.length]::post) T (ql ⟨⟨fi,fo⟩,ts,bs⟩::post) S':=by
 have hnd:(ot::ob::ids).Nodup:=List.Sublist.nodup ((List.singleton_sublist.2 hot).append (List.Sublist.refl (ob::ids))) h.nd;exact ⟨_,GhostArgs.one [] post (fn_ghostE (fi:=fi) (fo:=fo) h.own.owl h.cb rfl ht rfl hnd)⟩
end
theorem KQ (l:List Ss.Ins):(je jg l).length=l.length*4:=by
 rw [qx,qY (m:=4) (fun r hr=>by
  obtain ⟨x,_,rfl⟩:=List.mem_map.1 hr;rw [jJ]; rfl),List.length_map]
theorem insL_take (l:List Ss.Ins) (k:Nat):(je jg l).take (k*4)=je jg (l.take k):=by
 rw [qx,jaE k (fun r hr=>by
  obtain ⟨x,_,rfl⟩:=List.mem_map.1 hr;rw [jJ]; rfl),qx,List.map_take]
theorem insL_drop (l:List Ss.Ins) (k:Nat):(je jg l).drop (k*4)=je jg (l.drop k):=by
 rw [qx,flat_drop k (fun r hr=>by
  obtain ⟨x,_,rfl⟩:=List.mem_map.1 hr;rw [jJ]; rfl),qx,List.map_drop]
theorem flatC_app (l m:List Ss.Ins):je jg (l++m)=je jg l++je jg m:=by
 rw [qx,qx,qx,List.map_append,List.flatten_append]
theorem insL_row {l:List Ss.Ins} {k:Nat} (hk:k<l.length):((je jg l).drop (k*4)).take 4=[vint l[k].op,vu l[k].n,vl vint l[k].args,vl vint l[k].outs]:=by
 rw [qx,WT (k:=k) (fun r hr=>by
  obtain ⟨x,_,rfl⟩:=List.mem_map.1 hr;rw [jJ]; rfl) (by rw [List.length_map]; exact hk),List.getElem_map,jJ]
theorem app_head {S:Store} {oc k:Nat} {code:List Ss.Ins} (h:S.get oc=some (4,je jg code)) (hk:k≤code.length) (hb:code.length*64≤140737488355328):jY 4 64 S .nils (.slice oc 0 k)=some (.slice S.nx 0 k,S.add (4,je jg (code.take k))):=by
 have e1:jU 4 S (.slice oc 0 k)=some (je jg (code.take k),k):=by
  simp only [jU,h,Nat.zero_add,List.drop_zero];rw [if_pos (by rw [KQ]; omega),insL_take]
 have h1:k*64≤140737488355328:=by omega
 have h2:k≤140737488355328:=by omega
 simp [jY,e1,h1,h2]
theorem app_tail {S:Store} {o oc k:Nat} {code:List Ss.Ins} (h0:S.get o=some (4,je jg (code.take k))) (h:S.get oc=some (4,je jg code)) (hk:k<code.length) (hb:code.length*64≤140737488355328):jY 4 64 S (.slice o 0 k) (.slice oc ((k+1)*4) (code.length-(k+1)))=some (.slice S.nx 0 (code.length-1),(S.del o).add (4,je jg (code.eraseIdx k))):=by
 have e1:jU 4 S (.slice oc ((k+1)*4) (code.length-(k+1)))=some (je jg (code.drop (k+1)),code.length-(k+1)):=by
  simp only [jU,h];rw [if_pos (by rw [KQ]; omega),insL_drop,List.take_of_length_le (by rw [KQ,List.length_drop]; omega)]
 have hl:(je jg (code.take k)).length=k*4:=by rw [KQ,List.length_take,Nat.min_eq_left (by omega)]
 have h1:(k+(code.length-(k+1)))*64≤140737488355328:=by omega
 have h2:k+(code.length-(k+1))≤140737488355328:=by omega
 have h3:k+(code.length-(k+1))=code.length-1:=by omega
 simp only [jY,e1,h0];rw [if_pos ⟨trivial,by rw [hl]; omega,h1,h2⟩,List.drop_zero, ←hl,List.take_length,h3,List.eraseIdx_eq_take_drop_succ,flatC_app]
theorem sl_tail {S:Store} {oc k:Nat} {code:List Ss.Ins} (h:S.get oc=some (4,je jg code)) (hk:k<code.length):qD 4 S (.slice oc 0 code.length) (some (.int .i64 ((k:Int)+1))) none none=some (.slice oc ((k+1)*4) (code.length-(k+1))):=by
 have:=Za (S:=S) (s:=4) (k := .i64) (o:=oc) (off:=0) (len:=code.length) (h:=((k+1:Nat):Int)) h rfl (by omega) (by omega);rw [Int.toNat_natCast,Nat.zero_add] at this;exact this
end Go.Vw
namespace Ss
structure RK (e:Env) (f g:Fn):Prop where
 chk:check e g=true
 fits:g.Fits
 fin:licF g=licF f
 sig:g.sig=f.sig
 types:g.types=f.types
 len:g.blocks.length=f.blocks.length
theorem RK.start {e:Env} {f:Fn} (h:check e f=true) (hf:f.Fits):RK e f f:=⟨h,hf,rfl,rfl,rfl,rfl⟩
theorem RK.end {e:Env} {f g:Fn} (h:RK e f g) (hf:first g.blocks (homeOf g) (lps g.blocks)=none):g=licF f:=by
 have:=Jl (wt g+1) hf;rw [←h.fin]; exact this.symm
theorem RK.step {e:Env} {f g:Fn} (h:RK e f g) {p n i:Nat} (hf:first g.blocks (homeOf g) (lps g.blocks)=some (p,n,i)) :
  ∃ (hp:p<g.blocks.length) (hn:n<g.blocks.length) (hi:i<g.blocks[n].code.length),p≠n∧moveAt g.blocks p n i=(g.blocks.set n (cutAt g.blocks[n] i)).set p (endWith g.blocks[p] g.blocks[n].code[i])∧RK e f (moved g p n i)∧wt (moved g p n i)<wt g:=by
 obtain ⟨bp,bn,x,hm',hx,hc,hr⟩:=ZA h.chk hf;obtain ⟨s1,s2,s3⟩:=ZS h.chk hf;obtain ⟨hp,ep⟩:=List.getElem?_eq_some_iff.1 hm'.hp;obtain ⟨hn,en⟩:=List.getElem?_eq_some_iff.1 hm'.hn;obtain ⟨hi,ei⟩:=List.getElem?_eq_some_iff.1 hm'.hi;have heq:=hm'.eq;have hlen:=hm'.len;subst en;subst ep;subst ei;exact ⟨hp,hn,hi,hm'.ne,heq,⟨s1,ZT h.chk h.fits hf,(jau h.chk hf).trans h.fin,h.sig,h.types,hlen.trans h.len⟩,s3⟩
end Ss
namespace Go.Vw
open Go.Proofs Go.RowKit
attribute [-simp] List.map_set
set_option pp.deepTerms true
theorem RLic_v (S:Store) (e:Ss.Env) (f:Ss.Fn) (he:e.Fits) (hf:f.Fits) (hc:Ss.check e f=true):VCalls Tryz.prog 10 [zk e,ql f] S fun r T => ∃ r',r = .tuple [r',vint 0]∧YP S (Ss.licF f) r' T:=by
 have hs:=Ss.check_small hc;have cck:=jcF e f he hf;rw [Ss.check_agrees hf] at cck;have crp:=fun S=>RCopyE_v S f hf hs
 have hK0:=Ss.RK.start hc hf;have hsm:=Ss.small_iff f;have hh:=(hsm.1 hs).1;simp only [Ss.Fn.heads,Bool.and_eq_true,decide_eq_true_eq] at hh;obtain ⟨⟨⟨hh1,hh2⟩,_⟩,_⟩:=hh;clear hsm hs;generalize hfin:Ss.licF f=fin at *
 generalize Ss.check e f=ck at *
 obtain ⟨⟨fi,fo⟩,ts,bs⟩:=f;obtain ⟨sg,im,gl,mu,me⟩:=e;simp only at *
 have cck':VPure Tryz.prog 13 [.agg [vl jC sg,vint im,vl vint gl,vl V.bool mu, .bool me], .agg [vl vint fi,vl vint fo,vl vint ts,vl jb bs]] (.bool ck):=cck;have crp' : ∀ S,VCalls Tryz.prog 18 [.agg [vl vint fi,vl vint fo,vl vint ts,vl jb bs]] S (YP S ⟨⟨fi,fo⟩,ts,bs⟩):=crp
 refine qd (c:=jd Tryz.f10) Tryz.func10 rfl (by conv=>lhs; reduce) (by simp [Tryz.ntmps10]) ?_;rw [Tryz.ntmps10];intro hwf;refine QT ?_;refine QY ?_;refine QH 2 0 ?_;refine QH 3 1 ?_;refine QO [2,3,4,5] ?_;refine QK [2] ?_;refine QT ?_;refine QP ?_;refine QL (cck') ?_;refine QM (by conv=>lhs;simp[QV,hc]) ?_;refine QN ?_
 repeat first|refine QG ?_|refine QY ?_ (r:=by conv=>lhs;simp[QV,hc])
 refine QT ?_;refine QP ?_;refine jT rfl (crp' _) ?_;rintro X T ⟨hag0,hwT,ot,ob,cells,ids,rfl,hotg,hob,how,hnd,hids⟩;simp only at hotg how;refine Wy hwT ?_;refine QW ?_;have hag1:=hag0.1;rw [jE] at hag1 hids;simp only [List.length_cons,List.length_nil,Nat.zero_add,lid] at hag1 hids;have h4:T.get (lid S.nx 0)=some (4,[V.nils,V.nils,V.nils,V.nils]):=by
  rw [hag0.2 (lid S.nx 0) (by rw [jE]; simp [lid]),jv]; rfl
 have h4lt:lid S.nx 0<T.nx:=by simp only [lid]; omega
 have hwf0:=hwf
 repeat first|refine QG ?_|refine QY ?_
 obtain ⟨rs0,rfl,hrl0,hrows0⟩:=ZW (fun x=>by rw [jz]; rfl) how;have g0 : ∀ o l,o<T.nx→(St T [] l).get o=T.get o:=fun o l ho=>by rw [jk ho]; rfl
 have hlt : ∀ o∈ot::ob::ids,o<T.nx:=fun o ho=>(hids o ho).2
 generalize hT0:St T [] [some (4,[vl vint fi,vl vint fo,V.slice ot 0 ts.length,V.slice ob 0 bs.length])]=T0;have hinv:EInv S T0 [lid S.nx 0,lid T.nx 0,ot] ob bs T0 rs0 ids:=by
  subst hT0;refine ⟨⟨by rw [jE,lid]; have:=hag0.1; omega,fun o ho => ?_⟩,fun o _=>rfl, ?_, ?_, ?_, ?_, ?_⟩
  ·rw [g0 o _ (by omega),hag0.2 o (by rw [jE,lid]; omega),jk ho]; rfl
  ·intro o ho;simp only [List.mem_cons,List.not_mem_nil,or_false] at ho;rcases ho with rfl | rfl | rfl
   ·rw [g0 _ _ h4lt,h4]; rfl
   ·rw [jv]; rfl
   ·rw [g0 _ _ (hlt _ (by simp)),hotg]; rfl
  ·rw [g0 _ _ (hlt ob (by simp))]; exact hob
  ·exact hrows0.mono fun o ho=>g0 o _ (hlt o (by simp [ho]))
  ·have hno : ∀ o,T.nx≤o→o∉ot::ob::ids:=fun o ho hm=>by have:=hlt o hm; omega
   refine List.nodup_cons.2 ⟨?_,List.nodup_cons.2 ⟨hno _ (by simp only [lid]; omega),hnd⟩⟩;simp only [lid] at h4lt ⊢;refine fun hm => ?_
   rcases List.mem_cons.1 hm with h | hm
   ·omega
   ·have:=(hids _ hm).1; omega
  ·intro o ho;simp only [List.cons_append,List.nil_append,List.mem_cons] at ho;rcases ho with h | h | h | h | h
   ·subst h; simp only [lid]; omega
   ·subst h; simp only [lid]; omega
   ·have:=(hids o (by simp [h])).1; omega
   ·have:=(hids o (by simp [h])).1; omega
   ·have:=(hids o (by simp [h])).1; omega
 have hgH:T0.get (lid T.nx 0)=some (4,[vl vint fi,vl vint fo,V.slice ot 0 ts.length,V.slice ob 0 bs.length]):=by rw [←hT0,jv]; rfl
 have h4H:T0.get (lid S.nx 0)=some (4,[V.nils,V.nils,V.nils,V.nils]):=by rw [←hT0,g0 _ _ h4lt]; exact h4
 have htH:T0.get ot=some (1,ts.map vint):=by rw [←hT0,g0 _ _ (hlt _ (by simp))]; exact hotg
 generalize hp4:lid S.nx 0=p4 at *
 generalize hpg:lid T.nx 0=pg at *
 clear hT0;refine QT ?_;refine jc [4,6] rfl (fun c σ S' => ∃ (g:Ss.Fn) (rs:List (List V)) (ids1:List Nat),Ss.RK ⟨sg,im,gl,mu,me⟩ ⟨⟨fi,fo⟩,ts,bs⟩ g∧EInv S T0 [p4,pg,ot] ob g.blocks S' rs ids1∧c=Ss.wt g∧σ=[(4, .ptr p4 0),(6, .ptr pg 0)]) (Ss.wt ⟨⟨fi,fo⟩,ts,bs⟩) ?_ ?_
 ·exact ⟨_,rs0,ids,hK0,hinv,rfl,by simp [Fr.only,Fr.look]⟩
 ·rintro c σ T1 ⟨g,rs,ids1,hK,hI,rfl,rfl⟩;refine Zl fun hw1=>YT hw1 ?_
  have hst:=fun p n i hf=>Ss.RK.step hK (p:=p) (n:=n) (i:=i) hf
  have hend:=fun hf=>Ss.RK.end hK hf
  have hfg:=hK.fits;have hsg:=hK.sig;have htg:=hK.types;have hcg:=hK.chk;have hgl:=hK.len;have cFi:=RFirst_v _ g hfg hcg;have hgb2:=(jX (Ss.check_small hcg)).2.2.1;obtain ⟨R,hR⟩ : ∃ R,R=Ss.first g.blocks (Ss.homeOf g) (Ss.lps g.blocks):=⟨_,rfl⟩
  rw [←hR] at cFi hst hend;obtain ⟨⟨gi,go'⟩,gt,gb⟩:=g;simp only at hsg htg hgl hI hgb2
  cases hsg
  subst gt;have hgT:=(hI.hd pg (by simp)).trans hgH;have htT:=(hI.hd ot (by simp)).trans htH;have lg:=jy hw1 hgT;have bg:=fun u l => @jk T1 u l pg lg
  have hIb:=hI.cb;have lb:=jy hw1 hIb;have bb:=fun u l => @jk T1 u l ob lb
  have cFi2:VCalls Tryz.prog 34 [.agg [vl vint fi,vl vint fo, .slice ot 0 ts.length, .slice ob 0 bs.length]] (St T1 [] []) fun r T'=>r=Zd R∧T'=St T1 [] []:=by
   rw [qF hw1, ←hgl];obtain ⟨S',hg⟩:=hI.ghost (fi:=fi) (fo:=fo) (ts:=ts) (ot:=ot) (by simp) htT [];refine cFi.thawF hg (fun x hx => ?_) ?_ ?_
   ·simp only [List.mem_cons,List.not_mem_nil,or_false] at hx;rw [hx]; rfl
   ·cases R<;>rfl
   ·intro n
    cases R<;>rfl
  repeat first|refine QG ?_|refine QY ?_
  refine QT ?_;refine QP ?_ (r:=by conv=>lhs;simp[QV,bg,hgT]);refine jT rfl cFi2 ?_;rintro X T9 ⟨rfl,rfl⟩
  cases R with
  | none =>
   have hg:=(hend rfl).trans hfin;subst hg;have h42:=(hI.hd p4 (by simp)).trans h4H;have l4:=jy hw1 h42;have b4:=fun u l => @jk T1 u l p4 l4
   have h4g:pg≠p4:=fun e=>by have:=hI.nd; simp [e] at this
   simp only [Zd];refine QW ?_
   repeat first|refine QG ?_|refine QY ?_ (r:=by conv=>lhs;simp[QV,bg,b4,hgT,h42,h4g])
   rw [qF hw1];have hg4:(T1.upd p4 (4,[vl vint fi,vl vint fo,V.slice ot 0 ts.length,V.slice ob 0 bs.length])).get p4=some (4,[vl vint fi,vl vint fo,V.slice ot 0 ts.length,V.slice ob 0 bs.length]):=zl;refine Zp (xs:=[.agg [vl vint fi,vl vint fo, .slice ot 0 ts.length, .slice ob 0 bs.length], .int .i64 0]) (by simp [hg4]) ?_;have hall:=hI.all_lt hw1;obtain ⟨old,hd',al,cb,own,nd,lt⟩:=hI;have hw5:(T1.upd p4 (4,[vl vint fi,vl vint fo,V.slice ot 0 ts.length,V.slice ob 0 bs.length])).Wf:=jbk hw1 l4 (hw1.ids pg _ hgT);simp only [List.cons_append,List.nil_append] at nd lt hall;have nd2:=nd;simp only [List.nodup_cons,List.mem_cons,not_or] at nd2;obtain ⟨⟨a1,a2,a3,a4⟩,⟨c1,c2,c3⟩,⟨k1,k2⟩,k3,nd3⟩:=nd2;refine qZ ⟨_,rfl,⟨old.1,fun o ho => ?_⟩,hw5,ot,ob,rs.flatten,ids1, ?_, ?_, ?_, ?_, ?_, ?_⟩
   ·have:=lt p4 (by simp);rw [ju (by omega)]; exact old.2 o ho
   ·simp only [hgl]
   ·rw [ju (fun e=>a2 e.symm),hd' ot (by simp)]; exact htH
   ·rw [ju (fun e=>a3 e.symm)]; exact cb
   ·exact own.owl.mono fun o ho=>ju fun e=>a4 (e▸ho)
   ·exact List.Sublist.nodup (.cons _ (.cons _ (List.Sublist.refl _))) nd
   ·intro o ho;have hm:o∈p4::pg::ot::ob::ids1:=by
     simp only [List.mem_cons] at ho ⊢;exact .inr (.inr ho)
    exact ⟨lt o hm,hall o hm⟩
  | some m =>
   obtain ⟨pn,n,i⟩:=m;obtain ⟨hpb,hnb,hib,hne,hmv,hK',hwt⟩:=hst pn n i rfl;have hpb:pn<gb.length:=hpb;have hnb:n<gb.length:=hnb;have hib:i<gb[n].code.length:=hib;have hmv:Ss.moveAt gb pn n i=(gb.set n (Ss.cutAt gb[n] i)).set pn (Ss.endWith gb[pn] gb[n].code[i]):=hmv;clear hst hend cFi cFi2 hK hcg hfg;simp only [Zd];obtain ⟨oc,hcell,hoc,hboc,hhs,hput⟩:=hI.code hw1 hnb;have hcn:=(hgb2 _ (List.getElem_mem hnb)).2.2.2;obtain ⟨⟨ps,code,tm⟩,hbn⟩ : ∃ b,gb[n]=b:=⟨_,rfl⟩
   simp only [hbn] at hcell hoc hput hcn hmv hib;have hit:i<code.length:=hib;obtain ⟨⟨xo,xn,xa,xs⟩,hxe⟩ : ∃ x,code[i]=x:=⟨_,rfl⟩
   have hx4:=insL_row hit;simp only [hxe] at hmv hx4;have hcl4:=KQ code;have hwi:=ji hit (by omega);have ha1:=fun (S:Store) (h:S.get oc=some (4,je jg code))=>app_head h (k:=i) (by omega) (by omega)
   have ha2:=fun (S:Store) (o:Nat) (h0:S.get o=some (4,je jg (code.take i))) (h:S.get oc=some (4,je jg code))=>app_tail h0 h hit (by omega)
   have hs2:=fun (S:Store) (h:S.get oc=some (4,je jg code))=>sl_tail h hit
   have hel:(code.eraseIdx i).length=code.length-1:=List.length_eraseIdx_of_lt hit;obtain ⟨F,hF⟩ : ∃ F,F=je jg code:=⟨_,rfl⟩
   rw [←hF] at hoc hx4 hcl4;simp only [←hF] at ha1 ha2 hs2;obtain ⟨F1,hF1⟩ : ∃ F1,F1=je jg (code.take i):=⟨_,rfl⟩
   obtain ⟨F2,hF2⟩ : ∃ F2,F2=je jg (code.eraseIdx i):=⟨_,rfl⟩
   simp only [←hF1, ←hF2] at ha1 ha2;obtain ⟨cells,hcells⟩ : ∃ c,c=rs.flatten:=⟨_,rfl⟩
   rw [←hcells] at hIb hcell;simp only [←hcells] at hput;have hcl1:n*6+1<cells.length:=(List.getElem?_eq_some_iff.1 hcell).1;have hcv:cells[n*6+1] = .slice oc 0 code.length:=by rw [List.getElem?_eq_getElem hcl1] at hcell; exact Option.some.inj hcell
   have hgl':n<bs.length:=by omega
   have hnbI:(n:Int)<(bs.length:Int):=by omega
   have lc:=jy hw1 hoc;have bc:=fun u l => @jk T1 u l oc lc
   have hc4:i*4+4≤F.length:=by omega
   obtain ⟨hpgoc,hpgob⟩:=hhs pg (by simp);refine QW ?_
   repeat first|refine QG ?_|refine QY ?_
   repeat first|refine QG ?_|refine QY ?_ (r:=by conv=>lhs;simp[QV,bg,hgT,bb,hIb,hcv,hcl1,hgl',hnbI,bc,hoc,hit,hx4,hc4])
   have hboc':=Ne.symm hboc;have hok : ∀ u l,uGet u pg (T1.get pg)=some (4,[vl vint fi,vl vint fo,V.slice ot 0 ts.length,V.slice ob 0 bs.length])→uGet u oc (T1.get oc)=some (4,F)→(∃ c,uGet u ob (T1.get ob)=some (6,c))→(y1 pg (4,[vl vint fi,vl vint fo,V.slice ot 0 ts.length,V.slice ob 0 bs.length])).Sub (St T1 u l)∧(y3 pg (4,[vl vint fi,vl vint fo,V.slice ot 0 ts.length,V.slice ob 0 bs.length]) ob (6,cells) oc (4,F)).Shp (St T1 u l):=fun u l h1 h2 h3=>by
    obtain ⟨c,h3⟩:=h3;exact ⟨y1_sub ((bg u l).trans h1),y3_shp ((bg u l).trans h1) rfl ((bb u l).trans h3) rfl ((bc u l).trans h2) rfl⟩
   have hz1 := @y1_get pg (4,[vl vint fi,vl vint fo,V.slice ot 0 ts.length,V.slice ob 0 bs.length]);have hz2 := @y3_get pg ob oc (4,[vl vint fi,vl vint fo,V.slice ot 0 ts.length,V.slice ob 0 bs.length]) (6,cells) (4,F);have hz3 := @y3_get2 pg ob oc (4,[vl vint fi,vl vint fo,V.slice ot 0 ts.length,V.slice ob 0 bs.length]) (6,cells) (4,F) (Ne.symm hpgob);have hz4 := @y3_get3 pg ob oc (4,[vl vint fi,vl vint fo,V.slice ot 0 ts.length,V.slice ob 0 bs.length]) (6,cells) (4,F) (Ne.symm hpgoc) hboc';have hs2z:=hs2 _ hz4;have hs2':=fun u l (h:uGet u oc (T1.get oc)=some (4,F))=>hs2 (St T1 u l) ((bc u l).trans h)
   have iI:(i:Int)≤(code.length:Int):=by omega
   have q1:jY 4 64 (St T1 [] [some (4,[V.int .i64 xo,V.int .u64 xn,vl vint xa,vl vint xs])]) .nils (.slice oc 0 i)=some (.slice (lid T1.nx 1) 0 i,St T1 [] [some (4,[V.int .i64 xo,V.int .u64 xn,vl vint xa,vl vint xs]),some (4,F1)]):=by
    rw [ha1 _ (by rw [bc]; exact hoc)]; simp [jE,Yf]
   have q2:jY 4 64 (St T1 [] [some (4,[V.int .i64 xo,V.int .u64 xn,vl vint xa,vl vint xs]),some (4,F1)]) (.slice (lid T1.nx 1) 0 i) (.slice oc ((i+1)*4) (code.length-(i+1)))=some (.slice (lid T1.nx 2) 0 (code.length-1),St T1 [] [some (4,[V.int .i64 xo,V.int .u64 xn,vl vint xa,vl vint xs]),none,some (4,F2)]):=by
    rw [ha2 _ _ (by rw [jv]; rfl) (by rw [bc]; exact hoc)]; simp [jE,jbP,Yf]
   have hup : ∀ c l,(St T1 [] l).upd ob c=St T1 [(ob,some c)] l:=fun c l=>by rw [zp lb]; rfl
   refine QT ?_;refine QJ (y1 pg (4,[vl vint fi,vl vint fo,V.slice ot 0 ts.length,V.slice ob 0 bs.length])) (y3 pg (4,[vl vint fi,vl vint fo,V.slice ot 0 ts.length,V.slice ob 0 bs.length]) ob (6,cells) oc (4,F)) [46,55] ?_ (hz:=hok [] _ hgT hoc ⟨_,hIb⟩) (r:=by conv=>lhs; simp [QV,hz1,hz2,hz3,hz4,bg,bb,bc,hgT,hIb,hoc,hcv,hcl1,hgl',hnbI,hwi,iI,hs2z]);refine jS rfl (by conv=>lhs; simp [QV,q1]) (hok [] _ hgT hoc ⟨_,hIb⟩) ?_;refine QM (by conv=>lhs;simp[QV,hz1,hz2,hz3,hz4,bg,bb,bc,hgT,hIb,hoc,hcv,hcl1,hgl',hnbI,hwi,iI,hs2',hs2z]) ?_;refine jS rfl (by conv=>lhs; simp [QV,q2]) (hok [] _ hgT hoc ⟨_,hIb⟩) ?_;refine QM (by conv=>lhs;simp[QV,hz1,hz2,hz3,hz4,bg,bb,hgT,hIb,hcl1,hgl',hnbI]) ?_;refine jS rfl (by conv=>lhs; simp [QV,hup,bb,hIb,hcl1]) (hok [(ob,some (6,cells.set (n*6+1) (.slice (lid T1.nx 2) 0 (code.length-1))))] _ (by simp [uGet,hpgob]; exact hgT) (by simp [uGet,hboc']; exact hoc) ⟨_,by simp [uGet]; rfl⟩) ?_
   refine QN ?_
   trace_state
   obtain ⟨T8,hT8⟩ : ∃ T8,T8=St T1 [(ob,some (6,cells.set (n*6+1) (.slice (lid T1.nx 2) 0 (code.length-1))))] [some (4,[V.int .i64 xo,V.int .u64 xn,vl vint xa,vl vint xs]),none,some (4,F2)]:=⟨_,rfl⟩
   obtain ⟨rs2,ids2,hset2,hI8⟩:=hput T8 (lid T1.nx 2) (code.eraseIdx i) (by simp [lid]) (by rw [hT8,jE,lid]; omega) (fun q hq h1 h2=>by rw [hT8,jk hq]; simp [uGet,h1]) (by rw [hT8,jk lb,hel]; simp [uGet]) (by rw [hT8,jv, ←hF2]; rfl);rw [hel] at hset2;rw [←hT8];have gpx8:T8.get (lid T1.nx 0)=some (4,[V.int .i64 xo,V.int .u64 xn,vl vint xa,vl vint xs]):=by rw [hT8,jv]; rfl
   have gp8:=(hI8.hd pg (by simp)).trans hgH;have hpxne : ∀ q,q<T1.nx→lid T1.nx 0≠q:=fun q hq=>by simp only [lid]; omega
   have hpxpg:=hpxne pg lg;have hpxob:=hpxne ob lb;generalize lid T1.nx 0=px at *
   generalize lid T1.nx 2=oc2 at *
   refine Zl fun hw8 => ?_
   have hp8:pn<(gb.set n ⟨ps,code.eraseIdx i,tm⟩).length:=by rw [List.length_set]; exact hpb
   have hg8:(gb.set n ⟨ps,code.eraseIdx i,tm⟩)[pn]'hp8=gb[pn]:=List.getElem_set_ne (Ne.symm hne) _;obtain ⟨ocp,d1,d2,d4,d5,hpush⟩:=hI8.code hw8 hp8;simp only [hg8] at d1 d2 hpush;obtain ⟨ocq,hcq,hgcq,_,_,_⟩:=hI.code hw1 hpb;have hcp:=(hgb2 _ (List.getElem_mem hpb)).2.2.2;obtain ⟨⟨pps,pcode,ptm⟩,hbp⟩ : ∃ b,gb[pn]=b:=⟨_,rfl⟩
   simp only [hbp] at d1 d2 hpush hcp hcq hgcq hmv;obtain ⟨fc2,hfc2⟩ : ∃ c,c=rs2.flatten:=⟨_,rfl⟩
   have gb8:=hI8.cb;rw [←hfc2] at d1 gb8;simp only [←hfc2] at hpush;have hpxocp:px≠ocp:=by
    rw [←hcells] at hcq;have e1:fc2[pn*6+1]? = cells[pn*6+1]? := by rw [hfc2,hset2,List.getElem?_set_ne (by omega)]
    rw [d1,hcq] at e1;have e2:ocp=ocq:=by injection e1 with h; injection h
    rw [e2]; exact hpxne _ (jy hw1 hgcq)
   have hpc1:pn*6+1<fc2.length:=(List.getElem?_eq_some_iff.1 d1).1;have hcvp:fc2[pn*6+1] = .slice ocp 0 pcode.length:=by rw [List.getElem?_eq_getElem hpc1] at d1; exact Option.some.inj d1
   have hpl:pn<bs.length:=by omega
   have hplI:(pn:Int)<(bs.length:Int):=by omega
   have lg8:=jy hw8 gp8;have lb8:=jy hw8 gb8;have lx8:=jy hw8 gpx8;have lp8:=jy hw8 d2;have bg8:=fun u l => @jk T8 u l pg lg8
   have bb8:=fun u l => @jk T8 u l ob lb8
   have bx8:=fun u l => @jk T8 u l px lx8
   have bp8:=fun u l => @jk T8 u l ocp lp8
   have hpgocp:=(d5 pg (by simp)).1;have hb64:(pcode.length+1)*64≤140737488355328:=by omega
   have hb1:pcode.length+1≤140737488355328:=by omega
   have hap:=flatC_app pcode [⟨xo,xn,xa,xs⟩];have hcl:=KQ pcode;have hnew:je jg [⟨xo,xn,xa,xs⟩]=[V.int .i64 xo,V.int .u64 xn,vl vint xa,vl vint xs]:=rfl;rw [hnew] at hap;have hpush2:=fun T' o'=>hpush T' o' (pcode++[⟨xo,xn,xa,xs⟩])
   simp only [hap,List.length_append,List.length_cons,List.length_nil,Nat.zero_add] at hpush2;obtain ⟨cellsp,hcp2⟩ : ∃ c,c=je jg pcode:=⟨_,rfl⟩
   rw [←hcp2] at d2 hcl;simp only [←hcp2] at hpush2;have hr4:rep0 [V.int .i64 0, .int .u64 0, .nils, .nils] 1=[.int .i64 0, .int .u64 0, .nils, .nils]:=rfl;have d3':=hcl.symm;have hdl : ∀ l,(St T8 [] l).del ocp=St T8 [(ocp,none)] l:=fun l=>by rw [St_delOld lp8]; rfl
   have hup8 : ∀ c l,(St T8 [(ocp,none)] l).upd ob c=St T8 [(ocp,none),(ob,some c)] l:=fun c l=>by rw [zp lb8]; simp [uSet,d4,Ne.symm d4]
   clear hok hz1 hz2 hz3 hz4 hs2z q1 q2 hup ha1 ha2 hs2 hT8 hcell hcv hx4 hoc hcl4 hput hpush hcl1 hc4 bc bb bg lc hnbI iI;refine YT hw8 ?_;have hok : ∀ u l,uGet u pg (T8.get pg)=some (4,[vl vint fi,vl vint fo,V.slice ot 0 ts.length,V.slice ob 0 bs.length])→uGet u px (T8.get px)=some (4,[V.int .i64 xo,V.int .u64 xn,vl vint xa,vl vint xs])→(∃ c,uGet u ob (T8.get ob)=some (6,c))→(y2 pg (4,[vl vint fi,vl vint fo,V.slice ot 0 ts.length,V.slice ob 0 bs.length]) px (4,[V.int .i64 xo,V.int .u64 xn,vl vint xa,vl vint xs])).Sub (St T8 u l)∧(y2 pg (4,[vl vint fi,vl vint fo,V.slice ot 0 ts.length,V.slice ob 0 bs.length]) ob (6,fc2)).Shp (St T8 u l):=fun u l h1 h2 h3=>by
    obtain ⟨c,h3⟩:=h3;exact ⟨y2_sub ((bg8 u l).trans h1) ((bx8 u l).trans h2),y2_shp ((bg8 u l).trans h1) rfl ((bb8 u l).trans h3) rfl⟩
   have hz1 := @y2_get pg px (4,[vl vint fi,vl vint fo,V.slice ot 0 ts.length,V.slice ob 0 bs.length]) (4,[V.int .i64 xo,V.int .u64 xn,vl vint xa,vl vint xs]);have hz2 := @ZI pg px (4,[vl vint fi,vl vint fo,V.slice ot 0 ts.length,V.slice ob 0 bs.length]) (4,[V.int .i64 xo,V.int .u64 xn,vl vint xa,vl vint xs]) hpxpg;have hz3 := @y2_get pg ob (4,[vl vint fi,vl vint fo,V.slice ot 0 ts.length,V.slice ob 0 bs.length]) (6,fc2);have hz4 := @ZI pg ob (4,[vl vint fi,vl vint fo,V.slice ot 0 ts.length,V.slice ob 0 bs.length]) (6,fc2) (Ne.symm hpgob);refine QT ?_;refine QJ (y2 pg (4,[vl vint fi,vl vint fo,V.slice ot 0 ts.length,V.slice ob 0 bs.length]) px (4,[V.int .i64 xo,V.int .u64 xn,vl vint xa,vl vint xs])) (y2 pg (4,[vl vint fi,vl vint fo,V.slice ot 0 ts.length,V.slice ob 0 bs.length]) ob (6,fc2)) [70] ?_ (hz:=hok [] _ gp8 gpx8 ⟨_,gb8⟩) (r:=by conv=>lhs; simp [QV,hz1,hz2,hz3,hz4,bg8,bb8,bx8,gp8,gb8,gpx8,hcvp,hpl,hplI,hpc1])
   refine jS rfl (by conv=>lhs; simp [QV,hz2,hr4]) (hok [] _ gp8 gpx8 ⟨_,gb8⟩) ?_;refine jS rfl (by conv=>lhs; simp [QV,bp8,d2,hb64,hb1,hdl,d3']) (hok [(ocp,none)] _ (by simp [uGet,hpgocp]; exact gp8) (by simp [uGet,hpxocp]; exact gpx8) ⟨fc2,by simp [uGet,d4]; exact gb8⟩) ?_;refine QM (by conv=>lhs;simp[QV,hz1,hz2,hz3,hz4,bg8,bb8,gp8,gb8,hpl,hplI,hpc1]) ?_;refine jS rfl (by conv=>lhs; simp [QV,hup8,bb8,gb8,hpc1,d4]) (hok [(ocp,none),(ob,some (6,fc2.set (pn*6+1) (.slice (lid T8.nx 1) 0 (pcode.length+1))))] _ (by simp [uGet,hpgocp,hpgob]; exact gp8) (by simp [uGet,hpxocp,hpxob]; exact gpx8) ⟨_,by simp [uGet,d4]; rfl⟩) ?_;refine QN ?_
   repeat first|refine QG ?_|refine QY ?_
   trace_state
   obtain ⟨rs3,ids3,hset3,hI9⟩:=hpush2 (St T8 [(ocp,none),(ob,some (6,fc2.set (pn*6+1) (.slice (lid T8.nx 1) 0 (pcode.length+1))))] [some (4,[V.int .i64 xo,V.int .u64 xn,vl vint xa,vl vint xs]),some (4,cellsp++[V.int .i64 xo,V.int .u64 xn,vl vint xa,vl vint xs])]) (lid T8.nx 1) (by simp [lid]) (by rw [jE,lid]; omega) (fun q hq h1 h2=>by rw [jk hq]; simp [uGet,h1,h2]) (by rw [jk lb8]; simp [uGet,d4]) (by rw [jv]; rfl);show jp _ _ _ _ _ _ _;exact again ⟨hwt,Ss.moved ⟨⟨fi,fo⟩,ts,gb⟩ pn n i,rs3,ids3,hK',by show EInv S T0 _ ob (Ss.moveAt gb pn n i) _ rs3 ids3; rw [hmv]; exact hI9,rfl,by simp [Fr.only,Fr.look]⟩
end Go.Vw
namespace Go.Vw
open Go.Proofs Go.RowKit
attribute [-simp] List.map_set
theorem RLicErr_v (e:Ss.Env) (f:Ss.Fn) (he:e.Fits) (hf:f.Fits) (hc:Ss.check e f=false):VPure Tryz.prog 10 [zk e,ql f] (.tuple [ql Ss.emptyFn,vint 6]):=by
 intro S;have cck:=jcF e f he hf;rw [Ss.check_agrees hf] at cck;generalize Ss.check e f=ck at *
 obtain ⟨⟨fi,fo⟩,ts,bs⟩:=f;obtain ⟨sg,im,gl,mu,me⟩:=e;have cck':VPure Tryz.prog 13 [.agg [vl jC sg,vint im,vl vint gl,vl V.bool mu, .bool me], .agg [vl vint fi,vl vint fo,vl vint ts,vl jb bs]] (.bool ck):=cck;refine qd (c:=jd Tryz.f10) Tryz.func10 rfl (by conv=>lhs; reduce) (by simp [Tryz.ntmps10]) ?_;rw [Tryz.ntmps10];intro hwf;refine QT ?_;refine QY ?_;refine QH 2 0 ?_;refine QH 3 1 ?_;refine QO [2,3,4,5] ?_;refine QK [2] ?_;refine QT ?_;refine QP ?_;refine QL (cck') ?_;refine QM (by conv=>lhs;simp[QV,hc]) ?_;refine QN ?_
 repeat first|refine QG ?_|refine QY ?_ (r:=by conv=>lhs;simp[QV,hc])
 refine Zp (xs:=[.agg [.nils, .nils, .nils, .nils], .int .i64 6]) (by simp) ?_;exact zw hwf ((Ghost.tuple [] [_] (jaK _)).toB _) Jn (by rfl)
theorem RLicP_v (e:Ss.Env) (f:Ss.Fn) (he:e.Fits) (hf:f.Fits):VPure Tryz.prog 10 [zk e,ql f] (.tuple [ql (Ss.licOut e f).1,vint (Ss.licOut e f).2]):=by
 cases hc:Ss.check e f with
 | false=>rw [Ss.licOut_f hc]; exact RLicErr_v e f he hf hc
 | true =>
  rw [Ss.licOut_t hc];intro S;have hr:=RLic_v S e f he hf hc;refine zG fun hwf=>qT (hr.mono ?_)
  rintro r T ⟨r',rfl,hag,hwT,ot,ob,cells,ids,rfl,hot,hob,how,hnd,hids⟩;have hg:=fn_ghostE (fi:=(Ss.licF f).sig.inn) (fo:=(Ss.licF f).sig.out) how hob rfl hot rfl hnd;have hfin:Agree S (T.dels (ot::ob::ids)):=by
   refine ⟨by rw [YH]; exact hag.1,fun o ho => ?_⟩;rw [KE,if_neg]
   ·exact hag.2 o ho
   ·intro hm;have:=(hids o hm).1; omega
  exact zw hwf ((Ghost.tuple [] [_] hg).toB _) hfin (by simp [ql])
end Go.Vw
namespace Ss
open Go.Vw.G
def smallL:Fn:=⟨⟨[127,127],[]⟩,[127,127,127],[⟨[0,1],[⟨258,0,[],[]⟩],⟨1,0,[⟨1,[]⟩],[]⟩⟩,⟨[],[⟨258,0,[],[]⟩,⟨106,0,[0,1],[2]⟩],⟨1,0,[⟨1,[]⟩],[]⟩⟩]⟩
def smallL':Fn:=⟨⟨[127,127],[]⟩,[127,127,127],[⟨[0,1],[⟨258,0,[],[]⟩,⟨106,0,[0,1],[2]⟩],⟨1,0,[⟨1,[]⟩],[]⟩⟩,⟨[],[⟨258,0,[],[]⟩],⟨1,0,[⟨1,[]⟩],[]⟩⟩]⟩
def envL:Env:=⟨[],0,[],[],false⟩
theorem ZV:defsOf smallL=some [⟨true,0, -1⟩,⟨true,0, -1⟩,⟨true,1,1⟩]:=by decide
theorem smallL_defs':defsOf smallL'=some [⟨true,0, -1⟩,⟨true,0, -1⟩,⟨true,0,1⟩]:=by decide
theorem Kv:succs smallL.blocks=[[1],[1]]:=by decide
theorem jbW:succs smallL'.blocks=[[1],[1]]:=by decide
theorem smallL_near:nearI [[1],[1]]=[-1,0]:=by decide
theorem smallL_rings:rings smallL.blocks [[1],[1]]=false:=by
 simp [rings,smallL,tickB,ringM,ringW,List.range_succ]
theorem smallL_shape:shapeOk smallL=true:=by
 have h1:Go.Vw.G.right [[1],[1]]=true:=by decide
 have h2:Go.Vw.G.ordI [[1],[1]]=[0,1]:=by decide
 have h3:Go.Vw.G.nats [[1],[1]]=[[1],[1]]:=rfl;simp only [shapeOk,Kv,h1,h2,h3,smallL_rings]
 decide
theorem Kw:check envL smallL=true:=by
 have h1:checkHead envL smallL=true:=by decide
 have hn:numSig 106=([127,127],127,true):=by decide
 have hf : ∀ n o,form envL 106 n o=⟨[127,127],[127],0,true⟩:=fun n o=>by
  have e0:form envL 106 n o=formNum envL 106:=by simp [form]
  rw [e0,formNum,hn]
 have hf2 : ∀ n o,form envL 258 n o=⟨[],[],0,true⟩:=fun n o=>by simp [form]
 simp only [check,h1,ZV,smallL_shape,Bool.true_and];rw [Kv,smallL_near];simp [smallL,checkBlocks,checkCode,insOk,hf,hf2,insOut,typesOf,asks,Go.Vw.eqF,termOk,termHead,termTail,branches,askOk,edgeOk]
 decide
theorem smallL_froms:froms [[1],[1]]=[[],[0,1]]:=by decide
theorem ZU:loopsTo (rNear [[1],[1]]) (froms [[1],[1]]) 2 2=[(1,[1])]:=by
 have hr:rNear [[1],[1]]=[-1,0]:=by decide
 have hb:backs [-1,0] 1 [0,1]=[1]:=by decide
 have hB : ∀ n,Bk [[],[0,1]] 1 [1] n→n=1:=by
  intro n h
  induction h with
  | start hn=>simpa using hn
  | step _ hn _ ih=>exact absurd ih hn
 have hl:loopIn [[],[0,1]] 1 [1] 2=[false,true]:=by
  have h0 : ¬ (0=1∨Bk [[],[0,1]] 1 [1] 0):=by
   rintro (h | h)
   ·omega
   ·have:=hB 0 h; omega
  have h1 : ¬ Bk [[],[0,1]] 1 [1] 0:=fun h=>h0 (.inr h)
  simp [loopIn,List.range_succ,h1]
 have hb0:backs [-1,0] 0 ([[],[0,1]].getD 0 [])=[]:=rfl;have hb1:backs [-1,0] 1 ([[],[0,1]].getD 1 [])=[1]:=hb;rw [hr,smallL_froms,loopsTo,hb1,loopsTo,hb0,loopsTo,hl];simp [picked]
theorem smallL_lps:lps smallL.blocks=[(1,[1])]:=by
 have h3:nats [[1],[1]]=[[1],[1]]:=rfl;rw [lps,Kv,h3]; exact ZU
theorem smallL_lps':lps smallL'.blocks=[(1,[1])]:=by
 have h3:nats [[1],[1]]=[[1],[1]]:=rfl;rw [lps,jbW,h3]; exact ZU
theorem smallL_small:smallL.small=true:=check_small Kw
theorem smallL_porch:porchF smallL 1 [1]=some 0:=by
 rw [porchF,if_pos smallL_small]; decide
theorem smallL_first:first smallL.blocks (homeOf smallL) (lps smallL.blocks)=some (0,1,1):=by
 rw [smallL_lps];have e:homeOf smallL=fun v=>(([⟨true,0, -1⟩,⟨true,0, -1⟩,⟨true,1,1⟩]:List Def).getD v.toNat default).block:=by funext v; rw [homeOf,ZV]; rfl
 rw [e]; decide
theorem jbX:first smallL'.blocks (homeOf smallL') (lps smallL'.blocks)=none:=by
 rw [smallL_lps'];have e:homeOf smallL'=fun v=>(([⟨true,0, -1⟩,⟨true,0, -1⟩,⟨true,0,1⟩]:List Def).getD v.toNat default).block:=by funext v; rw [homeOf,smallL_defs']; rfl
 rw [e]; decide
theorem smallL_lic:licF smallL=smallL':=by
 have h:=jau Kw smallL_first;have e:moved smallL 0 1 1=smallL':=by decide
 rw [e] at h;rw [←h];exact Jl _ jbX
theorem smallL_out:licOut envL smallL=(smallL',0):=by rw [licOut_t Kw,smallL_lic]
theorem smallL_fits:smallL.Fits:=by
 simp [smallL,Fn.Fits,Sig.Fits,Ints,Block.Fits,Ins.Fits,Term.Fits,Edge.Fits,I64]
theorem envL_fits:envL.Fits:=by
 simp [envL,Env.Fits,Ints,I64]
end Ss
namespace Go.Vw
open Go.Proofs Go.RowKit
theorem insInfo:(Tryz.prog.info? 65).map (fun i=>(i.zero,i.size,i.bytes))=some (some (.agg #[.int .i64 0, .int .u64 0, .slice none 0 0, .slice none 0 0]),4,64):=by kernel_rfl
set_option maxHeartbeats 1600000 in
set_option maxRecDepth 1000000 in
theorem InsDel_calls (b off n cap i:Nat) (cells:List Value) (w:World) (hl:cells.length=n*4) (hi:i<n) (hcap:n≤cap) (hm:cap≤9223372036854775807)
  (hc : ∀ t,t<cells.length→w.cell? ⟨b,off+t,none⟩=cells[t]?) (hf : ∀ t,t<cells.length→w.frozen? ⟨b,off+t,none⟩=false) (h1 : ∀ u∈cells,u.oneCell'=true)
  (W1:World) (hW1:W1=w.drew.setCells b (off+i*4) (cells.drop ((i+1)*4))) (W2:World)
  (hcl : ∀ ty,(Builtin.clear_ #[57] ty #[.slice (some ⟨b,off+(i+(n-(i+1)))*4,none⟩) (n-(i+(n-(i+1)))) (cap-(i+(n-(i+1))))]).run Tryz.prog W1 = .ok (.tuple #[]) W2) :
  Calls Tryz.prog 33 #[.slice (some ⟨b,off,none⟩) n cap, .int .i64 i, .int .i64 ((i:Int)+1)] w fun e w'=>e = .returned (.slice (some ⟨b,off,none⟩) (i+(n-(i+1))) cap)∧w'=W2:=by
 obtain ⟨i0,hi0,hz0,hz1,hz2⟩:=info_parts insInfo;obtain ⟨news,hnews⟩ : ∃ news,news=cells.drop ((i+1)*4):=⟨_,rfl⟩
 have hlen:news.length=(n-(i+1))*4:=by rw [hnews,List.length_drop,hl]; omega
 have hget : ∀ t,t<(n-(i+1))*4→news[t]? = cells[(i+1)*4+t]? := fun t ht=>by rw [hnews,List.getElem?_drop]
 obtain ⟨A,hA,hsrc⟩ : ∃ A:Addr,(if cap=i+1 then some (⟨b,off,none⟩:Addr) else some ⟨b,off+(i+1)*4,none⟩)=some A∧Hid (∀ t u,news[t]? = some u→w.drew.cell? (A.add t)=some u):=by
  by_cases h:cap=i+1
  ·refine ⟨⟨b,off,none⟩,by simp [h],fun t u hu => ?_⟩;have h0:news.length=0:=by rw [hlen]; omega
   rw [List.length_eq_zero_iff.1 h0] at hu;simp at hu
  ·refine ⟨⟨b,off+(i+1)*4,none⟩,by simp [h],fun t u hu => ?_⟩;have ht:t<(n-(i+1))*4:=by
    have:=(List.getElem?_eq_some_iff.1 hu).1
    rwa [hlen] at this
   rw [hget t ht] at hu;rw [Addr.add_lit,show off+(i+1)*4+t=off+((i+1)*4+t) by omega];exact (hc ((i+1)*4+t) (by omega)).trans hu
 have s1:Hid (news.length=(n-(i+1))*4):=hlen;have s2:Hid (∀ u∈news,u.oneCell'=true):=by
  intro u hu;rw [hnews] at hu;exact h1 u (List.mem_of_mem_drop hu)
 have s3:Hid (∀ t,t<news.length→(w.drew.cell? ⟨b,off+i*4+t,none⟩).isSome=true∧w.drew.frozen? ⟨b,off+i*4+t,none⟩=false):=by
  intro t ht;rw [hlen] at ht;rw [Nat.add_assoc];have hlt:i*4+t<cells.length:=by omega
  exact ⟨by show (w.cell? _).isSome=true; rw [hc _ hlt,List.getElem?_eq_getElem hlt]; rfl,hf _ hlt⟩
 have hW:Hid (W1=w.drew.setCells b (off+i*4) news):=hW1.trans (by rw [hnews]);have hic:i≤cap:=by omega
 have hp0:(0:Int)≤(i:Int)+1:=by omega
 have hp1:(i:Int)+1≤(n:Int):=by omega
 have hp2:((i:Int)+1).toNat=i+1:=by omega
 have hp3:(i:Int)≤(i:Int)+1:=by omega
 have hp4 : ¬ (i:Int)=(i:Int)+1:=by omega
 have hp5:(i:Int)+1≤(cap:Int):=by omega
 clear hc hf hget hnews hlen hW1
 go_enter Tryz.func33,Tryz.ntmps33
 go_wp2_with fail
 go_region_law (refine step_append_room rfl (.tmp 22) (.tmp 25) 57 rfl 65 i0 4 Tryz.underlying57 hi0 hz1 b off i cap (by simp [Act.eval,Act.put]) A (n-(i+1)) (cap-(i+1)) news (by simp [Act.eval,Act.put]) s1.out hsrc.out s2.out (by omega) s3.out ?_; rw [←hW.out])
 go_wp2
 go_ret
 exact ⟨rfl,rfl⟩
theorem zZ {m:Nat} : ∀ {rows:List (List V)},(∀ r∈rows,r.length=m)→rows.flatten.length=rows.length*m
 | [],_=>by simp
 | r::rows,h=>by rw [List.flatten_cons,List.length_append,h r (by simp),zZ fun x hx=>h x (by simp [hx]),List.length_cons,Nat.add_mul,Nat.one_mul,Nat.add_comm]
theorem YC {m:Nat} : ∀ {rows:List (List V)} (k:Nat),(∀ r∈rows,r.length=m)→rows.flatten.take (k*m)=(rows.take k).flatten
 | [],_,_=>by simp
 | r::rows,0,h=>by simp
 | r::rows,k+1,h=>by
  have hr:=h r (by simp);rw [List.flatten_cons,List.take_append,hr,List.take_of_length_le (by rw [hr,Nat.add_mul]; omega),show (k+1)*m-m=k*m by rw [Nat.add_mul]; omega,YC k fun x hx=>h x (by simp [hx]),List.take_succ_cons,List.flatten_cons]
theorem lflat_drop {m:Nat} {rows:List (List V)} (k:Nat) (h : ∀ r∈rows,r.length=m):rows.flatten.drop (k*m)=(rows.drop k).flatten:=by
 have h1:=List.take_append_drop (k*m) rows.flatten;rw [YC k h] at h1;have h2:rows.flatten=(rows.take k).flatten++(rows.drop k).flatten:=by rw [←List.flatten_append,List.take_append_drop]
 exact List.append_cancel_left (h1.trans h2)
theorem lflat_splice {rows:List (List V)} (h : ∀ r∈rows,r.length=4) {i:Nat} (hi:i<rows.length) {z:List V} (hz:z.length=4) :
  qr (qr rows.flatten (i*4) (rows.flatten.drop ((i+1)*4))) ((rows.length-1)*4) z=(rows.eraseIdx i).flatten++z:=by
 have e0:(rows.eraseIdx i).flatten=(rows.take i).flatten++(rows.drop (i+1)).flatten:=by rw [List.eraseIdx_eq_take_drop_succ,List.flatten_append]
 have l1:((rows.take i).flatten).length=i*4:=by rw [zZ fun r hr=>h r (List.mem_of_mem_take hr),List.length_take,Nat.min_eq_left (by omega)]
 have l2:((rows.drop (i+1)).flatten).length=(rows.length-(i+1))*4:=by rw [zZ fun r hr=>h r (List.mem_of_mem_drop hr),List.length_drop]
 have l3:((rows.take i).flatten++(rows.drop (i+1)).flatten).length=(rows.length-1)*4:=by rw [List.length_append,l1,l2]; omega
 rw [e0];unfold qr;rw [YC i h,lflat_drop (i+1) h,List.take_append,List.take_of_length_le (by rw [l3]; omega),l3,Nat.sub_self,List.take_zero,List.append_nil];have l4:((List.take i rows).flatten++(List.drop (i+1) rows).flatten++List.drop (i*4+(List.drop (i+1) rows).flatten.length) rows.flatten).length=rows.length*4:=by
  rw [List.length_append,l3,List.length_drop,zZ h,l2]; omega
 rw [List.drop_eq_nil_of_le (i:=(rows.length-1)*4+z.length) (by rw [l4,hz]; omega),List.append_nil]
def zIns:List V:=[.int .i64 0, .int .u64 0, .nils, .nils]
theorem clear1 {S:Store} {m:Imm} {β:Objs} {w:World} (hS:Holds S m β w) {o b base s n:Nat} {c:Nat × List V} (ho:S.get o=some c) (hob:β o = .lies b base s n) (off cap:Nat) (hle:off+4≤c.2.length) :
  ∃ w',(∀ ty,(Builtin.clear_ #[57] ty #[.slice (some ⟨b,base+off,none⟩) 1 cap]).run Tryz.prog w = .ok (.tuple #[]) w')∧Holds (S.upd o (c.1,qr c.2 off zIns)) m β w'∧Ext m β w m β w':=by
 obtain ⟨i0,hi0,hz0,hz1,hz2⟩:=info_parts insInfo;obtain ⟨w',h1,h2,h3⟩:=hS.store (P:=Tryz.prog) ho hob off zIns [.int .i64 0, .int .u64 0, .slice none 0 0, .slice none 0 0]
  (.cons (.imm (.int _ _)) (.cons (.imm (.int _ _)) (.cons (.imm (.nils _)) (.cons (.imm (.nils _)) (.nil _ _))))) (by simp [Value.oneCell']) (by simpa [zIns] using hle)
 refine ⟨w',fun ty => ?_,h2,h3⟩;have hzv:(zeroValue 65).run Tryz.prog w = .ok (.agg #[.int .i64 0, .int .u64 0, .slice none 0 0, .slice none 0 0]) w:=by simp [zeroValue,typeInfo,hi0,hz0]
 have hzc:(Builtin.zeroCells (Value.agg #[.int .i64 0, .int .u64 0, .slice none 0 0, .slice none 0 0]).cells 1).toList=[.int .i64 0, .int .u64 0, .slice none 0 0, .slice none 0 0]:=by simp [Builtin.zeroCells,Value.cells,List.range_succ]
 simp [Builtin.clear_,run_underlying Tryz.underlying57,Result.andThen,hzv,hzc,h1]
theorem Holds.trim {S:Store} {m:Imm} {β:Objs} {w:World} (hS:Holds S m β w) {o s:Nat} {a z:List V} (hc:S.get o=some (s,a++z)) {b base s2 n2:Nat} (hob:β o = .lies b base s2 n2):Holds (S.upd o (s,a)) m β w:=by
 refine ⟨hS.imm,hS.apart,hS.inj,hS.fresh,fun o' ho' => ?_,fun o' ho' hn => ?_,fun o' c' hc' => ?_⟩
 ·have:=hS.lt hc;rw [qn];have:S.nx≤o':=ho';rw [if_neg (by omega)]; exact hS.gone o' ho'
 ·rw [qn] at hn
  by_cases e:o'=o
  ·rw [if_pos e] at hn; cases hn
  ·rw [if_neg e] at hn; exact hS.dead o' ho' hn
 ·rw [qn] at hc'
  by_cases e:o'=o
  ·rw [if_pos e] at hc'
   cases hc'
   subst e;have hl:=hS.live o' _ hc;rw [hob] at hl ⊢;obtain ⟨h1,arr,TT,h2,h3,h4,h5⟩:=hl;refine ⟨h1,arr,TT,h2,h3, ?_,fun i x hx => ?_⟩
   ·simp only [List.length_append] at h4; simp only; omega
   ·have hi:=(List.getElem?_eq_some_iff.1 hx).1;exact h5 i x (by simp only; rw [List.getElem?_append_left hi]; exact hx)
  ·rw [if_neg e] at hc';exact hS.live o' c' hc'
theorem InsDel_v {S:Store} {oc i:Nat} {rows:List (List V)} (hg:S.get oc=some (4,rows.flatten)) (h4 : ∀ r∈rows,r.length=4) (hi:i<rows.length) :
  VCalls Tryz.prog 33 [.slice oc 0 rows.length,vint i,vint (i+1)] S fun r T=>r = .slice oc 0 (rows.length-1)∧T=S.upd oc (4,(rows.eraseIdx i).flatten):=by
 intro m β w vs hS hr;obtain ⟨v0,v1,v2,rfl⟩ : ∃ v0 v1 v2,vs=[v0,v1,v2]:=by
  have:=hr.1
  match vs,this with
  | [a,b,c],_=>exact ⟨a,b,c,rfl⟩
 have r0:=hr.2 0 _ _ rfl rfl;have r1:=hr.2 1 _ _ rfl rfl;have r2:=hr.2 2 _ _ rfl rfl;have e1:v1 = .int .i64 i:=by cases r1 with | imm h=>cases h; rfl
 have e2:v2 = .int .i64 ((i:Int)+1):=by cases r2 with | imm h=>cases h; rfl
 subst e1 e2;obtain ⟨a,cap,rfl,hlc,hcm,hcase⟩:=r0.inv_slice (hS.alive hg);rcases hcase with ⟨_,h0,_⟩ | ⟨b,base,s,n,hob,hcase⟩
 ·omega
 rcases hcase with h0 | ⟨rfl,hroom⟩
 ·omega
 have hfl:=zZ h4;obtain ⟨hs4,arr,TT,ha1,ha2,ha3,ha4⟩:=hS.cells_at hg hob;simp only at hs4 ha3 ha4;subst hs4;obtain ⟨cells,hc1,hc2,hc3,hc4⟩:=Jr ha4 0 (rows.length*4) (by simp [hfl]);rw [List.drop_zero,List.take_of_length_le (by rw [hfl]; exact Nat.le_refl _)] at hc3;have hcell : ∀ t,t<cells.length→w.cell? ⟨b,base+0+t,none⟩=cells[t]? := fun t ht=>by
  have:=hc2 t cells[t] (List.getElem?_eq_getElem ht);simp [World.cell?,ha1,this,List.getElem?_eq_getElem ht];simpa using this
 have hfz : ∀ t,t<cells.length→w.frozen? ⟨b,base+0+t,none⟩=false:=fun t ht=>by simp [World.frozen?,ha1]
 have hdl:(rows.flatten.drop ((i+1)*4)).length=(rows.length-(i+1))*4:=by rw [List.length_drop,hfl]; omega
 have hrd:RepL m β (rows.flatten.drop ((i+1)*4)) (cells.drop ((i+1)*4)):=by
  refine ⟨by rw [List.length_drop,List.length_drop,hc3.1],fun k x v hx hv => ?_⟩;rw [List.getElem?_drop] at hx hv;exact hc3.2 _ x v hx hv
 obtain ⟨w1,hst,hS1,hE1⟩:=(hS.drew).store (P:=Tryz.prog) hg hob (i*4) (rows.flatten.drop ((i+1)*4)) (cells.drop ((i+1)*4)) hrd (fun v hv=>hc4 v (List.mem_of_mem_drop hv)) (by simp only; rw [hdl,hfl]; omega);have hw1:w1=w.drew.setCells b (base+0+i*4) (cells.drop ((i+1)*4)):=by
  have k:=run_storeCells_cells (P:=Tryz.prog) b (base+i*4) (cells.drop ((i+1)*4)) 0 w.drew
   (fun j hj=>by
    rw [List.length_drop] at hj;have:=hcell (i*4+j) (by omega);show (w.cell? _).isSome=true;rw [show base+i*4+0+j=base+0+(i*4+j) by omega,this,List.getElem?_eq_getElem (by omega)]; rfl)
   (fun j hj=>by
    rw [List.length_drop] at hj;have:=hfz (i*4+j) (by omega);show w.frozen? _=false;rw [show base+i*4+0+j=base+0+(i*4+j) by omega]; exact this)
   (fun v hv=>hc4 v (List.mem_of_mem_drop hv))
  rw [hst] at k;have:=congrArg (fun r=>match r with | .ok _ w=>some w | _=>none) k;simpa using this
 have hl1:(qr rows.flatten (i*4) (rows.flatten.drop ((i+1)*4))).length=rows.length*4:=by rw [Ji _ _ _ (by rw [hdl,hfl]; omega),hfl]
 obtain ⟨w2,hcl,hS2,hE2⟩:=clear1 hS1 (o:=oc) (c:=(4,qr rows.flatten (i*4) (rows.flatten.drop ((i+1)*4)))) (by simp [Store.upd]) hob ((rows.length-1)*4) (cap-(rows.length-1)) (by simp only; rw [hl1]; omega);have hn1:i+(rows.length-(i+1))=rows.length-1:=by omega
 have hd:=InsDel_calls b (base+0) rows.length cap i cells w (by rw [hc1]) hi hlc hcm hcell hfz hc4 w1 hw1 w2 (by
  intro ty;rw [hn1,show rows.length-(rows.length-1)=1 by omega];exact hcl ty)
 refine hd.mono ?_;rintro e w' ⟨rfl,rfl⟩;refine ⟨_, .slice oc 0 (rows.length-1),_,m,β,rfl,⟨rfl,rfl⟩, ?_, ?_, ?_⟩
 ·rw [hn1];exact .slice oc 0 _ b base 4 n cap _ hob (by omega) hcm (.inr ⟨rfl,hroom⟩)
 ·have e3:(S.upd oc (4,qr rows.flatten (i*4) (rows.flatten.drop ((i+1)*4)))).upd oc (4,qr (qr rows.flatten (i*4) (rows.flatten.drop ((i+1)*4))) ((rows.length-1)*4) zIns)=S.upd oc (4,(rows.eraseIdx i).flatten++zIns):=by
   rw [lflat_splice h4 hi rfl];refine Store.ext' (funext fun o2 => ?_) rfl;simp only [Store.upd];split<;>rfl
  rw [e3] at hS2;have h:=hS2.trim (o:=oc) (s:=4) (a:=(rows.eraseIdx i).flatten) (z:=zIns) (by simp [Store.upd]) hob;have e5:(S.upd oc (4,(rows.eraseIdx i).flatten++zIns)).upd oc (4,(rows.eraseIdx i).flatten)=S.upd oc (4,(rows.eraseIdx i).flatten):=by
   refine Store.ext' (funext fun o2 => ?_) rfl;simp only [Store.upd];split<;>rfl
  rw [←e5];exact h
 ·exact (Ext.drew m β w).trans (hE1.trans hE2)
end Go.Vw
