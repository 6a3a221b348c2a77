import Derived.Test.YtkfllaokjaldnaaGreatC31
import Derived.Test.YtkfllaokjaldnaaGreatC32
import Derived.Test.YtkfllaokjaldnaaGreatC27
import Derived.Test.YtkfllaokjaldnaaGreatProg
import Derived.WalkKit
import Derived.Deep.RegionLaw
import Derived.Lib.SliceRun
import Derived.Test.YtkfllaokjaldnaaGreatC4
import Derived.Test.YtkfllaokjaldnaaGreatC10
/-
  Part of the proof (texts LRunH, LDelM, LDel).
-/
set_option linter.unusedVariables false
set_option linter.unusedSimpArgs false
namespace Go.Vw
open Go.Proofs Go.RowKit
set_option maxRecDepth 10000
set_option maxHeartbeats 2000000
theorem plus_none {S:Store} (h:S.Wf):plus S ⟨fun _=>none,0⟩=S:=by
 refine Store.ext' (funext fun o => ?_) rfl;simp only [plus];split
 ·rfl
 ·rw [h.gone o (by omega)]; rfl
theorem VPure.thawF {P:Program} {f:FuncId} {xs xs':List V} {S S':Store} {X:V} (h:VPure P f xs' X) (hg:GhostArgs xs S xs' S') (hcl : ∀ x∈xs',x.closed=true) (hf:flatV X=true) (hsx : ∀ n,jaT n X=X):VCalls P f xs S fun r T=>r=X∧T=S:=by
 refine Js fun hw => ?_
 refine ((h ⟨fun _=>none,0⟩).thaw hg hcl ?_).mono ?_
 ·rintro r T ⟨rfl,rfl⟩;exact ⟨hf,fun o c hc=>by cases hc⟩
 ·rintro r T ⟨r0,T0,⟨rfl,rfl⟩,rfl,rfl⟩;exact ⟨hsx _,plus_none hw⟩
theorem plus_one {S:Store} (h:S.Wf) (l:List Int):plus S (St ⟨fun _=>none,0⟩ [] [some (1,l.map vint)])=St S [] [some (1,l.map vint)]:=by
 refine Store.ext' (funext fun o => ?_) ?_
 ·simp only [plus,St]
  by_cases ho:o<S.nx
  ·simp [ho,uGet]
  ·rw [if_neg ho,if_neg ho];simp only [Nat.not_lt_zero,if_false,Nat.sub_zero]
   cases hk:o-S.nx with
   | zero=>simp [Wx,vint]
   | succ k=>simp
 ·simp [plus,St,lid]
def y1 (o:Nat) (c:Nat × List V):Store:=⟨fun q=>if q=o then some c else none,0⟩
theorem y1_sub {o:Nat} {c:Nat × List V} {S:Store} (h:S.get o=some c):(y1 o c).Sub S:=fun q d hd=>by
 simp only [y1] at hd; split at hd
 ·rename_i e; subst e; cases hd; exact h
 ·cases hd
theorem y1_get {o:Nat} {c:Nat × List V}:(y1 o c).get o=some c:=by simp [y1]
def y2 (o:Nat) (c:Nat × List V) (p:Nat) (d:Nat × List V):Store:=⟨fun q=>if q=o then some c else if q=p then some d else none,0⟩
theorem y2_sub {o p:Nat} {c d:Nat × List V} {S:Store} (h:S.get o=some c) (h2:S.get p=some d):(y2 o c p d).Sub S:=fun q e he=>by
 simp only [y2] at he; split at he
 ·rename_i e2; subst e2; cases he; exact h
 ·split at he
  ·rename_i e2; subst e2; cases he; exact h2
  ·cases he
theorem y2_shp {o p:Nat} {c d c' d':Nat × List V} {S:Store} (h:S.get o=some c') (hc:c'.1=c.1) (h2:S.get p=some d') (hd:d'.1=d.1):(y2 o c p d).Shp S:=fun q e he=>by
 simp only [y2] at he; split at he
 ·rename_i e2; subst e2; cases he; exact ⟨c',h,hc⟩
 ·split at he
  ·rename_i e2; subst e2; cases he; exact ⟨d',h2,hd⟩
  ·cases he
theorem y2_get {o p:Nat} {c d:Nat × List V}:(y2 o c p d).get o=some c:=by simp [y2]
theorem y2_get2 {o p:Nat} {c d:Nat × List V} (h:p≠o):(y2 o c p d).get p=some d:=by simp [y2,h]
def y3 (o:Nat) (c:Nat × List V) (p:Nat) (d:Nat × List V) (q:Nat) (e:Nat × List V):Store:=⟨fun r=>if r=o then some c else if r=p then some d else if r=q then some e else none,0⟩
theorem y3_shp {o p q:Nat} {c d e c' d' e':Nat × List V} {S:Store} (h:S.get o=some c') (hc:c'.1=c.1) (h2:S.get p=some d') (hd:d'.1=d.1) (h3:S.get q=some e') (he:e'.1=e.1):(y3 o c p d q e).Shp S:=fun r x hx=>by
 simp only [y3] at hx; split at hx
 ·rename_i e2; subst e2; cases hx; exact ⟨c',h,hc⟩
 ·split at hx
  ·rename_i e2; subst e2; cases hx; exact ⟨d',h2,hd⟩
  ·split at hx
   ·rename_i e2; subst e2; cases hx; exact ⟨e',h3,he⟩
   ·cases hx
theorem y3_get {o p q:Nat} {c d e:Nat × List V}:(y3 o c p d q e).get o=some c:=by simp [y3]
theorem y3_get2 {o p q:Nat} {c d e:Nat × List V} (h:p≠o):(y3 o c p d q e).get p=some d:=by simp [y3,h]
theorem y3_get3 {o p q:Nat} {c d e:Nat × List V} (h:q≠o) (h2:q≠p):(y3 o c p d q e).get q=some e:=by simp [y3,h,h2]
section
variable {S H:Store} {hs:List Nat} {ob:Nat} {bs:List Ss.Block} {T:Store} {rs:List (List V)} {ids:List Nat}
theorem BInv.ext (h:BInv S H hs ob bs T rs ids) (hw:T.Wf) {T':Store} (hn:T.nx≤T'.nx) (hk : ∀ o,o<T.nx→T'.get o=T.get o):BInv S H hs ob bs T' rs ids:=by
 have hlt:=h.all_lt hw;obtain ⟨old,hd,al,cb,own,nd,lt⟩:=h;exact ⟨⟨Nat.le_trans old.1 hn,fun o ho=>(hk o (Nat.lt_of_lt_of_le ho old.1)).trans (old.2 o ho)⟩,fun o ho=>(hk o (hlt o (by simp [ho]))).trans (hd o ho),al,(hk ob (hlt ob (by simp))).trans cb,own.mono fun o ho=>hk o (hlt o (by simp [ho])),nd,lt⟩
theorem BInv.st (h:BInv S H hs ob bs T rs ids) (hw:T.Wf) (l:List (Option (Nat × List V))):BInv S H hs ob bs (St T [] l) rs ids :=
 h.ext hw (by rw [qp,lid]; omega) fun o ho=>by rw [jx ho]; rfl
theorem BInv.ghost (h:BInv S H hs ob bs T rs ids) {fi fo ts:List Int} {ot:Nat} (hot:ot∈hs) (ht:T.get ot=some (1,ts.map vint)) (post:List V) :
  ∃ S',GhostArgs (.agg [vl vint fi,vl vint fo, .slice ot 0 ts.length, .slice ob 0 bs.length]::post) T (qL ⟨⟨fi,fo⟩,ts,bs⟩::post) S':=by
 have hnd:(ot::ob::ids).Nodup:=List.Sublist.nodup ((List.singleton_sublist.2 hot).append (List.Sublist.refl (ob::ids))) h.nd;exact ⟨_,GhostArgs.one [] post (fn_ghostD (fi:=fi) (fo:=fo) h.own.owl h.cb rfl ht rfl hnd)⟩
end
end Go.Vw

namespace Go.Vw
open Go.Proofs Go.RowKit
theorem insInfo:(Tryz.prog.info? 65).map (fun i=>(i.zero,i.size,i.bytes))=some (some (.agg #[.int .i64 0, .int .u64 0, .slice none 0 0, .slice none 0 0]),4,64):=by kernel_rfl
set_option maxHeartbeats 1600000 in
set_option maxRecDepth 1000000 in
theorem InsDel_calls (b off n cap i:Nat) (cells:List Value) (w:World) (hl:cells.length=n*4) (hi:i<n) (hcap:n≤cap) (hm:cap≤9223372036854775807)
  (hc : ∀ t,t<cells.length→w.cell? ⟨b,off+t,none⟩=cells[t]?) (hf : ∀ t,t<cells.length→w.frozen? ⟨b,off+t,none⟩=false) (h1 : ∀ u∈cells,u.oneCell'=true)
  (W1:World) (hW1:W1=w.drew.setCells b (off+i*4) (cells.drop ((i+1)*4))) (W2:World)
  (hcl : ∀ ty,(Builtin.clear_ #[57] ty #[.slice (some ⟨b,off+(i+(n-(i+1)))*4,none⟩) (n-(i+(n-(i+1)))) (cap-(i+(n-(i+1))))]).run Tryz.prog W1 = .ok (.tuple #[]) W2) :
  Calls Tryz.prog 33 #[.slice (some ⟨b,off,none⟩) n cap, .int .i64 i, .int .i64 ((i:Int)+1)] w fun e w'=>e = .returned (.slice (some ⟨b,off,none⟩) (i+(n-(i+1))) cap)∧w'=W2:=by
 obtain ⟨i0,hi0,hz0,hz1,hz2⟩:=info_parts insInfo;obtain ⟨news,hnews⟩ : ∃ news,news=cells.drop ((i+1)*4):=⟨_,rfl⟩
 have hlen:news.length=(n-(i+1))*4:=by rw [hnews,List.length_drop,hl]; omega
 have hget : ∀ t,t<(n-(i+1))*4→news[t]? = cells[(i+1)*4+t]? := fun t ht=>by rw [hnews,List.getElem?_drop]
 obtain ⟨A,hA,hsrc⟩ : ∃ A:Addr,(if cap=i+1 then some (⟨b,off,none⟩:Addr) else some ⟨b,off+(i+1)*4,none⟩)=some A∧Hid (∀ t u,news[t]? = some u→w.drew.cell? (A.add t)=some u):=by
  by_cases h:cap=i+1
  ·refine ⟨⟨b,off,none⟩,by simp [h],fun t u hu => ?_⟩;have h0:news.length=0:=by rw [hlen]; omega
   rw [List.length_eq_zero_iff.1 h0] at hu;simp at hu
  ·refine ⟨⟨b,off+(i+1)*4,none⟩,by simp [h],fun t u hu => ?_⟩;have ht:t<(n-(i+1))*4:=by
    have:=(List.getElem?_eq_some_iff.1 hu).1
    rwa [hlen] at this
   rw [hget t ht] at hu;rw [Addr.add_lit,show off+(i+1)*4+t=off+((i+1)*4+t) by omega];exact (hc ((i+1)*4+t) (by omega)).trans hu
 have s1:Hid (news.length=(n-(i+1))*4):=hlen;have s2:Hid (∀ u∈news,u.oneCell'=true):=by
  intro u hu;rw [hnews] at hu;exact h1 u (List.mem_of_mem_drop hu)
 have s3:Hid (∀ t,t<news.length→(w.drew.cell? ⟨b,off+i*4+t,none⟩).isSome=true∧w.drew.frozen? ⟨b,off+i*4+t,none⟩=false):=by
  intro t ht;rw [hlen] at ht;rw [Nat.add_assoc];have hlt:i*4+t<cells.length:=by omega
  exact ⟨by show (w.cell? _).isSome=true; rw [hc _ hlt,List.getElem?_eq_getElem hlt]; rfl,hf _ hlt⟩
 have hW:Hid (W1=w.drew.setCells b (off+i*4) news):=hW1.trans (by rw [hnews]);have hic:i≤cap:=by omega
 have hp0:(0:Int)≤(i:Int)+1:=by omega
 have hp1:(i:Int)+1≤(n:Int):=by omega
 have hp2:((i:Int)+1).toNat=i+1:=by omega
 have hp3:(i:Int)≤(i:Int)+1:=by omega
 have hp4 : ¬ (i:Int)=(i:Int)+1:=by omega
 have hp5:(i:Int)+1≤(cap:Int):=by omega
 clear hc hf hget hnews hlen hW1
 go_enter Tryz.func33,Tryz.ntmps33
 go_wp2_with fail
 go_region_law (refine step_append_room rfl (.tmp 22) (.tmp 25) 57 rfl 65 i0 4 Tryz.underlying57 hi0 hz1 b off i cap (by simp [Act.eval,Act.put]) A (n-(i+1)) (cap-(i+1)) news (by simp [Act.eval,Act.put]) s1.out hsrc.out s2.out (by omega) s3.out ?_; rw [←hW.out])
 go_wp2
 go_ret
 exact ⟨rfl,rfl⟩
end Go.Vw

namespace Go.Vw
open Go.Proofs Go.RowKit
theorem Ja {m:Nat} : ∀ {rows:List (List V)},(∀ r∈rows,r.length=m)→rows.flatten.length=rows.length*m
 | [],_=>by simp
 | r::rows,h=>by rw [List.flatten_cons,List.length_append,h r (by simp),Ja fun x hx=>h x (by simp [hx]),List.length_cons,Nat.add_mul,Nat.one_mul,Nat.add_comm]
theorem Yv {m:Nat} : ∀ {rows:List (List V)} (k:Nat),(∀ r∈rows,r.length=m)→rows.flatten.take (k*m)=(rows.take k).flatten
 | [],_,_=>by simp
 | r::rows,0,h=>by simp
 | r::rows,k+1,h=>by
  have hr:=h r (by simp);rw [List.flatten_cons,List.take_append,hr,List.take_of_length_le (by rw [hr,Nat.add_mul]; omega),show (k+1)*m-m=k*m by rw [Nat.add_mul]; omega,Yv k fun x hx=>h x (by simp [hx]),List.take_succ_cons,List.flatten_cons]
theorem lflat_drop {m:Nat} {rows:List (List V)} (k:Nat) (h : ∀ r∈rows,r.length=m):rows.flatten.drop (k*m)=(rows.drop k).flatten:=by
 have h1:=List.take_append_drop (k*m) rows.flatten;rw [Yv k h] at h1;have h2:rows.flatten=(rows.take k).flatten++(rows.drop k).flatten:=by rw [←List.flatten_append,List.take_append_drop]
 exact List.append_cancel_left (h1.trans h2)
theorem lflat_splice {rows:List (List V)} (h : ∀ r∈rows,r.length=4) {i:Nat} (hi:i<rows.length) {z:List V} (hz:z.length=4) :
  jB (jB rows.flatten (i*4) (rows.flatten.drop ((i+1)*4))) ((rows.length-1)*4) z=(rows.eraseIdx i).flatten++z:=by
 have e0:(rows.eraseIdx i).flatten=(rows.take i).flatten++(rows.drop (i+1)).flatten:=by rw [List.eraseIdx_eq_take_drop_succ,List.flatten_append]
 have l1:((rows.take i).flatten).length=i*4:=by rw [Ja fun r hr=>h r (List.mem_of_mem_take hr),List.length_take,Nat.min_eq_left (by omega)]
 have l2:((rows.drop (i+1)).flatten).length=(rows.length-(i+1))*4:=by rw [Ja fun r hr=>h r (List.mem_of_mem_drop hr),List.length_drop]
 have l3:((rows.take i).flatten++(rows.drop (i+1)).flatten).length=(rows.length-1)*4:=by rw [List.length_append,l1,l2]; omega
 rw [e0];unfold jB;rw [Yv i h,lflat_drop (i+1) h,List.take_append,List.take_of_length_le (by rw [l3]; omega),l3,Nat.sub_self,List.take_zero,List.append_nil];have l4:((List.take i rows).flatten++(List.drop (i+1) rows).flatten++List.drop (i*4+(List.drop (i+1) rows).flatten.length) rows.flatten).length=rows.length*4:=by
  rw [List.length_append,l3,List.length_drop,Ja h,l2]; omega
 rw [List.drop_eq_nil_of_le (i:=(rows.length-1)*4+z.length) (by rw [l4,hz]; omega),List.append_nil]
def zIns:List V:=[.int .i64 0, .int .u64 0, .nils, .nils]
theorem clear1 {S:Store} {m:Imm} {β:Objs} {w:World} (hS:Holds S m β w) {o b base s n:Nat} {c:Nat × List V} (ho:S.get o=some c) (hob:β o = .lies b base s n) (off cap:Nat) (hle:off+4≤c.2.length) :
  ∃ w',(∀ ty,(Builtin.clear_ #[57] ty #[.slice (some ⟨b,base+off,none⟩) 1 cap]).run Tryz.prog w = .ok (.tuple #[]) w')∧Holds (S.upd o (c.1,jB c.2 off zIns)) m β w'∧Ext m β w m β w':=by
 obtain ⟨i0,hi0,hz0,hz1,hz2⟩:=info_parts insInfo;obtain ⟨w',h1,h2,h3⟩:=hS.store (P:=Tryz.prog) ho hob off zIns [.int .i64 0, .int .u64 0, .slice none 0 0, .slice none 0 0]
  (.cons (.imm (.int _ _)) (.cons (.imm (.int _ _)) (.cons (.imm (.nils _)) (.cons (.imm (.nils _)) (.nil _ _))))) (by simp [Value.oneCell']) (by simpa [zIns] using hle)
 refine ⟨w',fun ty => ?_,h2,h3⟩;have hzv:(zeroValue 65).run Tryz.prog w = .ok (.agg #[.int .i64 0, .int .u64 0, .slice none 0 0, .slice none 0 0]) w:=by simp [zeroValue,typeInfo,hi0,hz0]
 have hzc:(Builtin.zeroCells (Value.agg #[.int .i64 0, .int .u64 0, .slice none 0 0, .slice none 0 0]).cells 1).toList=[.int .i64 0, .int .u64 0, .slice none 0 0, .slice none 0 0]:=by simp [Builtin.zeroCells,Value.cells,List.range_succ]
 simp [Builtin.clear_,run_underlying Tryz.underlying57,Result.andThen,hzv,hzc,h1]
theorem Holds.trim {S:Store} {m:Imm} {β:Objs} {w:World} (hS:Holds S m β w) {o s:Nat} {a z:List V} (hc:S.get o=some (s,a++z)) {b base s2 n2:Nat} (hob:β o = .lies b base s2 n2):Holds (S.upd o (s,a)) m β w:=by
 refine ⟨hS.imm,hS.apart,hS.inj,hS.fresh,fun o' ho' => ?_,fun o' ho' hn => ?_,fun o' c' hc' => ?_⟩
 ·have:=hS.lt hc;rw [qq];have:S.nx≤o':=ho';rw [if_neg (by omega)]; exact hS.gone o' ho'
 ·rw [qq] at hn
  by_cases e:o'=o
  ·rw [if_pos e] at hn; cases hn
  ·rw [if_neg e] at hn; exact hS.dead o' ho' hn
 ·rw [qq] at hc'
  by_cases e:o'=o
  ·rw [if_pos e] at hc'
   cases hc'
   subst e;have hl:=hS.live o' _ hc;rw [hob] at hl ⊢;obtain ⟨h1,arr,TT,h2,h3,h4,h5⟩:=hl;refine ⟨h1,arr,TT,h2,h3, ?_,fun i x hx => ?_⟩
   ·simp only [List.length_append] at h4; simp only; omega
   ·have hi:=(List.getElem?_eq_some_iff.1 hx).1;exact h5 i x (by simp only; rw [List.getElem?_append_left hi]; exact hx)
  ·rw [if_neg e] at hc';exact hS.live o' c' hc'
theorem InsDel_v {S:Store} {oc i:Nat} {rows:List (List V)} (hg:S.get oc=some (4,rows.flatten)) (h4 : ∀ r∈rows,r.length=4) (hi:i<rows.length) :
  VCalls Tryz.prog 33 [.slice oc 0 rows.length,vint i,vint (i+1)] S fun r T=>r = .slice oc 0 (rows.length-1)∧T=S.upd oc (4,(rows.eraseIdx i).flatten):=by
 intro m β w vs hS hr;obtain ⟨v0,v1,v2,rfl⟩ : ∃ v0 v1 v2,vs=[v0,v1,v2]:=by
  have:=hr.1
  match vs,this with
  | [a,b,c],_=>exact ⟨a,b,c,rfl⟩
 have r0:=hr.2 0 _ _ rfl rfl;have r1:=hr.2 1 _ _ rfl rfl;have r2:=hr.2 2 _ _ rfl rfl;have e1:v1 = .int .i64 i:=by cases r1 with | imm h=>cases h; rfl
 have e2:v2 = .int .i64 ((i:Int)+1):=by cases r2 with | imm h=>cases h; rfl
 subst e1 e2;obtain ⟨a,cap,rfl,hlc,hcm,hcase⟩:=r0.inv_slice (hS.alive hg);rcases hcase with ⟨_,h0,_⟩ | ⟨b,base,s,n,hob,hcase⟩
 ·omega
 rcases hcase with h0 | ⟨rfl,hroom⟩
 ·omega
 have hfl:=Ja h4;obtain ⟨hs4,arr,TT,ha1,ha2,ha3,ha4⟩:=hS.cells_at hg hob;simp only at hs4 ha3 ha4;subst hs4;obtain ⟨cells,hc1,hc2,hc3,hc4⟩:=Jq ha4 0 (rows.length*4) (by simp [hfl]);rw [List.drop_zero,List.take_of_length_le (by rw [hfl]; exact Nat.le_refl _)] at hc3;have hcell : ∀ t,t<cells.length→w.cell? ⟨b,base+0+t,none⟩=cells[t]? := fun t ht=>by
  have:=hc2 t cells[t] (List.getElem?_eq_getElem ht);simp [World.cell?,ha1,this,List.getElem?_eq_getElem ht];simpa using this
 have hfz : ∀ t,t<cells.length→w.frozen? ⟨b,base+0+t,none⟩=false:=fun t ht=>by simp [World.frozen?,ha1]
 have hdl:(rows.flatten.drop ((i+1)*4)).length=(rows.length-(i+1))*4:=by rw [List.length_drop,hfl]; omega
 have hrd:RepL m β (rows.flatten.drop ((i+1)*4)) (cells.drop ((i+1)*4)):=by
  refine ⟨by rw [List.length_drop,List.length_drop,hc3.1],fun k x v hx hv => ?_⟩;rw [List.getElem?_drop] at hx hv;exact hc3.2 _ x v hx hv
 obtain ⟨w1,hst,hS1,hE1⟩:=(hS.drew).store (P:=Tryz.prog) hg hob (i*4) (rows.flatten.drop ((i+1)*4)) (cells.drop ((i+1)*4)) hrd (fun v hv=>hc4 v (List.mem_of_mem_drop hv)) (by simp only; rw [hdl,hfl]; omega);have hw1:w1=w.drew.setCells b (base+0+i*4) (cells.drop ((i+1)*4)):=by
  have k:=run_storeCells_cells (P:=Tryz.prog) b (base+i*4) (cells.drop ((i+1)*4)) 0 w.drew
   (fun j hj=>by
    rw [List.length_drop] at hj;have:=hcell (i*4+j) (by omega);show (w.cell? _).isSome=true;rw [show base+i*4+0+j=base+0+(i*4+j) by omega,this,List.getElem?_eq_getElem (by omega)]; rfl)
   (fun j hj=>by
    rw [List.length_drop] at hj;have:=hfz (i*4+j) (by omega);show w.frozen? _=false;rw [show base+i*4+0+j=base+0+(i*4+j) by omega]; exact this)
   (fun v hv=>hc4 v (List.mem_of_mem_drop hv))
  rw [hst] at k;have:=congrArg (fun r=>match r with | .ok _ w=>some w | _=>none) k;simpa using this
 have hl1:(jB rows.flatten (i*4) (rows.flatten.drop ((i+1)*4))).length=rows.length*4:=by rw [Jj _ _ _ (by rw [hdl,hfl]; omega),hfl]
 obtain ⟨w2,hcl,hS2,hE2⟩:=clear1 hS1 (o:=oc) (c:=(4,jB rows.flatten (i*4) (rows.flatten.drop ((i+1)*4)))) (by simp [Store.upd]) hob ((rows.length-1)*4) (cap-(rows.length-1)) (by simp only; rw [hl1]; omega);have hn1:i+(rows.length-(i+1))=rows.length-1:=by omega
 have hd:=InsDel_calls b (base+0) rows.length cap i cells w (by rw [hc1]) hi hlc hcm hcell hfz hc4 w1 hw1 w2 (by
  intro ty;rw [hn1,show rows.length-(rows.length-1)=1 by omega];exact hcl ty)
 refine hd.mono ?_;rintro e w' ⟨rfl,rfl⟩;refine ⟨_, .slice oc 0 (rows.length-1),_,m,β,rfl,⟨rfl,rfl⟩, ?_, ?_, ?_⟩
 ·rw [hn1];exact .slice oc 0 _ b base 4 n cap _ hob (by omega) hcm (.inr ⟨rfl,hroom⟩)
 ·have e3:(S.upd oc (4,jB rows.flatten (i*4) (rows.flatten.drop ((i+1)*4)))).upd oc (4,jB (jB rows.flatten (i*4) (rows.flatten.drop ((i+1)*4))) ((rows.length-1)*4) zIns)=S.upd oc (4,(rows.eraseIdx i).flatten++zIns):=by
   rw [lflat_splice h4 hi rfl];refine Store.ext' (funext fun o2 => ?_) rfl;simp only [Store.upd];split<;>rfl
  rw [e3] at hS2;have h:=hS2.trim (o:=oc) (s:=4) (a:=(rows.eraseIdx i).flatten) (z:=zIns) (by simp [Store.upd]) hob;have e5:(S.upd oc (4,(rows.eraseIdx i).flatten++zIns)).upd oc (4,(rows.eraseIdx i).flatten)=S.upd oc (4,(rows.eraseIdx i).flatten):=by
   refine Store.ext' (funext fun o2 => ?_) rfl;simp only [Store.upd];split<;>rfl
  rw [←e5];exact h
 ·exact (Ext.drew m β w).trans (hE1.trans hE2)
end Go.Vw
