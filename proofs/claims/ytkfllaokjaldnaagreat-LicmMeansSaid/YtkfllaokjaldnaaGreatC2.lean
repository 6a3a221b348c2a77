import Derived.Test.YtkfllaokjaldnaaGreatC1
import Derived.MapKept
import Derived.ChangeKeysEq
import Derived.WideKeyRuns
import Derived.Laws.BytesString
import Derived.Lib.SlBytesRow
import Derived.Lib.BufferRead
/- Part of the proof. -/
set_option linter.unusedVariables false
set_option linter.unusedSimpArgs false
/-
 Maps whose keys are whole numbers, over values without addresses.
-/
namespace Go.Vw
open Go.RowKit
section
variable {P:Program} {N:Nat} {S:Store} {m:Imm} {β:Objs} {w:World} {σ:Fr} {a:Act}
theorem YO {d:IntKind} {kk:IntKind} {n:Int} : ∀ (cells:List V) (es:List MapEntry) (i:Nat) (r:Option (Nat × V)),cells.length=es.length ->
  (∀ (i:Nat) (x:V) (e:MapEntry),cells[i]? = some x->es[i]? = some e->EntryRep m β x e)->zo (.int kk n) cells i=some r ->
  (r=none/\Instr.findNow (.int d) (.int kk n) es i=some none) \/
   ∃ j x e,r=some (i+j,x)/\es[j]? = some e/\e.key = .int kk n/\Rep m β x e.val/\Instr.findNow (.int d) (.int kk n) es i=some (some (i+j,e.val))
 | [],es,i,r,hl,hr,h=>by
  cases es with
  | nil=>simp only [zo,ay] at h; exact .inl ⟨h.symm,rfl⟩
  | cons _ _=>simp at hl
 | c::cells,es,i,r,hl,hr,h=>by
  cases es with
  | nil=>simp at hl
  | cons e es =>
   obtain ⟨k,v,rfl,hk,hv⟩:=hr 0 c e rfl rfl;have ih:=YO (d:=d) (kk:=kk) (n:=n) cells es (i+1) r (by simpa using hl) (fun i x e h1 h2=>hr (i+1) x e (by simpa using h1) (by simpa using h2));simp only [zo] at h
   cases k with
   | int k' b =>
    have ek:e.key = .int k' b:=by generalize e.key=q at hk; cases hk; rfl
    simp only [zA] at h
    by_cases e1:kk=k'
    .subst e1;rw [if_pos rfl] at h
     by_cases e2:n=b
     .subst e2;simp only [beq_self_eq_true,ay] at h;exact .inr ⟨0,v,e,by rw [<-h]; rfl,rfl,ek,hv,by simp [Instr.findNow,ek,Instr.sameNow]⟩
     .have e3:(n==b)=false:=by simp [e2]
      simp only [e3] at h;rcases ih h with ⟨h1,h2⟩ | ⟨j,x,e',h1,h2,h3,h4,h5⟩
      .exact .inl ⟨h1,by simp [Instr.findNow,ek,Instr.sameNow,e3,h2]⟩
      .exact .inr ⟨j+1,x,e',by rw [h1]; simp; omega,by simpa using h2,h3,h4,by simp [Instr.findNow,ek,Instr.sameNow,e3,h5]; omega⟩
    .rw [if_neg e1] at h
     cases h
   | _=>simp [zA] at h
theorem Rep.inv_map {o:Nat} {v:Value} (h:Rep m β (.map o) v) (hd:β o ≠ .dead) : ∃ b,β o = .mp b/\v = .map (some b):=by
 cases h with
 | imm h=>cases h
 | mapDead _ _ h=>exact absurd h hd
 | map _ b h=>exact ⟨b,h,rfl⟩
theorem aeg {kt:TypeId} {d:IntKind} (hd:P.underlying kt=some (.int d)) (kk:IntKind) (n:Int) (e:Bool) (q:Nat):(Instr.checkKey e (q+1) kt (.int kk n)).run P w = .ok () w:=by
 unfold Instr.checkKey;simp only [Sem.run_bind,run_underlying hd,Result.andThen]
 rfl
theorem Holds.addMap (h:Holds S m β w):Holds (S.add (0,[])) m (β.set S.nx (.mp w.heap.size)) (w.alloc (.map #[] 0)) /\
  Ext m β w m (β.set S.nx (.mp w.heap.size)) (w.alloc (.map #[] 0))/\(β.set S.nx (.mp w.heap.size)) S.nx = .mp w.heap.size:=by
 have hst:Step β (β.set S.nx (.mp w.heap.size)):=Step.fresh h.nx_fresh _;have hold : ∀ k,k<w.heap.size->(w.alloc (.map #[] 0)).heap[k]? = w.heap[k]? := fun k hk=>_root_.Go.heap_alloc_old w _ hk
 refine ⟨h.new (by intro h; cases h) (fun b o hb=>hold b (h.imm_lt hb)) (fun o b hb=>hold b (h.block_lt hb)) ?_ ?_,⟨fun _ _ h=>h,hst,by simp, ?_,rfl,rfl,rfl⟩,Objs.set_same _ _ _⟩
 .intro b hb
  cases hb
  refine ⟨?_,fun o ho => ?_⟩
  .cases hm:m w.heap.size with
   | none=>rfl
   | some o=>exact absurd (h.imm_lt hm) (Nat.lt_irrefl _)
  .exact absurd (h.block_lt ho) (Nat.lt_irrefl _)
 .exact ⟨#[],0,heap_alloc_new w _,rfl,by simp⟩
 .intro b hb hm hn;refine ⟨hold b hb,hm,fun o ho => ?_⟩
  by_cases e:o=S.nx
  .subst e; rw [Objs.set_same] at ho; simp only [Loc.block?,ay] at ho; omega
  .rw [Objs.set_other _ _ e] at ho; exact hn o ho
theorem afs {o:Oper} {t:TypeId} (ho:o.op = .makeMap t none) (hS:Holds S m β w):Does P ((execOp a.eval o).run P w) (.map S.nx) (S.add (0,[])) m β w:=by
 obtain ⟨h1,h2,h3⟩:=hS.addMap;refine ⟨.map (some w.heap.size),_,m,_, .inl ?_,Rep.map (m:=m) S.nx w.heap.size h3,h1,h2⟩;simp [execOp,ho,Instr.makeMap]
theorem jbD {t:TypeId} {z:V} (h:Program.zero1 P t=some z) : ∃ zv,(zeroValue t).run P w = .ok zv w/\RepI m z zv:=by
 unfold Program.zero1 at h;split at h
 .rename_i i hi;split at h
  .rename_i zv hz;exact ⟨zv,by simp [zeroValue,typeInfo,hi,hz],jce h⟩
  .cases h
 .cases h
theorem aii {o:Oper} {t kt e:TypeId} {d:IntKind} {z:V} {ok:Bool} {y i:Operand} {yz iz:Arg} {x:V} (ho:o.op = .lookup t y i ok) (ht:P.underlying t=some (.map kt e)) (hd:P.underlying kt=some (.int d))
  (hz:Program.zero1 P e=some z) (hy:jt y=some yz) (hi:jt i=some iz) (hS:Holds S m β w) (hF:FrameRep N m β σ a) (he:qX z ok S (ev σ yz) (ev σ iz)=some x) :
  Does P ((execOp a.eval o).run P w) x S m β w:=by
 have hry:=jG hF hy;have hri:=jG hF hi;generalize ev σ yz=p at he hry;generalize ev σ iz=q at he hri
 cases p with
 | map ob =>
  cases q with
  | int kk n =>
   have ei:=hri.inv_int;simp only [qX] at he
   cases hc:S.get ob with
   | none=>simp [hc] at he
   | some c =>
    simp only [hc] at he;obtain ⟨b,hob,ey⟩:=hry.inv_map (hS.alive hc);have hl:=hS.live ob c hc;rw [hob] at hl;obtain ⟨es,clock,h1,h2,h3⟩:=hl;obtain ⟨zv,hzr,hzv⟩:=jbD (P:=P) (m:=m) (w:=w) hz;have hg:=MapKept.run_getObj_map (P:=P) h1;have hck:=aeg (w:=w) hd kk n es.isEmpty 9999
    cases hlk:zo (.int kk n) c.2 0 with
    | none=>simp [hlk] at he
    | some r =>
     have hf:=YO (d:=d) c.2 es.toList 0 r (by simpa using h2) (fun i x e q1 q2=>h3 i x e q1 (by simpa using q2)) hlk;rw [hlk] at he;rcases hf with ⟨rfl,hfn⟩ | ⟨j,v,e',rfl,g1,g2,g3,hfn⟩
     .have hfk:=MapKept.run_findKey (P:=P) (w:=w) hd hfn;simp only [ay] at he;subst he
      cases ok with
      | false=>exact Does.same (v:=zv) hS (by simp [execOp,ho,ey,ei,Instr.lookup,run_underlying ht,Result.andThen,hg,hck,hfk,hzr]) (.imm hzv)
      | true =>
       refine Does.same (v := .tuple #[zv, .bool false]) hS (by simp [execOp,ho,ey,ei,Instr.lookup,run_underlying ht,Result.andThen,hg,hck,hfk,hzr]) ?_;exact Rep.tuple [z, .bool false] [zv, .bool false] rfl fun i x v h1 h2=>by
        match i,h1,h2 with
        | 0,h1,h2=>cases h1; cases h2; exact .imm hzv
        | 1,h1,h2=>cases h1; cases h2; exact .imm (.bool _)
     .have hfk:=MapKept.run_findKey (P:=P) (w:=w) hd hfn;simp only [ay] at he;subst he
      cases ok with
      | false=>exact Does.same (v:=e'.val) hS (by simp [execOp,ho,ey,ei,Instr.lookup,run_underlying ht,Result.andThen,hg,hck,hfk]) g3
      | true =>
       refine Does.same (v := .tuple #[e'.val, .bool true]) hS (by simp [execOp,ho,ey,ei,Instr.lookup,run_underlying ht,Result.andThen,hg,hck,hfk]) ?_;exact Rep.tuple [v, .bool true] [e'.val, .bool true] rfl fun i x v h1 h2=>by
        match i,h1,h2 with
        | 0,h1,h2=>cases h1; cases h2; exact g3
        | 1,h1,h2=>cases h1; cases h2; exact .imm (.bool _)
  | _=>simp [qX] at he
 | _=>simp [qX] at he
theorem Holds.setMap (h:Holds S m β w) {o b:Nat} {c:Nat × List V} (ho:S.get o=some c) (hob:β o = .mp b) {es0:Array MapEntry} {clock0:Nat} (h0:w.heap[b]? = some (.map es0 clock0)) (es:Array MapEntry) (clock:Nat) (cells':List V) (hl:cells'.length=es.size)
  (hr : ∀ (i:Nat) (x:V) (e:MapEntry),cells'[i]? = some x->es[i]? = some e->EntryRep m β x e) :
  Holds (S.upd o (c.1,cells')) m β { w with heap:=w.heap.setIfInBounds b (.map es clock) }/\Ext m β w m β { w with heap:=w.heap.setIfInBounds b (.map es clock) }:=by
 have hbl:(β o).block? = some b:=by rw [hob]; rfl
 obtain ⟨k1,k2⟩:=MapKept.heap_set (o' := .map es clock) h0;refine ⟨h.write ho hbl (fun k hk=>k2 k hk) ?_,⟨fun _ _ h=>h,Step.refl β,by simp,fun k hk hm hnn=>⟨k2 k (fun e=>hnn o (by rw [hbl,e])),hm,hnn⟩,rfl,rfl,rfl⟩⟩;rw [hob];exact ⟨es,clock,k1,hl,hr⟩
theorem Wg {o:Oper} {t kt e:TypeId} {d:IntKind} {y i u:Operand} {yz iz uz:Arg} {S':Store} (ho:o.op = .mapUpdate t y i u) (ht:P.underlying t=some (.map kt e)) (hd:P.underlying kt=some (.int d))
  (hy:jt y=some yz) (hi:jt i=some iz) (hu:jt u=some uz) (hS:Holds S m β w) (hF:FrameRep N m β σ a) (he:qq S (ev σ yz) (ev σ iz) (ev σ uz)=some S') :
  Does P ((execOp a.eval o).run P w) (.tuple []) S' m β w:=by
 have hry:=jG hF hy;have hri:=jG hF hi;have hru:=jG hF hu;generalize ev σ yz=p at he hry;generalize ev σ iz=q at he hri;generalize ev σ uz=v at he hru
 cases p with
 | map ob =>
  cases q with
  | int kk n =>
   have ei:=hri.inv_int;simp only [qq] at he
   cases hc:S.get ob with
   | none=>simp [hc] at he
   | some c =>
    simp only [hc] at he;obtain ⟨b,hob,ey⟩:=hry.inv_map (hS.alive hc);have hl:=hS.live ob c hc;rw [hob] at hl;obtain ⟨es,clock,h1,h2,h3⟩:=hl;have hg:=MapKept.run_getObj_map (P:=P) h1;have hck:=aeg (w:=w) hd kk n false 9999;have hent : ∀ x,x=a.eval u->EntryRep m β (.tuple [.int kk n,v]) { key := .int kk n,val:=x,born:=clock }:=fun x hx=>⟨_,_,rfl, .int _ _,by rw [hx]; exact hru⟩
    cases hlk:zo (.int kk n) c.2 0 with
    | none=>simp [hlk] at he
    | some r =>
     have hf:=YO (d:=d) c.2 es.toList 0 r (by simpa using h2) (fun i x e q1 q2=>h3 i x e q1 (by simpa using q2)) hlk;rw [hlk] at he;rcases hf with ⟨rfl,hfn⟩ | ⟨j,v',e',rfl,g1,g2,g3,hfn⟩
     .have hfk:=MapKept.run_findKey (P:=P) (w:=w) hd hfn;simp only [ay] at he;subst he;obtain ⟨k1,k2⟩:=hS.setMap hc hob h1 (es.push { key := .int kk n,val:=a.eval u,born:=clock }) (clock+1) (c.2++[.tuple [.int kk n,v]]) (by simp [h2]) (fun i x e q1 q2=>by
       by_cases hie:i<c.2.length
       .rw [aT hie] at q1;rw [Array.getElem?_push,if_neg (by omega)] at q2;exact h3 i x e q1 q2
       .rw [bf (by omega)] at q1;have hi0:i-c.2.length=0:=by
         rcases Nat.eq_zero_or_pos (i-c.2.length) with h | h
         .exact h
         .rw [aJ (by simp; omega)] at q1; cases q1
        rw [hi0] at q1
        cases q1
        rw [Array.getElem?_push,if_pos (by omega)] at q2
        cases q2
        exact hent _ rfl)
      refine ⟨undef,_,m,β, .inr ⟨?_,rfl⟩,zy m β,k1,k2⟩;simp [execOp,ho,ey,ei,Instr.mapUpdate,run_underlying ht,Result.andThen,hg,hck,hfk,MapKept.run_setObj_map _ h1]
     .have hfk:=MapKept.run_findKey (P:=P) (w:=w) hd hfn;simp only [ay] at he;subst he;simp only [a8] at hfk;have g1':es[j]? = some e':=by simpa using g1
      obtain ⟨k1,k2⟩:=hS.setMap hc hob h1 (es.modify j fun e=>{ e with key := .int kk n,val:=a.eval u }) clock (c.2.set (0+j) (.tuple [.int kk n,v])) (by simp [h2]) (fun i x e q1 q2=>by
       rw [a8] at q1
       by_cases hij:j=i
       .subst hij;have hjl:j<c.2.length:=by rw [h2]; exact (Array.getElem?_eq_some_iff.1 g1').1
        rw [aX hjl] at q1
        cases q1
        rw [Array.getElem?_modify,if_pos rfl,g1'] at q2
        cases q2
        exact ⟨_,_,rfl, .int _ _,hru⟩
       .rw [aQ hij] at q1;rw [Array.getElem?_modify,if_neg hij] at q2;exact h3 i x e q1 q2)
      refine ⟨undef,_,m,β, .inr ⟨?_,rfl⟩,zy m β,k1,k2⟩;simp [execOp,ho,ey,ei,Instr.mapUpdate,run_underlying ht,Result.andThen,hg,hck,hfk,g1',g2,Instr.keyThatStays,Instr.sameBits,MapKept.run_setObj_map _ h1]
  | _=>simp [qq] at he
 | _=>simp [qq] at he
theorem ai4 {o:Oper} {t kt e:TypeId} {d:IntKind} {y i u:Operand} {yz iz uz:Arg} {S':Store} (ho:o.op = .insert t y i u) (ht:P.underlying t=some (.map kt e)) (hd:P.underlying kt=some (.int d))
  (hy:jt y=some yz) (hi:jt i=some iz) (hu:jt u=some uz) (hS:Holds S m β w) (hF:FrameRep N m β σ a) (he:qq S (ev σ yz) (ev σ iz) (ev σ uz)=some S') :
  Does P ((execOp a.eval o).run P w) (.tuple []) S' m β w:=by
 have h:=Wg (o:={ o with op := .mapUpdate t y i u }) (P:=P) (N:=N) rfl ht hd hy hi hu hS hF he;have e:execOp a.eval o=execOp a.eval { o with op := .mapUpdate t y i u }:=by simp [execOp,ho]
 rw [e]; exact h
end
/-! ### Keys of two numbers -/
theorem jaT {P:Program} {t:TypeId} (h:Program.isInt P t=true):(∃ k,P.underlying t=some (.int k))/\P.plainKey t=true:=by
 unfold Program.isInt at h;split at h
 .rename_i k hk; exact ⟨⟨k,hk⟩,by simp [Program.plainKey,hk]⟩
 .cases h
theorem Kv {P : Program} {kt : TypeId} (h : Program.pairKey P kt = true) : ∃ f g, P.underlying kt = some (.struct #[f, g]) ∧ P.stoodInHeld kt = false ∧ f.name ≠ "_" ∧ g.name ≠ "_" ∧ f.offset = 0 ∧ g.offset = 1 ∧ (∃ k, P.underlying f.type = some (.int k)) ∧ P.plainKey f.type = true ∧ (∃ k, P.underlying g.type = some (.int k)) ∧ P.plainKey g.type = true := by
 unfold Program.pairKey at h;split at h
 .rename_i fs hfs;simp only [af,Bool.not_eq_true'] at h;obtain ⟨h1,h2⟩:=h;split at h2
  .rename_i f g hl;simp only [af,bne_iff_ne,ne_eq,beq_iff_eq] at h2;obtain ⟨⟨⟨⟨⟨n1,n2⟩,o1⟩,o2⟩,t1⟩,t2⟩:=h2;obtain ⟨a1,a2⟩:=jaT t1;obtain ⟨b1,b2⟩:=jaT t2;have:fs = #[f,g]:=by rw [<-Array.toArray_toList (xs:=fs),hl]
   subst this;exact ⟨f,g,hfs,h1,n1,n2,o1,o2,a1,a2,b1,b2⟩
  .cases h2
 .cases h
section
variable {P:Program} {w:World}
theorem jch {kt:TypeId} (h:Program.pairKey P kt=true) (a b:Int) (e:Bool):(Instr.checkKey e 10000 kt (.agg #[.int .i64 a, .int .i64 b])).run P w = .ok () w:=by
 obtain ⟨f,g,hu,hs,n1,n2,o1,o2,⟨k1,u1⟩,p1,⟨k2,u2⟩,p2⟩:=Kv h;have q1:(part f.type #[.int .i64 a, .int .i64 b] f.offset).run P w = .ok (.int .i64 a) w:=run_part_plain w p1 (by rw [o1]; rfl);have q2:(part g.type #[.int .i64 a, .int .i64 b] g.offset).run P w = .ok (.int .i64 b) w:=run_part_plain w p2 (by rw [o2]; rfl);have c : ∀ (t:TypeId) (k:IntKind) (x:Int) n,P.underlying t=some (.int k)->(Instr.checkKey e (n+1) t (.int .i64 x)).run P w = .ok () w:=by
  intro t k x n hu;unfold Instr.checkKey;simp only [Sem.run_bind,run_underlying hu,Result.andThen]
  rfl
 have c1:=c f.type k1 a 9998 u1;have c2:=c g.type k2 b 9998 u2;rw [show (10000:Nat)=9999+1 from rfl,Instr.checkKey];simp only [Sem.run_bind,run_underlying hu,Result.andThen_ok];rw [<-Array.forIn_toList];simp only [List.forIn_cons,List.forIn_nil,Sem.run_bind,n1,n2,ne_eq,not_false_eq_true,if_true,Result.andThen_ok,q1,q2,c1,c2,Sem.run_pure]
theorem al1 {kt:TypeId} (h:Program.pairKey P kt=true) (a b a' b':Int):(Op.equal kt (.agg #[.int .i64 a, .int .i64 b]) (.agg #[.int .i64 a', .int .i64 b'])).run P w = .ok (a==a'&&b==b') w:=by
 obtain ⟨f,g,hu,hs,n1,n2,o1,o2,⟨k1,u1⟩,p1,⟨k2,u2⟩,p2⟩:=Kv h;have q1 : ∀ a b,(part f.type #[.int .i64 a, .int .i64 b] f.offset).run P w = .ok (.int .i64 a) w:=fun a b=>run_part_plain w p1 (by rw [o1]; rfl)
 have q2 : ∀ a b,(part g.type #[.int .i64 a, .int .i64 b] g.offset).run P w = .ok (.int .i64 b) w:=fun a b=>run_part_plain w p2 (by rw [o2]; rfl)
 have c : ∀ (t:TypeId) (k:IntKind) (x y:Int) n,P.underlying t=some (.int k)->(Op.equalIn (n+1) t (.int .i64 x) (.int .i64 y)).run P w = .ok (x==y) w:=by
  intro t k x y n hu;unfold Op.equalIn;simp only [Sem.run_bind,run_underlying hu,Result.andThen];simp
 have c1:=fun x y=>c f.type k1 x y 9998 u1
 have c2:=fun x y=>c g.type k2 x y 9998 u2
 show (Op.equalIn (9999+1) kt _ _).run P w=_;unfold Op.equalIn;simp only [Sem.run_bind,run_underlying hu,Result.andThen_ok,run_program,hs];rw [<-Array.forIn_toList]
 by_cases e1:a=a'<;>by_cases e2:b=b' <;>
 simp [List.forIn_cons,List.forIn_nil,Sem.run_bind,n1,n2,Result.andThen,q1,q2,c1,c2,Sem.run_pure,e1,e2]
theorem Jy {kt:TypeId} (h:Program.pairKey P kt=true) (x:Value) (es:List MapEntry):(Instr.findKey kt x es).run P w=(Instr.findAsking kt x es).run P w:=by
 obtain ⟨f,g,hu,_⟩:=Kv h;exact run_findKey_eq w (by simp [hu]) x es
end
section
variable {P:Program} {N:Nat} {S:Store} {m:Imm} {β:Objs} {w:World} {σ:Fr} {a:Act}
theorem ae8 {x y:Int} {v:Value} (h:RepI m (.agg [.int .i64 x, .int .i64 y]) v):v = .agg #[.int .i64 x, .int .i64 y]:=by
 cases h with
 | agg xs vs hl hr h1 =>
  match vs,hl with
  | [u,z],_ =>
   have h2:=hr 0 _ _ rfl rfl;have h3:=hr 1 _ _ rfl rfl
   cases h2; cases h3; rfl
theorem Rep.inv_pair {x y:Int} {v:Value} (h:Rep m β (.agg [.int .i64 x, .int .i64 y]) v):v = .agg #[.int .i64 x, .int .i64 y]:=by
 cases h with
 | imm h=>exact ae8 h
 | agg xs vs hl hr h1 =>
  match vs,hl with
  | [u,z],_ =>
   have h2:=(hr 0 _ _ rfl rfl).inv_int;have h3:=(hr 1 _ _ rfl rfl).inv_int;subst h2; subst h3; rfl
theorem YM {kt:TypeId} (hp:Program.pairKey P kt=true) {n q:Int} : ∀ (cells:List V) (es:List MapEntry) (i:Nat) (r:Option (Nat × V)),cells.length=es.length ->
  (∀ (i:Nat) (x:V) (e:MapEntry),cells[i]? = some x->es[i]? = some e->EntryRep m β x e)->zo (.agg [.int .i64 n, .int .i64 q]) cells i=some r ->
  (r=none/\(Instr.findAsking kt (.agg #[.int .i64 n, .int .i64 q]) es i).run P w = .ok none w) \/
   ∃ j x e,r=some (i+j,x)/\es[j]? = some e/\e.key = .agg #[.int .i64 n, .int .i64 q]/\Rep m β x e.val/\(Instr.findAsking kt (.agg #[.int .i64 n, .int .i64 q]) es i).run P w = .ok (some (i+j,e.val)) w
 | [],es,i,r,hl,hr,h=>by
  cases es with
  | nil=>simp only [zo,ay] at h; exact .inl ⟨h.symm,by simp [Instr.findAsking]⟩
  | cons _ _=>simp at hl
 | c::cells,es,i,r,hl,hr,h=>by
  cases es with
  | nil=>simp at hl
  | cons e es =>
   obtain ⟨k,v,rfl,hk,hv⟩:=hr 0 c e rfl rfl;have ih:=YM hp (n:=n) (q:=q) cells es (i+1) r (by simpa using hl) (fun i x e h1 h2=>hr (i+1) x e (by simpa using h1) (by simpa using h2));simp only [zo] at h
   cases hks:zA (.agg [.int .i64 n, .int .i64 q]) k with
   | none=>rw [hks] at h; cases h
   | some bb =>
    rw [hks] at h;unfold zA at hks;split at hks
    .rename V.agg _=V.int _ _=>e1
     cases e1
    .rename_i a1 b1 a2 b2 e1
     cases e1
     have ek:=ae8 hk;have heq:=al1 (w:=w) hp n q a2 b2;simp only [ay] at hks;rw [hks] at heq
     cases bb with
     | true =>
      simp only [ay] at h;simp only [af,beq_iff_eq] at hks;obtain ⟨rfl,rfl⟩:=hks;exact .inr ⟨0,v,e,by rw [<-h]; rfl,rfl,ek,hv,by simp [Instr.findAsking,ek,heq]⟩
     | false =>
      simp only at h;rcases ih h with ⟨h1,h2⟩ | ⟨j,x,e',h1,h2,h3,h4,h5⟩
      .exact .inl ⟨h1,by simp [Instr.findAsking,ek,heq,h2]⟩
      .exact .inr ⟨j+1,x,e',by rw [h1]; simp; omega,by simpa using h2,h3,h4,by simp [Instr.findAsking,ek,heq,h5]; omega⟩
    .cases hks
theorem afp {o:Oper} {t kt e:TypeId} {z:V} {ok:Bool} {y i:Operand} {yz iz:Arg} {x:V} (ho:o.op = .lookup t y i ok) (ht:P.underlying t=some (.map kt e)) {g:Bool} (hpk:g=Ku (P:=P) (kt:=kt) 0)
  (hz:Program.zero1 P e=some z) (hy:jt y=some yz) (hi:jt i=some iz) (hS:Holds S m β w) (hF:FrameRep N m β σ a) (he:Jr g z ok S (ev σ yz) (ev σ iz)=some x) :
  Does P ((execOp a.eval o).run P w) x S m β w:=by
 have hry:=jG hF hy;have hri:=jG hF hi;generalize ev σ yz=p at he hry;generalize ev σ iz=q at he hri;unfold Jr at he;split at he
 .rename_i ob n1 n2;split at he
  case isFalse=>cases he
  rename_i hg;have hd:Program.pairKey P kt=true:=by rw [<-jbW, <-hpk]; exact hg
  have ei:=hri.inv_pair
  cases hc:S.get ob with
  | none=>simp [hc] at he
  | some c =>
   simp only [hc] at he;obtain ⟨b,hob,ey⟩:=hry.inv_map (hS.alive hc);have hl:=hS.live ob c hc;rw [hob] at hl;obtain ⟨es,clock,h1,h2,h3⟩:=hl;obtain ⟨zv,hzr,hzv⟩:=jbD (P:=P) (m:=m) (w:=w) hz;have hg:=MapKept.run_getObj_map (P:=P) h1;have hck:=jch (w:=w) hd n1 n2 es.isEmpty
   cases hlk:zo (.agg [.int .i64 n1, .int .i64 n2]) c.2 0 with
   | none=>simp [hlk] at he
   | some r =>
    have hf:=YM (w:=w) hd c.2 es.toList 0 r (by simpa using h2) (fun i x e q1 q2=>h3 i x e q1 (by simpa using q2)) hlk;rw [hlk] at he;rcases hf with ⟨rfl,hfn⟩ | ⟨j,v,e',rfl,g1,g2,g3,hfn⟩
    .have hfk:=(Jy (w:=w) hd _ _).trans hfn;simp only [ay] at he;subst he
     cases ok with
     | false=>exact Does.same (v:=zv) hS (by simp [execOp,ho,ey,ei,Instr.lookup,run_underlying ht,Result.andThen,hg,hck,hfk,hzr]) (.imm hzv)
     | true =>
      refine Does.same (v := .tuple #[zv, .bool false]) hS (by simp [execOp,ho,ey,ei,Instr.lookup,run_underlying ht,Result.andThen,hg,hck,hfk,hzr]) ?_;exact Rep.tuple [z, .bool false] [zv, .bool false] rfl fun i x v h1 h2=>by
       match i,h1,h2 with
       | 0,h1,h2=>cases h1; cases h2; exact .imm hzv
       | 1,h1,h2=>cases h1; cases h2; exact .imm (.bool _)
    .have hfk:=(Jy (w:=w) hd _ _).trans hfn;simp only [ay] at he;subst he
     cases ok with
     | false=>exact Does.same (v:=e'.val) hS (by simp [execOp,ho,ey,ei,Instr.lookup,run_underlying ht,Result.andThen,hg,hck,hfk]) g3
     | true =>
      refine Does.same (v := .tuple #[e'.val, .bool true]) hS (by simp [execOp,ho,ey,ei,Instr.lookup,run_underlying ht,Result.andThen,hg,hck,hfk]) ?_;exact Rep.tuple [v, .bool true] [e'.val, .bool true] rfl fun i x v h1 h2=>by
       match i,h1,h2 with
       | 0,h1,h2=>cases h1; cases h2; exact g3
       | 1,h1,h2=>cases h1; cases h2; exact .imm (.bool _)
 .cases he
theorem aec (m:Imm) (n1 n2:Int):RepI m (.agg [.int .i64 n1, .int .i64 n2]) (.agg #[.int .i64 n1, .int .i64 n2]) :=
 .agg [.int .i64 n1, .int .i64 n2] [.int .i64 n1, .int .i64 n2] rfl (fun i x v h1 h2=>by
  match i,h1,h2 with
  | 0,h1,h2=>cases h1; cases h2; exact .int _ _
  | 1,h1,h2=>cases h1; cases h2; exact .int _ _) (by intro v hv; simp at hv; rcases hv with rfl | rfl<;>rfl)
theorem KF {o:Oper} {t kt e:TypeId} {y i u:Operand} {yz iz uz:Arg} {S':Store} (ho:o.op = .mapUpdate t y i u) (ht:P.underlying t=some (.map kt e)) {g:Bool} (hpk:g=Ku (P:=P) (kt:=kt) 0)
  (hy:jt y=some yz) (hi:jt i=some iz) (hu:jt u=some uz) (hS:Holds S m β w) (hF:FrameRep N m β σ a) (he:zV g S (ev σ yz) (ev σ iz) (ev σ uz)=some S') :
  Does P ((execOp a.eval o).run P w) (.tuple []) S' m β w:=by
 have hry:=jG hF hy;have hri:=jG hF hi;have hru:=jG hF hu;generalize ev σ yz=p at he hry;generalize ev σ iz=q at he hri;generalize ev σ uz=v at he hru;unfold zV at he;split at he
 .rename_i ob n1 n2;split at he
  case isFalse=>cases he
  rename_i hg;have hd:Program.pairKey P kt=true:=by rw [<-jbW, <-hpk]; exact hg
  have ei:=hri.inv_pair
  cases hc:S.get ob with
  | none=>simp [hc] at he
  | some c =>
   simp only [hc] at he;obtain ⟨b,hob,ey⟩:=hry.inv_map (hS.alive hc);have hl:=hS.live ob c hc;rw [hob] at hl;obtain ⟨es,clock,h1,h2,h3⟩:=hl;have hg:=MapKept.run_getObj_map (P:=P) h1;have hck:=jch (w:=w) hd n1 n2 false;have hent : ∀ x,x=a.eval u->EntryRep m β (.tuple [.agg [.int .i64 n1, .int .i64 n2],v]) { key := .agg #[.int .i64 n1, .int .i64 n2],val:=x,born:=clock }:=fun x hx=>⟨_,_,rfl,aec _ _ _,by rw [hx]; exact hru⟩
   cases hlk:zo (.agg [.int .i64 n1, .int .i64 n2]) c.2 0 with
   | none=>simp [hlk] at he
   | some r =>
    have hf:=YM (w:=w) hd c.2 es.toList 0 r (by simpa using h2) (fun i x e q1 q2=>h3 i x e q1 (by simpa using q2)) hlk;rw [hlk] at he;rcases hf with ⟨rfl,hfn⟩ | ⟨j,v',e',rfl,g1,g2,g3,hfn⟩
    .have hfk:=(Jy (w:=w) hd _ _).trans hfn;simp only [ay] at he;subst he;obtain ⟨k1,k2⟩:=hS.setMap hc hob h1 (es.push { key := .agg #[.int .i64 n1, .int .i64 n2],val:=a.eval u,born:=clock }) (clock+1) (c.2++[.tuple [.agg [.int .i64 n1, .int .i64 n2],v]]) (by simp [h2]) (fun i x e q1 q2=>by
      by_cases hie:i<c.2.length
      .rw [aT hie] at q1;rw [Array.getElem?_push,if_neg (by omega)] at q2;exact h3 i x e q1 q2
      .rw [bf (by omega)] at q1;have hi0:i-c.2.length=0:=by
        rcases Nat.eq_zero_or_pos (i-c.2.length) with h | h
        .exact h
        .rw [aJ (by simp; omega)] at q1; cases q1
       rw [hi0] at q1
       cases q1
       rw [Array.getElem?_push,if_pos (by omega)] at q2
       cases q2
       exact hent _ rfl)
     refine ⟨undef,_,m,β, .inr ⟨?_,rfl⟩,zy m β,k1,k2⟩;simp [execOp,ho,ey,ei,Instr.mapUpdate,run_underlying ht,Result.andThen,hg,hck,hfk,MapKept.run_setObj_map _ h1]
    .have hfk:=(Jy (w:=w) hd _ _).trans hfn;simp only [ay] at he;subst he;simp only [a8] at hfk;have g1':es[j]? = some e':=by simpa using g1
     obtain ⟨k1,k2⟩:=hS.setMap hc hob h1 (es.modify j fun e=>{ e with key := .agg #[.int .i64 n1, .int .i64 n2],val:=a.eval u }) clock (c.2.set (0+j) (.tuple [.agg [.int .i64 n1, .int .i64 n2],v])) (by simp [h2]) (fun i x e q1 q2=>by
      rw [a8] at q1
      by_cases hij:j=i
      .subst hij;have hjl:j<c.2.length:=by rw [h2]; exact (Array.getElem?_eq_some_iff.1 g1').1
       rw [aX hjl] at q1
       cases q1
       rw [Array.getElem?_modify,if_pos rfl,g1'] at q2
       cases q2
       exact ⟨_,_,rfl,aec _ _ _,hru⟩
      .rw [aQ hij] at q1;rw [Array.getElem?_modify,if_neg hij] at q2;exact h3 i x e q1 q2)
     refine ⟨undef,_,m,β, .inr ⟨?_,rfl⟩,zy m β,k1,k2⟩;simp [execOp,ho,ey,ei,Instr.mapUpdate,run_underlying ht,Result.andThen,hg,hck,hfk,g1',g2,Instr.keyThatStays,Instr.sameBits,MapKept.run_setObj_map _ h1]
 .cases he
theorem aem {o:Oper} {t kt e:TypeId} {y i u:Operand} {yz iz uz:Arg} {S':Store} (ho:o.op = .insert t y i u) (ht:P.underlying t=some (.map kt e)) {g:Bool} (hpk:g=Ku (P:=P) (kt:=kt) 0)
  (hy:jt y=some yz) (hi:jt i=some iz) (hu:jt u=some uz) (hS:Holds S m β w) (hF:FrameRep N m β σ a) (he:zV g S (ev σ yz) (ev σ iz) (ev σ uz)=some S') :
  Does P ((execOp a.eval o).run P w) (.tuple []) S' m β w:=by
 have h:=KF (o:={ o with op := .mapUpdate t y i u }) (P:=P) (N:=N) rfl ht hpk hy hi hu hS hF he;have e:execOp a.eval o=execOp a.eval { o with op := .mapUpdate t y i u }:=by simp [execOp,ho]
 rw [e]; exact h
theorem alf {o:Oper} {t e:TypeId} {i:TypeInfo} {zs:List V} {y:Operand} {yz:Arg} {S':Store} (ho:o.op = .call { callee := .builtin .clear,args := #[y],argTypes := #[t] })
  (hs:Program.slc P t=some (e,i)) (hz:Program.zeroV P e=some zs) (hy:jt y=some yz) (hS:Holds S m β w) (hF:FrameRep N m β σ a)
  (he:YI i.size zs S (ev σ yz)=some S'):Does P ((execOp a.eval o).run P w) (.tuple []) S' m β w:=by
 obtain ⟨hut,hi⟩:=Jv hs;obtain ⟨i',z,hi',hz',hzs,hzl,hzr⟩:=zG (m:=m) hz;rw [hi] at hi'; cases hi';have hry:=jG hF hy;generalize ev σ yz=p at he hry;have hzv:(zeroValue e).run P w = .ok z w:=by simp [zeroValue,typeInfo,hi,hz']
 have zero : ∀ ad dc,a.eval y = .slice ad 0 dc->Does P ((execOp a.eval o).run P w) (.tuple []) S m β w:=by
  intro ad dc h1;refine Does.same (v := .tuple #[]) hS ?_ (.tuple [] [] rfl (by simp))
  cases ad<;>simp [execOp,ho,resolve,invoke,builtin,Builtin.clear_,h1,run_underlying hut,Result.andThen]
 cases p with
 | nils =>
  simp only [YI] at he
  cases he
  obtain ⟨ad,e1⟩:=hry.inv_nils;exact zero ad 0 e1
 | slice o' off len =>
  simp only [YI] at he
  cases hc:S.get o' with
  | none=>simp [hc] at he
  | some c =>
   simp only [hc] at he;split at he
   .rename_i hle
    cases he
    obtain ⟨ad,cap,e1,hlc,hcm,hcase⟩:=hry.inv_slice (hS.alive hc);have triv:len=0->Does P ((execOp a.eval o).run P w) (.tuple []) (S.upd o' (c.1,qg c.2 off (rep0 zs len))) m β w:=by
     intro h0;subst h0;have e3:S.upd o' (c.1,qg c.2 off (rep0 zs 0))=S:=by
      have e4:rep0 zs 0=[]:=aO (by rw [za,Nat.zero_mul]);refine Store.ext' (funext fun o2 => ?_) rfl;simp only [Store.upd,qg,e4,List.append_nil,aM,Nat.add_zero,List.take_append_drop];split
      .rename_i e4; subst e4; rw [hc]
      .rfl
     rw [e3];exact zero ad cap e1
    rcases hcase with ⟨hv,h1,h2⟩ | ⟨b,base,s,n,hob,hcase⟩
    .exact triv h1
    .rcases hcase with hcap | ⟨had,hroom⟩
     .exact triv (by omega)
     .subst had
      by_cases hl0:len=0
      .exact triv hl0
      have hzlen:(Builtin.zeroCells z.cells len).toList.length=len*i.size:=by rw [Array.length_toList,size_zeroCells,hzs]
      have hrl:(rep0 zs len).length=len*i.size:=by rw [za,hzl]
      have hpt : ∀ (q:Nat) (x:V) (v:Value),(rep0 zs len)[q]? = some x->(Builtin.zeroCells z.cells len).toList[q]? = some v->RepI m x v/\v.oneCell'=true:=by
       intro q x v hx hv;have hq:q<len*i.size:=by rw [<-hrl]; exact (ae.1 hx).1
       have h0:0<zs.length:=by
        rcases Nat.eq_zero_or_pos zs.length with h | h
        .rw [hzl] at h; rw [h,Nat.mul_zero] at hq; omega
        .exact h
       rw [ZO _ _ h0,if_pos (by rw [hzl]; exact hq)] at hx;obtain ⟨u,hu,hr',ho',_⟩:=hzr _ x hx;rw [hzl, <-hzs] at hu;have hv2:v=u:=by
        simp only [Builtin.zeroCells,Array.getElem?_toList,Array.getElem?_map,hzs] at hv;rw [Array.getElem?_range,if_pos hq] at hv;simp only [bj,ay] at hv;rw [<-hv, <-hzs,Array.getElem!_eq_getD,aY,hu]; rfl
       subst hv2;exact ⟨hr',ho'⟩
      obtain ⟨w',g1,g2,g3⟩:=hS.store (P:=P) hc hob off (rep0 zs len) (Builtin.zeroCells z.cells len).toList ⟨by rw [hzlen,hrl],fun q x v hx hv => .imm (hpt q x v hx hv).1⟩ (fun v hv=>by
       obtain ⟨q,hq,e⟩:=a7 hv;have hq2:q<(rep0 zs len).length:=by rw [hrl, <-hzlen]; exact hq
       exact (hpt q _ v (ac hq2) (by rw [ac hq,e])).2) (by rw [hrl]; omega)
      refine ⟨.tuple #[],w',m,β, .inl ?_, .tuple [] [] rfl (by simp),g2,g3⟩;have hg1:=g1
      cases len with
      | zero=>exact absurd rfl hl0
      | succ len =>
       simp [execOp,ho,resolve,invoke,builtin,Builtin.clear_,e1,run_underlying hut,Result.andThen,hzv,g1]
   .cases he
 | _=>simp [YI] at he
end
end Go.Vw
/-
 So many noughts put behind a slice; the least of two numbers; bytes as a string.
-/
namespace Go.Vw
open Go.RowKit
section
variable {P:Program} {N:Nat} {S:Store} {m:Imm} {β:Objs} {w:World} {σ:Fr} {a:Act}
theorem ahq {o:Oper} {t u e:TypeId} {i:TypeInfo} {zs:List V} {kk:IntKind} {y n:Operand} {yz nz:Arg} {x:V} {S':Store} (ho:o.op = .call { callee := .builtin .append,args := #[y,n],argTypes := #[t,u] })
  (hs:Program.slc P t=some (e,i)) (hut':P.underlying u=some (.int kk)) (hzv:Program.zeroV P e=some zs) (h0:0<i.size) (hy:jt y=some yz) (hn:jt n=some nz) (hS:Holds S m β w) (hF:FrameRep N m β σ a)
  (he:zW i.size i.bytes zs S (ev σ yz) (ev σ nz)=some (x,S')):Does P ((execOp a.eval o).run P w) x S' m β w:=by
 obtain ⟨hut,hi⟩:=Jv hs;obtain ⟨i',z,hi',hz,hzs,hzl,hzr⟩:=zG (m:=m) hzv;rw [hi] at hi'; cases hi';have hry:=jG hF hy;have hrn:=jG hF hn;generalize ev σ yz=p at he hry;generalize ev σ nz=q at he hrn
 cases p with
 | slice o' off len =>
  cases q with
  | int k1 n1 =>
   cases k1<;>simp only [zW] at he<;>try (cases he)
   cases hc:S.get o' with
   | none=>simp [hc] at he
   | some c =>
    simp only [hc] at he;split at he
    .rename_i hcond;obtain ⟨hn0,hc1,hc2,hc3,hc4⟩:=hcond;obtain ⟨k,rfl⟩ : ∃ k:Nat,n1=(k:Int):=⟨n1.toNat,by omega⟩
     rw [bq] at he hc3 hc4
     cases he
     have e2:=hrn.inv_int;obtain ⟨new,hnew⟩ : ∃ new,new=rep0 zs k:=⟨_,rfl⟩
     obtain ⟨vs,hvs⟩ : ∃ vs,vs=(Builtin.zeroCells z.cells k).toList:=⟨_,rfl⟩
     have hvl:vs.length=k*i.size:=by rw [hvs,Array.length_toList,size_zeroCells,hzs]
     have hnl:new.length=k*i.size:=by rw [hnew,za,hzl]
     have hpt : ∀ (q:Nat) (x:V) (v:Value),new[q]? = some x->vs[q]? = some v->RepI m x v/\v.oneCell'=true:=by
      intro q x v hx hv;have hq:q<k*i.size:=by rw [<-hnl]; exact (ae.1 hx).1
      have h0:0<zs.length:=by
       rcases Nat.eq_zero_or_pos zs.length with h | h
       .rw [hzl] at h; rw [h,Nat.mul_zero] at hq; omega
       .exact h
      rw [hnew,ZO _ _ h0,if_pos (by rw [hzl]; exact hq)] at hx;obtain ⟨u,hu,hr',ho',_⟩:=hzr _ x hx;rw [hzl, <-hzs] at hu;have hv2:v=u:=by
       rw [hvs] at hv;simp only [Builtin.zeroCells,Array.getElem?_toList,Array.getElem?_map,hzs] at hv;rw [Array.getElem?_range,if_pos hq] at hv;simp only [bj,ay] at hv;rw [<-hv, <-hzs,Array.getElem!_eq_getD,aY,hu]; rfl
      subst hv2;exact ⟨hr',ho'⟩
     have hvr:RepL m β new vs:=⟨by rw [hvl,hnl],fun q x v hx hv => .imm (hpt q x v hx hv).1⟩
     have hvo : ∀ v∈vs,v.oneCell'=true:=fun v hv=>by
      obtain ⟨q,hq,e⟩:=a7 hv;have hq2:q<new.length:=by rw [hnl, <-hvl]; exact hq
      exact (hpt q _ v (ac hq2) (by rw [ac hq,e])).2
     have hkb:k*i.bytes<=(len+k)*i.bytes:=Nat.mul_le_mul_right _ (by omega);have run : ∀ ad (sl sc:Nat) v' w',a.eval y = .slice ad sl sc->(Builtin.append_ #[t,u] o.type #[.slice ad sl sc, .int .i64 (k:Int)]).run P w = .ok v' w'->(execOp a.eval o).run P w = .ok (.value v') w':=by
      intro ad sl sc v' w' h1 h2;simp [execOp,ho,resolve,invoke,builtin,h1,e2,h2]
     rw [<-hnew]
     -- a new row
     have grow : ∀ ad (sl sc:Nat) (old:List V) (ovs:List Value) (S1:Store) (β1:Objs),a.eval y = .slice ad sl sc->old.length=sl*i.size->RepL m β old ovs->(∀ v∈ovs,v.oneCell'=true) ->
       (Builtin.firstCells i.size sl (.slice ad sl sc)).run P w.drew = .ok ovs.toArray w.drew->sc<sl+k->(sl+k)*i.bytes<=140737488355328->sl+k<=140737488355328 ->
       Holds S1 m β1 w->Step β β1->(∀ β' w',Ext m β1 w m β' w'->Ext m β w m β' w')->Does P ((execOp a.eval o).run P w) (.slice S1.nx 0 (sl+k)) (S1.add (i.size,old++new)) m β w:=by
      intro ad sl sc old ovs S1 β1 h1 h2 h3 h4 h5 h6 h7 h8 h9 h10 h11;have hr:=ZD (P:=P) (w:=w) (ty:=o.type) hut hut' hi hz hzs ad sl sc k ovs.toArray h5 h6 h8 h7;have hva:Builtin.zeroCells z.cells k=vs.toArray:=by rw [hvs]
      rw [hva] at hr;have hge:=grownCap_ge w (sl+k) sc e;have hcm:=grownCap_le_maxLen w (sl+k) sc e (by unfold maxLen; omega);generalize grownCap w (sl+k) sc e=gc at hr hge hcm;have h9d:Holds S1 m β1 w.drew:=h9.drew;have hzl:(Builtin.zeroCells z.cells (gc-(sl+k))).size=(gc-(sl+k))*i.size:=by rw [size_zeroCells,hzs]
      have hol:ovs.length=sl*i.size:=by rw [<-h3.1,h2]
      have hsz:(ovs.toArray++vs.toArray++Builtin.zeroCells z.cells (gc-(sl+k))).size=gc*i.size:=by
       simp only [Array.size_append,List.size_toArray,hzl,hol,hvl, <-Nat.add_mul]
       congr 1; omega
      obtain ⟨β',g1,g2,g3⟩:=KX (S':=S1) (w0:=w.drew) h9d (fun _ _=>rfl) rfl (s:=i.size) (new:=old++new) (T:=e) (ovs.toArray++vs.toArray++Builtin.zeroCells z.cells (gc-(sl+k))) (sl+k) gc
       (by rw [hsz,List.length_append,h2,hnl, <-Nat.add_mul]; exact Nat.mul_le_mul_right _ hge) hge hcm (by rw [hsz]; exact a9 _) (fun j x hx=>by
        have hxl:=(RepL.append h3 hvr)
        have hj:j<(old++new).length:=(ae.1 hx).1;have hj2:j<(ovs++vs).length:=by rw [<-hxl.1]; exact hj
        refine ⟨(ovs++vs)[j], ?_,(hxl.2 j x _ hx (ac hj2)).mono (fun _ _ h=>h) h10, ?_⟩
        .rw [Array.getElem?_append,if_pos (by simpa using hj2)];clear hvs hnew hva hr hpt;simp [List.getElem?_append,List.getElem_append];split<;>simp_all
        .have hmem:=ah hj2;rcases aG.1 hmem with h | h
         .exact h4 _ h
         .exact hvo _ h)
      exact ⟨_,_,m,β', .inl (run ad sl sc _ _ h1 hr),g1,g2,h11 _ _ (Ext.drewl g3)⟩
     -- an empty one
     have empty : ∀ ad (S1:Store) (β1:Objs),a.eval y = .slice ad 0 0->k=0->Holds S1 m β1 w->(∀ β' w',Ext m β1 w m β' w'->Ext m β w m β' w') ->
       Does P ((execOp a.eval o).run P w) (.slice S1.nx 0 0) (S1.add (i.size,new)) m β w:=by
      intro ad S1 β1 h1 h2 h3 h4;subst h2;have hv0:vs=[]:=aO (by simpa using hvl);have hn0:new=[]:=aO (by simpa using hnl);subst hv0; subst hn0;have hr:=Kg (P:=P) (w:=w) (ty:=o.type) hut hut' hi hz hzs ad 0 0 0 w (by omega) (by omega) (a9 _) (fun a' _=>by simp [storeCells,Builtin.zeroCells]) (fun _=>rfl);obtain ⟨g1,g2,g3⟩:=h3.addVoid i.size;exact ⟨_,_,m,_, .inl (run ad 0 0 _ _ h1 hr), .sliceVoid S1.nx 0 ad g3,g1,h4 _ _ g2⟩
     obtain ⟨ad,cap,e1,hlc,hcm,hcase⟩:=hry.inv_slice (hS.alive hc);have hlt:=hS.lt hc;have hdrop:=hS.drop o' hlt;have hext : ∀ β' w',Ext m (β.set o' .dead) w m β' w'->Ext m β w m β' w':=fun β' w' h=>h.dropNew fun b hb=>hS.apart o' b hb
     have hnone : ∀ ad,a.eval y = .slice ad 0 0->len=0->Does P ((execOp a.eval o).run P w) (.slice S.nx 0 (len+k)) ((S.del o').add (i.size,(c.2.drop off).take (len*i.size)++new)) m β w:=by
      intro ad h1e hl0;subst hl0;have e0:(c.2.drop off).take (0*i.size)=[]:=by simp
      rw [e0]
      by_cases hk:k=0
      .have:=empty ad (S.del o') (β.set o' .dead) h1e hk hdrop hext;rw [hk]; exact this
      .have hf0:(Builtin.firstCells i.size 0 (.slice ad 0 0)).run P w.drew = .ok ([]:List Value).toArray w.drew:=by
        have:=zx (P:=P) (w:=w.drew) (s:=i.size) (n:=0) (k:=0) (v := .slice ad 0 0) (vs:=[]) rfl (a9 _) (by simp) (.inl rfl);simpa using this
       exact grow ad 0 0 [] [] (S.del o') (β.set o' .dead) h1e (by simp) (RepL.nil _ _) (by simp) hf0 (by omega) hc3 hc4 hdrop (Step.kill β o') hext
     rcases hcase with ⟨hv,h1,h2⟩ | ⟨b,base,s,n,hob,hcase⟩
     .subst h2; subst h1; exact hnone ad e1 rfl
     .rcases hcase with hcap | ⟨had,hroom⟩
      .have hl0:len=0:=by omega
       subst hcap; subst hl0; exact hnone ad e1 rfl
      .subst had;obtain ⟨hs',arr,T,h1,h2,h3,h4⟩:=hS.cells_at hc hob;have hss:s=i.size:=by rw [<-hs',hc1]
       subst hss;obtain ⟨ovs,hl,hcs,hrl,hone⟩:=zO h4 off (len*i.size) hc2;have holen:((c.2.drop off).take (len*i.size)).length=len*i.size:=by simp; omega
       by_cases hrm:len+k<=cap
       .-- in place
        have hbk:(len+k)*i.size<=cap*i.size:=Nat.mul_le_mul_right _ hrm;rw [Nat.add_mul] at hbk;have hst:=run_storeCells_at P b (base+off+len*i.size) T vs 0 arr w h1 (by rw [hvl,h2]; omega) hvo;have hr:=Kg (P:=P) (w:=w) (ty:=o.type) hut hut' hi hz hzs (some ⟨b,base+off,none⟩) len cap k _ (by omega) (by omega) hrm (fun a' ha'=>by cases ha'; rw [Jz, <-hvs]; simpa using hst) (fun h=>by cases h);have hbl:(β o').block? = some b:=by rw [hob]; rfl
        have hβn:β S.nx = .fresh:=hS.nx_fresh;have hnd:(β.set o' .dead) S.nx = .fresh:=by rw [Objs.set_other _ _ (by omega)]; exact hβn
        have hstp:Step β ((β.set o' .dead).set S.nx (.lies b (base+off) i.size n)):=(Step.kill β o').trans (Step.fresh hnd _);have hfreeb : ∀ o2,((β.set o' .dead) o2).block? ≠ some b:=by
         intro o2 h
         by_cases e3:o2=o'
         .subst e3; rw [Objs.set_same] at h; cases h
         .rw [Objs.set_other _ _ e3] at h; exact e3 (hS.inj _ _ b h hbl)
        have hmb:=hS.apart o' b hbl;have hcnt:((c.2.drop off).take (len*i.size)++new).length=(len+k)*i.size:=by rw [List.length_append,holen,hnl,Nat.add_mul]
        refine ⟨_,_,m,(β.set o' .dead).set S.nx (.lies b (base+off) i.size n), .inl (run _ len cap _ _ e1 hr), ?_, ?_, ?_⟩
        .have:=Rep.slice (m:=m) (β:=(β.set o' .dead).set S.nx (.lies b (base+off) i.size n)) S.nx 0 (len+k) b (base+off) i.size n cap (some ⟨b,base+off,none⟩) (Objs.set_same _ _ _) hrm hcm (.inr ⟨rfl,by simpa using hroom⟩);exact this
        .refine hdrop.new (S:=S.del o') (by intro h; cases h) (fun b' o2 hb'=>setRow_other w b b' _ (fun e3=>by subst e3; rw [hmb] at hb'; cases hb')) (fun o2 b' hb'=>setRow_other w b b' _ (fun e3=>by subst e3; exact hfreeb o2 hb')) ?_ ?_
         .intro b' hb'
          cases hb'
          exact ⟨hmb,hfreeb⟩
         .refine ⟨rfl,_,T,setRow_heap w b arr _ T (0,0) h1, ?_, ?_,fun j x hx => ?_⟩
          .simp; omega
          .rw [hcnt,Nat.add_mul]; omega
          .have hxl:=RepL.append hrl hvr;have hj:j<((c.2.drop off).take (len*i.size)++new).length:=(ae.1 hx).1;have hj2:j<(ovs++vs).length:=by rw [<-hxl.1]; exact hj
           refine ⟨(ovs++vs)[j], ?_,(hxl.2 j x _ hx (ac hj2)).mono (fun _ _ h=>h) hstp, ?_⟩
           .have hjb:j<len*i.size+k*i.size:=by rw [hcnt,Nat.add_mul] at hj; exact hj
            simp only [List.getElem?_toArray];rw [<-List.append_assoc,JQ _ _ _ (by rw [hvl,Array.length_toList,h2]; omega)];simp only [List.getElem_append];split
            .rename_i hlt2;rw [dif_pos (by omega)];have:=hcs j ovs[j] (ac (by omega));simpa [Nat.add_assoc] using this
            .rename_i hge2;rw [if_pos (by omega),dif_neg (by omega)];rw [ac (by omega)]
             congr 2; omega
           .rcases aG.1 (ah hj2) with h | h
            .exact hone _ h
            .exact hvo _ h
        .refine ⟨fun _ _ h=>h,hstp,by simp,fun b' hb' hm' hn' => ?_,rfl,rfl,rfl⟩;have hne:b'≠b:=fun e3=>hn' o' (by rw [hbl,e3])
         refine ⟨setRow_other w b b' _ hne,hm',fun o2 ho2 => ?_⟩
         by_cases e4:o2=S.nx
         .subst e4; rw [Objs.set_same] at ho2; cases ho2; exact hne rfl
         .rw [Objs.set_other _ _ e4] at ho2
          by_cases e5:o2=o'
          .subst e5; rw [Objs.set_same] at ho2; cases ho2
          .rw [Objs.set_other _ _ e5] at ho2; exact hn' o2 ho2
       .-- a new row
        have hfo:(Builtin.firstCells i.size len (.slice (some ⟨b,base+off,none⟩) len cap)).run P w.drew = .ok ovs.toArray w.drew:=by
         have hl':ovs.length=len*i.size:=hl;have:=zx (P:=P) (w:=w.drew) (s:=i.size) (n:=len) (k:=len) (v := .slice (some ⟨b,base+off,none⟩) len cap) (vs:=ovs) rfl (a9 _) hl' (.inr ⟨b,base+off,rfl,fun j u hj=>by
          rw [World.cell?_drew,Zc h1]; exact hcs j u hj⟩)
         rwa [List.take_of_length_le (by omega)] at this
        exact grow _ len cap _ ovs (S.del o') (β.set o' .dead) e1 holen hrl hone hfo (by omega) hc3 hc4 hdrop (Step.kill β o') hext
    .cases he
  | _=>simp [zW] at he
 | _=>simp [zW] at he
theorem ar0 {o:Oper} {y u:Operand} {ts:Array TypeId} {yz uz:Arg} {x:V} (ho:o.op = .call { callee := .builtin .min,args := #[y,u],argTypes:=ts }) (hy:jt y=some yz) (hu:jt u=some uz) (hS:Holds S m β w) (hF:FrameRep N m β σ a)
  (he:jcS (ev σ yz) (ev σ uz)=some x):Does P ((execOp a.eval o).run P w) x S m β w:=by
 have r1:=jG hF hy;have r2:=jG hF hu;generalize ev σ yz=p at he r1;generalize ev σ uz=q at he r2
 cases p with
 | int k1 a1 =>
  cases q with
  | int k2 a2 =>
   simp only [jcS] at he;split at he
   .cases he
    have e1:=r1.inv_int;have e2:=r2.inv_int;refine Does.same hS (v := .int k1 (if a2<a1 then a2 else a1)) ?_ (.imm (.int _ _));simp [execOp,ho,resolve,invoke,builtin,e1,e2,Builtin.min_,Builtin.min2]
   .cases he
  | _=>simp [jcS] at he
 | _=>simp [jcS] at he
theorem aee : ∀ xs:List V,xs.all YS=true->xs=(xs.map numV).map (V.int .u8)
 | [],_=>rfl
 | x::xs,h=>by
  simp only [List.all_cons,af] at h;have ih:=aee xs h.2;obtain ⟨n,rfl⟩ : ∃ n,x = .int .u8 n:=by
   cases x with
   | int k n=>cases k<;>first | exact ⟨n,rfl⟩ | (simp [YS] at h)
   | _=>simp [YS] at h
  simp only [List.map_cons,numV];rw [<-ih]
theorem alk {o:Oper} {s d e:TypeId} {y:Operand} {yz:Arg} {x:V} (ho:o.op = .convert s d y) (hs:P.underlying s=some (.slice e)) (hd:P.underlying d=some .string) (he8:P.underlying e=some (.int .u8)) (hy:jt y=some yz)
  (hS:Holds S m β w) (hF:FrameRep N m β σ a) (he:Kw (ev σ yz)=some x):Does P ((execOp a.eval o).run P w) x S m β w:=by
 have r1:=jG hF hy;generalize ev σ yz=p at he r1
 cases p with
 | list xs =>
  simp only [Kw] at he;split at he
  .rename_i hall
   cases he
   have hxs:=aee xs hall;obtain ⟨ns,hns⟩ : ∃ ns,ns=xs.map numV:=⟨_,rfl⟩
   rw [<-hns] at hxs ⊢;have hsrc:jS 1 S (.list xs)=some (xs,xs.length):=by
    have h1:xs.all (fun x=>x.ncells==1)=true:=by rw [hxs]; simp [V.ncells]
    have h2:xs.flatMap V.cells=xs:=by
     rw [hxs];clear hxs hns hall r1
     induction ns with
     | nil=>rfl
     | cons n ns ih=>rw [List.map_cons,List.flatMap_cons,ih]; rfl
    simp only [jS,h1,if_true,h2]
   obtain ⟨ad2,c2,e2,hk2,hcm2,vs,hvl,hvr,hvo,hvc⟩:=jcw hS r1 hsrc;rw [Nat.mul_one] at hvl;have hvs:vs=ns.map (Value.int .u8):=by
    have hnl:ns.length=vs.length:=by rw [hvl,hxs,aI]
    refine List.ext_getElem (by rw [aI,hnl]) fun j h1 h2 => ?_
    have h3:j<ns.length:=by omega
    have hx:xs[j]? = some (V.int .u8 ns[j]):=by rw [hxs]; simp [h3]
    have:=(hvr.2 j _ _ hx (ac h1)).inv_int;rw [this,List.getElem_map]
   refine Does.same hS (v := .string (strV ns)) ?_ (.imm (.str _));have hconv:(convert s d (.slice ad2 xs.length c2)).run P w = .ok (.string (strV ns)) w:=by
    cases ad2 with
    | none =>
     have h0:vs=[]:=by
      rcases hvc with h | ⟨b,off,h,_⟩
      .exact h
      .cases h
     have hn0:ns=[]:=by
      rw [h0] at hvs;exact List.map_eq_nil_iff.1 hvs.symm
     have hx0:xs.length=0:=by rw [<-hvl,h0]; rfl
     rw [hx0,hn0];exact Lib.run_convert_nil_bytes w s d e c2 hs he8 hd
    | some ad =>
     rw [run_convert_bytes_string w s d e (some ad) xs.length c2 hs he8 hd];refine run_bytesToString w ad xs.length c2 ns ?_;have:=zx (P:=P) (w:=w) (s:=1) (n:=xs.length) (k:=xs.length) (v := .slice (some ad) xs.length c2) (vs:=vs) rfl (a9 _) (by rw [hvl,Nat.mul_one]) hvc;rw [List.take_of_length_le (by omega),hvs] at this;simpa [Builtin.firstCells] using this
   simp [execOp,ho,e2,hconv]
  .cases he
 | _=>simp [Kw] at he
end
end Go.Vw
/-
 All operations but calls: over values without addresses they do what the model's do.
-/
namespace Go.Vw
open Go.RowKit
section
variable {P:Program} {N:Nat} {S:Store} {m:Imm} {β:Objs} {w:World} {σ:Fr} {a:Act}
theorem ar7 {o:Oper} {t e:TypeId} {y:Operand} {z:Arg} {x:V} (ho:o.op = .call { callee := .builtin .len,args := #[y],argTypes := #[t] })
  (hu:P.underlying t=some (.slice e)) (hz:jt y=some z) (hS:Holds S m β w) (hF:FrameRep N m β σ a) (he:KY S (ev σ z)=some x):Does P ((execOp a.eval o).run P w) x S m β w:=by
 have hr:=jG hF hz;generalize ev σ z=p at he hr;have run : ∀ ad (len cap:Nat),a.eval y = .slice ad len cap->(execOp a.eval o).run P w = .ok (.value (.int .i64 len)) w:=by
  intro ad len cap h1;simp [execOp,ho,resolve,invoke,builtin,h1,Builtin.len_,run_underlying hu,goInt]
 cases p with
 | list xs =>
  simp only [KY] at he
  cases he
  cases hv:a.eval y with
  | slice ad len cap =>
   have hl:=hr.inv_list;rw [hv] at hl;have:len=xs.length:=by cases hl<;>rfl
   subst this;exact Does.same hS (run ad _ cap hv) (.imm (.int _ _))
  | _=>have hl:=hr.inv_list; rw [hv] at hl; cases hl
 | slice o' off len =>
  simp only [KY] at he;split at he
  .rename_i hs
   cases he
   obtain ⟨c,hc⟩:=Option.isSome_iff_exists.1 hs;obtain ⟨ad,cap,e,_⟩:=hr.inv_slice (hS.alive hc);exact Does.same hS (run ad len cap e) (.imm (.int _ _))
  .cases he
 | nils =>
  simp only [KY] at he
  cases he
  obtain ⟨ad,e⟩:=hr.inv_nils;exact Does.same hS (run ad 0 0 e) (.imm (.int _ _))
 | _=>simp [KY] at he
def COp.simple:COp->Bool
 | .call _ _ | .callv _ _=>false
 | _=>true
theorem afk {o:Oper} {co:COp} (hc:Yf P o=some co) {x:V} {S':Store} (he:jh (ev σ) S co=some (x,S')) (hS:Holds S m β w) (hF:FrameRep N m β σ a):Does P ((execOp a.eval o).run P w) x S' m β w:=by
 unfold Yf at hc;split at hc
 .-- move
  rename_i y ho;obtain ⟨z,hz,rfl⟩:=av.1 hc;simp only [jh] at he; cases he;exact Does.same hS (by simp [execOp,ho]) (jG hF hz)
 .-- assign
  rename_i y ho;obtain ⟨z,hz,rfl⟩:=av.1 hc;simp only [jh] at he; cases he;exact Does.same hS (by simp [execOp,ho]) (jG hF hz)
 .-- pick
  rename_i c y u ho;split at hc
  .rename_i cz yz uz h1 h2 h3
   cases hc
   simp only [jh] at he;split at he
   .rename_i t ht
    cases he
    have hr:=jG hF h1;rw [ht] at hr;have e:=hr.inv_bool
    cases t
    .exact Does.same hS (v:=a.eval u) (by simp [execOp,ho,e,asBool]) (by simpa using jG hF h3)
    .exact Does.same hS (v:=a.eval y) (by simp [execOp,ho,e,asBool]) (by simpa using jG hF h2)
   .cases he
  .cases hc
 .-- alloc
  rename_i t ho;split at hc
  .rename_i d z h1 h2
   cases hc
   simp only [jh] at he; cases he;exact ak4 ho h2 hS
  .cases hc
 .-- box
  rename_i t y ho;obtain ⟨z,hz,rfl⟩:=av.1 hc;simp only [jh] at he;split at he
  .rename_i h1; cases he; exact at3 ho hz h1 hS hF
  .cases he
 .-- build
  rename_i t parts ho;split at hc
  .rename_i fs z h1 h2;obtain ⟨ps,hps,rfl⟩:=av.1 hc;simp only [jh,av] at he;obtain ⟨cs,hcs,he⟩:=he
   cases he
   exact alm ho h1 h2 hps hS hF hcs
  .cases hc
 .-- buildSlice
  rename_i t len parts ho;split at hc
  .rename_i e i h1;split at hc
   .rename_i z h2;split at hc
    .rename_i h3;obtain ⟨ps,hps,rfl⟩:=av.1 hc;simp only [jh,av] at he;obtain ⟨cs,hcs,he⟩:=he
     cases he
     exact jbe ho h1 h2 h3 hps hS hF hcs
    .cases hc
   .cases hc
  .cases hc
 .-- load
  rename_i t y ho;split at hc
  .rename_i sz z h1 h2
   cases hc
   simp only [jh,av] at he;obtain ⟨v,hv,he⟩:=he
   cases he
   exact aow ho h1 h2 hS hF hv
  .cases hc
 .-- store
  rename_i t p v ho;split at hc
  .rename_i sz pz vz h1 h2 h3
   cases hc
   simp only [jh,av] at he;obtain ⟨S1,hS1,he⟩:=he
   cases he
   exact ak2 ho h1 h2 h3 hS hF hS1
  .cases hc
 .-- nilCheck
  rename_i y ho;obtain ⟨z,hz,rfl⟩:=av.1 hc;have hr:=jG hF hz;simp only [jh] at he;split at he
  .rename_i o' p hp;split at he
   .rename_i hs
    cases he
    rw [hp] at hr;obtain ⟨c,hc'⟩:=Option.isSome_iff_exists.1 hs;obtain ⟨b,base,s,n,hob,e⟩:=hr.inv_ptr (hS.alive hc');rw [e] at hr;exact Does.same hS (by simp [execOp,ho,e]) hr
   .cases he
  .rename_i y' hp
   cases he
   rw [hp] at hr;obtain ⟨u,b,off,arr,T,fz,e,_⟩:=hr.inv_ref;rw [e] at hr;exact Does.same hS (by simp [execOp,ho,e]) hr
  .cases he
 .-- binOp
  rename_i op t y u t' ho;split at hc
  .rename_i yz uz h1 h2;split at hc
   .rename_i ht
    cases hc
    simp only [jh,av] at he;obtain ⟨v,hv,he⟩:=he
    cases he
    exact af0 (neg:=false) ho rfl ht h1 h2 hS hF hv
   .rename_i ht
    cases hc
    simp only [jh,av] at he;obtain ⟨v,hv,he⟩:=he
    cases he
    exact af0 (neg:=true) ho rfl ht h1 h2 hS hF hv
   .rename_i ht
    cases hc
    simp only [jh,av] at he;obtain ⟨v,hv,he⟩:=he
    cases he
    exact aep (neg:=false) ho rfl ht h1 h2 hS hF hv
   .rename_i ht
    cases hc
    simp only [jh,av] at he;obtain ⟨v,hv,he⟩:=he
    cases he
    exact aep (neg:=true) ho rfl ht h1 h2 hS hF hv
   .cases hc
    simp only [jh,av] at he;obtain ⟨v,hv,he⟩:=he
    cases he
    exact aqo ho h1 h2 hS hF hv
  .cases hc
 .-- unOp
  rename_i op t y ho;obtain ⟨z,hz,rfl⟩:=av.1 hc;simp only [jh,av] at he;obtain ⟨v,hv,he⟩:=he
  cases he
  have hr:=jG hF hz;generalize ev σ z=p at hv hr;unfold opUn at hv;split at hv
  .cases hv; exact Does.same hS (by simp [execOp,ho,hr.inv_bool,Op.unary]) (.imm (.bool _))
  .cases hv; exact Does.same hS (by simp [execOp,ho,hr.inv_int,Op.unary,Op.intArith]) (.imm (.int _ _))
  .cases hv
 .-- convert
  rename_i s d y ho;split at hc
  .rename_i ds k h1 h2;obtain ⟨z,hz,rfl⟩:=av.1 hc;have hr:=jG hF hz;simp only [jh] at he;split at he
   .rename_i k' n hn
    cases he
    rw [hn] at hr;exact Does.same hS (v := .int k (k.wrap n)) (by simp [execOp,ho,hr.inv_int,convert,run_underlying h1,run_underlying h2,Conv.intToInt]) (.imm (.int _ _))
   .cases he
  .rename_i e h1 h2;split at hc
   .rename_i h3;obtain ⟨z,hz,rfl⟩:=av.1 hc;simp only [jh,av] at he;obtain ⟨v,hv,he⟩:=he
    cases he
    exact alk ho h1 h2 h3 hz hS hF hv
   .cases hc
  .cases hc
 .-- makeFunc
  rename_i fn first caps ho
  split at hc
  .rename_i f hfi;obtain ⟨zs,hz,rfl⟩:=av.1 hc;have hfi':first = #[]:=by cases first; simp at hfi; rw [hfi]
   subst hfi';simp only [jh] at he; cases he;have hr:=acu hF hz;refine Does.same hS (v := .func (.func f) #[] (caps.toList.map a.eval).toArray) ?_ (.func f _ _ hr.1 hr.2);have hcaps:caps.map a.eval=(caps.toList.map a.eval).toArray:=by simp [<-Array.toList_map]
   simp [execOp,ho,Instr.makeFunc,hcaps]
  .cases hc
 .-- makeSlice
  rename_i t l c ho;split at hc
  .rename_i e i lz cz h1 h2 h3;split at hc
   .rename_i z h4
    cases hc
    simp only [jh] at he;exact anm ho h1 h4 h2 h3 hS hF he
   .cases hc
  .cases hc
 .-- slice
  rename_i t y lo hi mx ho;split at hc
  .rename_i e i yz loz hiz mxz h1 h2 h3 h4 h5
   cases hc
   simp only [jh,av] at he;obtain ⟨v,hv,he⟩:=he
   cases he
   exact aku ho h1 h2 h3 h4 h5 hS hF hv
  .cases hc
 .-- fieldAddr
  rename_i t y f ho;split at hc
  .rename_i off sz z h1 h2
   cases hc
   simp only [jh,av] at he;obtain ⟨v,hv,he⟩:=he
   cases he
   exact jbB ho h1 h2 hS hF hv
  .cases hc
 .-- field
  rename_i t y f ho;split at hc
  .rename_i off sz z h1 h2
   cases hc
   simp only [jh,av] at he;obtain ⟨v,hv,he⟩:=he
   cases he
   exact alu ho h1 h2 hS hF hv
  .cases hc
 .-- indexAddr
  rename_i t y i ho;split at hc
  .rename_i e j yz iz h1 h2 h3
   cases hc
   simp only [jh,av] at he;obtain ⟨v,hv,he⟩:=he
   cases he
   exact aks ho h1 h2 h3 hS hF hv
  .cases hc
 .-- extract
  rename_i y i ho;obtain ⟨z,hz,rfl⟩:=av.1 hc;have hr:=jG hF hz;simp only [jh] at he;split at he
  .rename_i xs hxs;rw [hxs] at hr;obtain ⟨v,hv,he⟩:=av.1 he
   cases he
   obtain ⟨vs,e,hl,hrr⟩:=hr.inv_tuple;have hlt:i<vs.length:=by rw [<-hl]; exact (ae.1 hv).1
   refine Does.same hS (v:=vs[i]) ?_ (hrr i x vs[i] hv (ac hlt));simp [execOp,ho,e,Instr.extract,hlt]
  .cases he
 .-- calls
  rename_i c ho;obtain ⟨callee,args,argTypes⟩:=c;have arr1 : ∀ {α:Type} {xs:Array α} {l:List α},xs.toList=l->xs=l.toArray:=fun h=>by rw [<-h]
  unfold Kb at hc;split at hc
  .-- len
   rename_i y t h1 h2 h3;simp only at h1 h2 h3;subst h1;rw [arr1 h2,arr1 h3] at ho;split at hc
   .rename_i e hu;obtain ⟨z,hz,rfl⟩:=av.1 hc;simp only [jh,av] at he;obtain ⟨v,hv,he⟩:=he
    cases he
    exact ar7 ho hu hz hS hF hv
   .rename_i hu;obtain ⟨z,hz,rfl⟩:=av.1 hc;have hr:=jG hF hz;simp only [jh] at he;split at he
    .rename_i s hs
     cases he
     rw [hs] at hr;refine Does.same hS (v := .int .i64 s.size) ?_ (.imm (.int _ _));simp [execOp,ho,resolve,invoke,builtin,hr.inv_str,Builtin.len_,run_underlying hu,goInt]
    .cases he
   .cases hc
  .-- append
   rename_i y u t t' h1 h2 h3;simp only at h1 h2 h3;subst h1;rw [arr1 h2,arr1 h3] at ho;split at hc
   .rename_i htt;subst htt;split at hc
    .rename_i e i yz uz k1 k2 k3;split at hc
     .rename_i z k4;split at hc
      .rename_i k5
       cases hc
       simp only [jh] at he;exact ah0 ho k1 k4 k5 k2 k3 hS hF he
      .cases hc
     .cases hc
    .cases hc
   .split at hc
    .rename_i e i yz uz kk k1 k2 k3 k6;split at hc
     .rename_i z k4;split at hc
      .rename_i k5
       cases hc
       simp only [jh] at he;exact ahq ho k1 k6 k4 k5 k2 k3 hS hF he
      .cases hc
     .cases hc
    .cases hc
  .-- min
   rename_i y u h1 h2;simp only at h1 h2;subst h1;rw [arr1 h2] at ho;split at hc
   .rename_i yz uz k1 k2
    cases hc
    simp only [jh,av] at he;obtain ⟨v,hv,he⟩:=he
    cases he
    exact ar0 ho k1 k2 hS hF hv
   .cases hc
  .-- copy
   rename_i y u t t' h1 h2 h3;simp only at h1 h2 h3;subst h1;rw [arr1 h2,arr1 h3] at ho;split at hc
   .rename_i htt;subst htt;split at hc
    .rename_i e i yz uz k1 k2 k3
     cases hc
     simp only [jh] at he;exact ane ho k1 k2 k3 hS hF he
    .cases hc
   .cases hc
  .-- clear
   rename_i y t h1 h2 h3;simp only at h1 h2 h3;subst h1;rw [arr1 h2,arr1 h3] at ho;split at hc
   .rename_i e i yz k1 k2;split at hc
    .rename_i z k4
     cases hc
     simp only [jh] at he;obtain ⟨v,hv,h⟩:=av.1 he
     cases h
     exact alf ho k1 k4 k2 hS hF hv
    .cases hc
   .cases hc
  .-- call
   split at hc
   .split at hc
    .cases hc
    .obtain ⟨zs,hz,rfl⟩:=av.1 hc;simp [jh] at he
   .cases hc
  .split at hc
   .cases hc; simp [jh] at he
   .cases hc
  .cases hc
 .-- makeMap
  rename_i ty ho
  cases hc
  simp only [jh] at he; cases he;exact afs ho hS
 .-- lookup
  rename_i ty y i ok ho;split at hc
  .rename_i kt e yz iz ht hy hi;split at hc
   .rename_i d z hd hz
    cases hc
    simp only [jh] at he;obtain ⟨v,hv,h⟩:=av.1 he
    cases h
    exact aii ho ht hd hz hy hi hS hF hv
   .rename_i z hz _
    cases hc
    simp only [jh] at he;obtain ⟨v,hv,h⟩:=av.1 he
    cases h
    exact afp ho ht rfl hz hy hi hS hF hv
   .cases hc
  .cases hc
 .-- mapUpdate
  rename_i ty y i u ho;split at hc
  .rename_i kt e yz iz uz ht hy hi hu;split at hc
   .rename_i d hd
    cases hc
    simp only [jh] at he;obtain ⟨v,hv,h⟩:=av.1 he
    cases h
    exact Wg ho ht hd hy hi hu hS hF hv
   .cases hc
    simp only [jh] at he;obtain ⟨v,hv,h⟩:=av.1 he
    cases h
    exact KF ho ht rfl hy hi hu hS hF hv
  .cases hc
 .-- insert
  rename_i ty y i u ho;split at hc
  .rename_i kt e yz iz uz ht hy hi hu;split at hc
   .rename_i d hd
    cases hc
    simp only [jh] at he;obtain ⟨v,hv,h⟩:=av.1 he
    cases h
    exact ai4 ho ht hd hy hi hu hS hF hv
   .cases hc
    simp only [jh] at he;obtain ⟨v,hv,h⟩:=av.1 he
    cases h
    exact aem ho ht rfl hy hi hu hS hF hv
  .cases hc
 .cases hc
end
end Go.Vw
/-
  The calculus: code over values without addresses.
-/
namespace Go.Vw
open Go.RowKit
def VWp (P:Program) (N b:Nat) (c:Code) (Q:Exit->Fr->Store->Prop) (σ:Fr) (S:Store):Prop :=
  ∀ m β w a,Holds S m β w->FrameRep N m β σ a->c.wp P (fun e a' w' => ∃ σ' S' m' β',Q e σ' S'/\Holds S' m' β' w'/\FrameRep N m' β' σ' a'/\ExtB b m β w m' β' w') a w
def JS (K:Fr->Store->Prop) (Q:Exit->Fr->Store->Prop):Exit->Fr->Store->Prop
  | .normal=>K
  | e=>Q e
def ZT (id:Nat) (Q:Exit->Fr->Store->Prop):Exit->Fr->Store->Prop
  | .exit id'=>if id'=id then Q .normal else Q (.exit id')
  | e=>Q e
section
variable {P:Program} {N b:Nat} {Q:Exit->Fr->Store->Prop} {σ:Fr} {S:Store}
theorem ajk {c:Code} {Q':Exit->Fr->Store->Prop} (h:VWp P N b c Q σ S) (hq : ∀ e σ S,Q e σ S->Q' e σ S):VWp P N b c Q' σ S :=
  fun m β w a hS hF=>wp_mono (h m β w a hS hF) fun e a' w' ⟨σ',S',m',β',q,r⟩=>⟨σ',S',m',β',hq _ _ _ q,r⟩
theorem axb (h:Q .normal σ S):VWp P N b .skip Q σ S:=fun m β w a hS hF=>wp_skip ⟨σ,S,m,β,h,hS,hF,ExtB.refl _ _ _ _⟩
theorem au8 {id:Nat} (h:Q (.exit id) σ S):VWp P N b (.exit id) Q σ S:=fun m β w a hS hF=>wp_exit ⟨σ,S,m,β,h,hS,hF,ExtB.refl _ _ _ _⟩
theorem axh (h:Q .ret σ S):VWp P N b .ret Q σ S:=fun m β w a hS hF=>wp_ret ⟨σ,S,m,β,h,hS,hF,ExtB.refl _ _ _ _⟩
theorem jcq {c:Code} {m m':Imm} {β β':Objs} {w w':World} {a:Act} (h:VWp P N b c Q σ S) (hS:Holds S m' β' w') (hF:FrameRep N m' β' σ a) (he:ExtB b m β w m' β' w') :
    c.wp P (fun e a' w'' => ∃ σ' S' m'' β'',Q e σ' S'/\Holds S' m'' β'' w''/\FrameRep N m'' β'' σ' a'/\ExtB b m β w m'' β'' w'') a w' :=
  wp_mono (h m' β' w' a hS hF) fun e a' w'' ⟨σ',S',m'',β'',q,r1,r2,r3⟩=>⟨σ',S',m'',β'',q,r1,r2,he.trans r3⟩
theorem ayf {x y:Code} (h:VWp P N b x (JS (VWp P N b y Q) Q) σ S):VWp P N b (.seq x y) Q σ S:=by
  intro m β w a hS hF;refine wp_seq (wp_mono (h m β w a hS hF) ?_);rintro e a' w' ⟨σ',S',m',β',q,r1,r2,r3⟩
  cases e with
  | normal=>exact jcq q r1 r2 r3
  | exit id=>exact ⟨σ',S',m',β',q,r1,r2,r3⟩
  | goto l=>exact ⟨σ',S',m',β',q,r1,r2,r3⟩
  | ret=>exact ⟨σ',S',m',β',q,r1,r2,r3⟩
  | panic ch=>exact ⟨σ',S',m',β',q,r1,r2,r3⟩
  | outgrown=>exact ⟨σ',S',m',β',q,r1,r2,r3⟩
theorem asq {id:Nat} {c:Code} (h:VWp P N b c (ZT id Q) σ S):VWp P N b (.block id c) Q σ S:=by
  intro m β w a hS hF;refine wp_block (wp_mono (h m β w a hS hF) ?_);rintro e a' w' ⟨σ',S',m',β',q,r1,r2,r3⟩
  cases e with
  | normal=>exact ⟨σ',S',m',β',q,r1,r2,r3⟩
  | exit id' =>
    simp only [Exit.inBlock,ZT] at q ⊢;split
    .rename_i e; rw [if_pos e] at q; exact ⟨σ',S',m',β',q,r1,r2,r3⟩
    .rename_i e; rw [if_neg e] at q; exact ⟨σ',S',m',β',q,r1,r2,r3⟩
  | goto l=>exact ⟨σ',S',m',β',q,r1,r2,r3⟩
  | ret=>exact ⟨σ',S',m',β',q,r1,r2,r3⟩
  | panic ch=>exact ⟨σ',S',m',β',q,r1,r2,r3⟩
  | outgrown=>exact ⟨σ',S',m',β',q,r1,r2,r3⟩
theorem avf {c:Operand} {x y:Code} {z:Arg} {t:Bool} (hz:jt c=some z) (ht:ev σ z = .bool t) (hx:t=true->VWp P N b x Q σ S) (hy:t=false->VWp P N b y Q σ S):VWp P N b (.cond c x y) Q σ S:=by
  intro m β w a hS hF;have hc:a.eval c = .bool t:=by
    have:=jG hF hz;rw [ht] at this;exact this.inv_bool
  exact wp_cond_split hc (fun h=>hx h m β w a hS hF) (fun h=>hy h m β w a hS hF)
def Reach (N b:Nat) (σ:Fr) (S:Store) (σ':Fr) (S':Store):Prop :=
  ∀ m β w a,Holds S m β w->FrameRep N m β σ a -> ∃ m' β',Holds S' m' β' w/\FrameRep N m' β' σ' a/\ExtB b m β w m' β' w
theorem Reach.refl (σ:Fr) (S:Store):Reach N b σ S σ S:=fun m β w a h r=>⟨m,β,h,r,ExtB.refl _ _ _ _⟩
theorem Reach.trans {σ' σ'':Fr} {S' S'':Store} (h:Reach N b σ S σ' S') (k:Reach N b σ' S' σ'' S''):Reach N b σ S σ'' S'':=by
  intro m β w a hS hr;obtain ⟨m',β',h1,h2,h3⟩:=h m β w a hS hr;obtain ⟨m'',β'',k1,k2,k3⟩:=k m' β' w a h1 h2;exact ⟨m'',β'',k1,k2,h3.trans k3⟩
theorem Reach.oy (ks:List Nat):Reach N b σ S (σ.oy ks) S:=fun m β w a h r=>⟨m,β,h,r.oy ks,ExtB.refl _ _ _ _⟩
theorem jv {σ':Fr} {S':Store} {c:Code} (hr:Reach N b σ S σ' S') (h:VWp P N b c Q σ' S'):VWp P N b c Q σ S:=by
  intro m β w a hS hF;obtain ⟨m',β',h1,h2,h3⟩:=hr m β w a hS hF;exact jcq h h1 h2 h3
theorem jcp (ks:List Nat) {c:Code} (h:VWp P N b c Q (σ.oy ks) S):VWp P N b c Q σ S:=fun m β w a hS hF=>h m β w a hS (hF.oy ks)
theorem least {p:Nat->Prop} (h : ∃ n,p n) : ∃ n,p n /\ ∀ k,p k->n<=k:=by
  obtain ⟨n,hn⟩:=h
  induction n using Nat.strongRecOn with
  | _ n ih =>
    by_cases hx : ∃ k,k<n/\p k
    .obtain ⟨k,hk,hp⟩:=hx; exact ih k hk hp
    .exact ⟨n,hn,fun k hk=>by
       rcases bt k n with h' | h'
       .exact absurd ⟨k,h',hk⟩ hx
       .exact h'⟩
theorem ah3 {c:Code} {Q:Exit->Act->World->Prop} {a:Act} {w:World} (R:Nat->Act->World->Prop) (n0:Nat) (h0:R n0 a w)
    (round : ∀ n a w,R n a w->c.wp P (Exit.then (fun a' w' => ∃ n',n'<n/\R n' a' w') Q) a w):(Code.loop c).wp P Q a w:=by
  classical
  let μ:Act->World->Nat:=fun a w=>if h : ∃ n,R n a w then Classical.choose (least h) else 0
  have hμ : ∀ a w,(∃ n,R n a w)->R (μ a w) a w /\ ∀ k,R k a w->μ a w<=k:=by
    intro a w h;have e:μ a w=Classical.choose (least h):=by simp only [μ]; rw [dif_pos h]
    rw [e];exact Classical.choose_spec (least h)
  refine wp_loop (fun a w => ∃ n,R n a w) μ ⟨n0,h0⟩ fun a w hI => ?_
  obtain ⟨hR,_⟩:=hμ a w hI;refine wp_mono (round (μ a w) a w hR) ?_;intro e a' w' q
  cases e with
  | normal =>
    obtain ⟨n',hlt,hn'⟩:=q;exact ⟨⟨n',hn'⟩,Nat.lt_of_le_of_lt ((hμ a' w' ⟨n',hn'⟩).2 n' hn') hlt⟩
  | exit id=>exact q
  | goto l=>exact q
  | ret=>exact q
  | panic ch=>exact q
  | outgrown=>exact q
theorem aw1 (ks:List Nat) {c:Code} (I:Nat->Fr->Store->Prop) (n0:Nat) (h0:I n0 (σ.oy ks) S)
    (round : ∀ n σ S,I n σ S->VWp P N b c (JS (fun σ' S' => ∃ n',n'<n /\ ∃ σc Sc,Reach N b (σ'.oy ks) S' σc Sc/\I n' σc Sc) Q) σ S):VWp P N b (.loop c) Q σ S:=by
  intro m β w a hS hF;refine ah3 (fun n a' w' => ∃ σ' S' m' β',I n σ' S'/\Holds S' m' β' w'/\FrameRep N m' β' σ' a'/\ExtB b m β w m' β' w') n0 ⟨_,S,m,β,h0,hS,hF.oy ks,ExtB.refl _ _ _ _⟩ ?_;rintro n a' w' ⟨σ',S',m',β',hI,r1,r2,r3⟩;refine wp_mono (jcq (round n σ' S' hI) r1 r2 r3) ?_;rintro e a'' w'' ⟨σ'',S'',m'',β'',q,s1,s2,s3⟩
  cases e with
  | normal =>
    obtain ⟨n',hlt,σc,Sc,hr,hI'⟩:=q;obtain ⟨m3,β3,t1,t2,t3⟩:=hr m'' β'' w'' _ s1 (s2.oy ks);exact ⟨n',hlt,σc,Sc,m3,β3,hI',t1,t2,s3.trans t3⟩
  | exit id=>exact ⟨σ'',S'',m'',β'',q,s1,s2,s3⟩
  | goto l=>exact ⟨σ'',S'',m'',β'',q,s1,s2,s3⟩
  | ret=>exact ⟨σ'',S'',m'',β'',q,s1,s2,s3⟩
  | panic ch=>exact ⟨σ'',S'',m'',β'',q,s1,s2,s3⟩
  | outgrown=>exact ⟨σ'',S'',m'',β'',q,s1,s2,s3⟩
end
/-! ### Regions -/
structure CO where
  dst:Option Nat
  guard:Option (Nat × Bool)
  op:COp
deriving Inhabited
def zZ (ops:Array Oper):Option (Nat × Bool)->Option (Option (Nat × Bool))
  | none=>some none
  | some (j,want)=>match (ops[j]?).bind (·.dst) with
    | some t=>some (some (t,want))
    | none=>none
def Wy (P:Program) (N:Nat) (ops:Array Oper) (o:Oper):Option CO :=
  match Yf P o,zZ ops o.guard with
  | some c,some g=>if o.dst.all (· < N) then some ⟨o.dst,g,c⟩ else none
  | _,_=>none
def qj (P:Program) (N:Nat) (ops:Array Oper):Option (List CO):=ops.toList.mapM (Wy P N ops)
def jT (P:Program) (f:FuncId):Bool :=
  match P.funcs[f]? with
  | some fn => !(fn.name == "runtime.NumGoroutine" || fn.body.isNone)
  | none=>false
def vop (P:Program) (σ:Fr) (S:Store) (op:COp) (k:V->Store->Prop):Prop :=
  match op with
  | .call f args=>VCalls P f (args.map (ev σ)) S k
  | .callv f args=>match ev σ f with
    | .func g caps=>jT P g=true/\VCalls P g (args.map (ev σ)++caps) S k
    | _=>False
  | op=>match jh (ev σ) S op with
    | some (v,S')=>k v S'
    | none=>False
def vseg (P:Program):List CO->(Fr->Store->Prop)->Fr->Store->Prop
  | [],K,σ,S=>K σ S
  | o::r,K,σ,S=>match o.guard with
    | none=>vop P σ S o.op fun v S'=>vseg P r K (σ.put o.dst v) S'
    | some (t,want)=>match σ.lk t with
      | .bool b=>if b=want then vop P σ S o.op fun v S'=>vseg P r K (σ.put o.dst v) S' else vseg P r K (σ.put o.dst (.tuple [])) S
      | .tuple []=>vseg P r K (σ.put o.dst (.tuple [])) S
      | _=>False
theorem Zh {N:Nat} {m:Imm} {β:Objs} {σ:Fr} {a:Act} (hF:FrameRep N m β σ a) {ops:Array Oper} {j t:Nat} (h:(ops[j]?).bind (·.dst)=some t) {b:Bool} (hb:σ.lk t = .bool b) :
    yielded ops a.tmps j=some b:=by
  have hr:=hF.rep t;rw [hb] at hr;have e:=hr.inv_bool;have:a.tmps[t]? = some (.bool b):=by
    rw [aY] at e
    cases hx:a.tmps[t]? with
    | none=>rw [hx] at e; simp [undef] at e
    | some v=>rw [hx] at e; simpa using e
  simp [yielded,h,this]
theorem WB {N:Nat} {m:Imm} {β:Objs} {σ:Fr} {a:Act} (hF:FrameRep N m β σ a) {ops:Array Oper} {j t:Nat} (h:(ops[j]?).bind (·.dst)=some t) (hb:σ.lk t = .tuple []) :
    yielded ops a.tmps j=none:=by
  have hr:=hF.rep t;rw [hb] at hr;obtain ⟨vs,e,hl,_⟩:=hr.inv_tuple;have hv:vs=[]:=by cases vs<;>simp at hl ⊢
  subst hv;simp only [yielded,h,Option.bind_some];rw [aY] at e
  cases hx:a.tmps[t]? with
  | none=>rfl
  | some v=>rw [hx] at e; simp at e; subst e; rfl
theorem ass {P:Program} {N:Nat} {m:Imm} {β:Objs} {w:World} {a:Act} {σ:Fr} {o:Oper} {c:Call} {f:FuncId} {args:List Arg} (ho:o.op = .call c) (hc:Kb P c=some (.call f args)) (hF:FrameRep N m β σ a) :
    ∃ vs:List Value,(execOp a.eval o).run P w = .ok (.enter f vs.toArray) w/\RepL m β (args.map (ev σ)) vs:=by
  obtain ⟨callee,as,argTypes⟩:=c;unfold Kb at hc;split at hc
  .split at hc<;>(try cases hc)<;>(obtain ⟨z,hz,h⟩:=av.1 hc; cases h)
  .split at hc
   .split at hc
    .split at hc
     .split at hc<;>cases hc
     .cases hc
    .cases hc
   .split at hc
    .split at hc
     .split at hc<;>cases hc
     .cases hc
    .cases hc
  .split at hc<;>cases hc
  .split at hc
   .split at hc<;>cases hc
   .cases hc
  .split at hc
   .split at hc<;>cases hc
   .cases hc
  .rename_i f' h1;subst h1;split at hc
   .rename_i fn hfn;split at hc
    .cases hc
    .rename_i hn;obtain ⟨zs,hz,h⟩:=av.1 hc
     cases h
     refine ⟨as.toList.map a.eval, ?_,acu hF hz⟩;simp only [bk,not_or,Bool.not_eq_true] at hn;obtain ⟨hn1,hn2⟩:=hn;have hargs:as.map a.eval=(as.toList.map a.eval).toArray:=by simp [<-Array.toList_map]
     have hn1' : ¬ fn.name = "runtime.NumGoroutine" := by simpa using hn1
     have hn2' : ¬ fn.body=none:=by intro h; simp [h] at hn2
     simp [execOp,ho,resolve,Act.eval,Deferred.ofValue,invoke,callFunc,hfn,hn1',hn2',hargs]
   .cases hc
  .split at hc
   .cases hc
   .cases hc
  .cases hc
theorem air {P:Program} {o:Oper} {co:COp} (h:Yf P o=some co) (hs:co.simple=false) : ∃ c,o.op = .call c/\Kb P c=some co:=by
  unfold Yf at h;split at h <;>
    first
    | exact ⟨_, ‹_›,h⟩
    | (exfalso
       revert hs
       repeat' (first | (split at h))
       all_goals first
         | (cases h; done)
         | (cases h; simp [COp.simple]; done)
         | (obtain ⟨z,hz,hh⟩:=av.1 h; cases hh; simp [COp.simple]; done))
end Go.Vw
