import Derived.Test.YtenhhokhkkfgbaaGreatC3
import Derived.MapKept
import Derived.ChangeKeysEq
import Derived.WideKeyRuns
/- Part of the proof. -/
set_option linter.unusedVariables false
set_option linter.unusedSimpArgs false
/-
 Maps whose keys are whole numbers, over values without addresses.
-/
namespace Go.Vw
open Go.RowKit
section
variable {P:Program} {N:Nat} {S:Store} {m:Imm} {β:Objs} {w:World} {σ:Fr} {a:Act}
theorem YD {d:IntKind} {kk:IntKind} {n:Int} : ∀ (cells:List V) (es:List MapEntry) (i:Nat) (r:Option (Nat × V)),cells.length=es.length ->
  (∀ (i:Nat) (x:V) (e:MapEntry),cells[i]? = some x->es[i]? = some e->EntryRep m β x e)->zp (.int kk n) cells i=some r ->
  (r=none/\Instr.findNow (.int d) (.int kk n) es i=some none) \/
   ∃ j x e,r=some (i+j,x)/\es[j]? = some e/\e.key = .int kk n/\Rep m β x e.val/\Instr.findNow (.int d) (.int kk n) es i=some (some (i+j,e.val))
 | [],es,i,r,hl,hr,h=>by
  cases es with
  | nil=>simp only [zp,ay] at h; exact .inl ⟨h.symm,rfl⟩
  | cons _ _=>simp at hl
 | c::cells,es,i,r,hl,hr,h=>by
  cases es with
  | nil=>simp at hl
  | cons e es =>
   obtain ⟨k,v,rfl,hk,hv⟩:=hr 0 c e rfl rfl;have ih:=YD (d:=d) (kk:=kk) (n:=n) cells es (i+1) r (by simpa using hl) (fun i x e h1 h2=>hr (i+1) x e (by simpa using h1) (by simpa using h2));simp only [zp] at h
   cases k with
   | int k' b =>
    have ek:e.key = .int k' b:=by generalize e.key=q at hk; cases hk; rfl
    simp only [zF] at h
    by_cases e1:kk=k'
    ·subst e1;rw [if_pos rfl] at h
     by_cases e2:n=b
     ·subst e2;simp only [beq_self_eq_true,ay] at h;exact .inr ⟨0,v,e,by rw [<-h]; rfl,rfl,ek,hv,by simp [Instr.findNow,ek,Instr.sameNow]⟩
     ·have e3:(n==b)=false:=by simp [e2]
      simp only [e3] at h;rcases ih h with ⟨h1,h2⟩ | ⟨j,x,e',h1,h2,h3,h4,h5⟩
      ·exact .inl ⟨h1,by simp [Instr.findNow,ek,Instr.sameNow,e3,h2]⟩
      ·exact .inr ⟨j+1,x,e',by rw [h1]; simp; omega,by simpa using h2,h3,h4,by simp [Instr.findNow,ek,Instr.sameNow,e3,h5]; omega⟩
    ·rw [if_neg e1] at h
     cases h
   | _=>simp [zF] at h
theorem Rep.inv_map {o:Nat} {v:Value} (h:Rep m β (.map o) v) (hd:β o ≠ .dead) : ∃ b,β o = .mp b/\v = .map (some b):=by
 cases h with
 | imm h=>cases h
 | mapDead _ _ h=>exact absurd h hd
 | map _ b h=>exact ⟨b,h,rfl⟩
theorem check_int {kt:TypeId} {d:IntKind} (hd:P.underlying kt=some (.int d)) (kk:IntKind) (n:Int) (e:Bool) (q:Nat):(Instr.checkKey e (q+1) kt (.int kk n)).run P w = .ok () w:=by
 unfold Instr.checkKey;simp only [Sem.run_bind,run_underlying hd,Result.andThen]
 rfl
theorem Holds.addMap (h:Holds S m β w):Holds (S.add (0,[])) m (β.set S.nx (.mp w.heap.size)) (w.alloc (.map #[] 0)) /\
  Ext m β w m (β.set S.nx (.mp w.heap.size)) (w.alloc (.map #[] 0))/\(β.set S.nx (.mp w.heap.size)) S.nx = .mp w.heap.size:=by
 have hst:Step β (β.set S.nx (.mp w.heap.size)):=Step.fresh h.nx_fresh _;have hold : ∀ k,k<w.heap.size->(w.alloc (.map #[] 0)).heap[k]? = w.heap[k]? := fun k hk=>_root_.Go.heap_alloc_old w _ hk
 refine ⟨h.new (by intro h; cases h) (fun b o hb=>hold b (h.imm_lt hb)) (fun o b hb=>hold b (h.block_lt hb)) ?_ ?_,⟨fun _ _ h=>h,hst,by simp, ?_,rfl,rfl,rfl⟩,Objs.set_same _ _ _⟩
 ·intro b hb
  cases hb
  refine ⟨?_,fun o ho => ?_⟩
  ·cases hm:m w.heap.size with
   | none=>rfl
   | some o=>exact absurd (h.imm_lt hm) (Nat.lt_irrefl _)
  ·exact absurd (h.block_lt ho) (Nat.lt_irrefl _)
 ·exact ⟨#[],0,heap_alloc_new w _,rfl,by simp⟩
 ·intro b hb hm hn;refine ⟨hold b hb,hm,fun o ho => ?_⟩
  by_cases e:o=S.nx
  ·subst e; rw [Objs.set_same] at ho; simp only [Loc.block?,ay] at ho; omega
  ·rw [Objs.set_other _ _ e] at ho; exact hn o ho
theorem does_makeMap {o:Oper} {t:TypeId} (ho:o.op = .makeMap t none) (hS:Holds S m β w):Does P ((execOp a.eval o).run P w) (.map S.nx) (S.add (0,[])) m β w:=by
 obtain ⟨h1,h2,h3⟩:=hS.addMap;refine ⟨.map (some w.heap.size),_,m,_, .inl ?_,Rep.map (m:=m) S.nx w.heap.size h3,h1,h2⟩;simp [execOp,ho,Instr.makeMap]
theorem jbq {t:TypeId} {z:V} (h:Program.zero1 P t=some z) : ∃ zv,(zeroValue t).run P w = .ok zv w/\RepI m z zv:=by
 unfold Program.zero1 at h;split at h
 ·rename_i i hi;split at h
  ·rename_i zv hz;exact ⟨zv,by simp [zeroValue,typeInfo,hi,hz],jbR h⟩
  ·cases h
 ·cases h
theorem does_lookup {o:Oper} {t kt e:TypeId} {d:IntKind} {z:V} {ok:Bool} {y i:Operand} {yz iz:Arg} {x:V} (ho:o.op = .lookup t y i ok) (ht:P.underlying t=some (.map kt e)) (hd:P.underlying kt=some (.int d))
  (hz:Program.zero1 P e=some z) (hy:jr y=some yz) (hi:jr i=some iz) (hS:Holds S m β w) (hF:FrameRep N m β σ a) (he:qW z ok S (ev σ yz) (ev σ iz)=some x) :
  Does P ((execOp a.eval o).run P w) x S m β w:=by
 have hry:=jA hF hy;have hri:=jA hF hi;generalize ev σ yz=p at he hry;generalize ev σ iz=q at he hri
 cases p with
 | map ob =>
  cases q with
  | int kk n =>
   have ei:=hri.inv_int;simp only [qW] at he
   cases hc:S.get ob with
   | none=>simp [hc] at he
   | some c =>
    simp only [hc] at he;obtain ⟨b,hob,ey⟩:=hry.inv_map (hS.alive hc);have hl:=hS.live ob c hc;rw [hob] at hl;obtain ⟨es,clock,h1,h2,h3⟩:=hl;obtain ⟨zv,hzr,hzv⟩:=jbq (P:=P) (m:=m) (w:=w) hz;have hg:=MapKept.run_getObj_map (P:=P) h1;have hck:=check_int (w:=w) hd kk n es.isEmpty 9999
    cases hlk:zp (.int kk n) c.2 0 with
    | none=>simp [hlk] at he
    | some r =>
     have hf:=YD (d:=d) c.2 es.toList 0 r (by simpa using h2) (fun i x e q1 q2=>h3 i x e q1 (by simpa using q2)) hlk;rw [hlk] at he;rcases hf with ⟨rfl,hfn⟩ | ⟨j,v,e',rfl,g1,g2,g3,hfn⟩
     ·have hfk:=MapKept.run_findKey (P:=P) (w:=w) hd hfn;simp only [ay] at he;subst he
      cases ok with
      | false=>exact Does.same (v:=zv) hS (by simp [execOp,ho,ey,ei,Instr.lookup,run_underlying ht,Result.andThen,hg,hck,hfk,hzr]) (.imm hzv)
      | true =>
       refine Does.same (v := .tuple #[zv, .bool false]) hS (by simp [execOp,ho,ey,ei,Instr.lookup,run_underlying ht,Result.andThen,hg,hck,hfk,hzr]) ?_;exact Rep.tuple [z, .bool false] [zv, .bool false] rfl fun i x v h1 h2=>by
        match i,h1,h2 with
        | 0,h1,h2=>cases h1; cases h2; exact .imm hzv
        | 1,h1,h2=>cases h1; cases h2; exact .imm (.bool _)
     ·have hfk:=MapKept.run_findKey (P:=P) (w:=w) hd hfn;simp only [ay] at he;subst he
      cases ok with
      | false=>exact Does.same (v:=e'.val) hS (by simp [execOp,ho,ey,ei,Instr.lookup,run_underlying ht,Result.andThen,hg,hck,hfk]) g3
      | true =>
       refine Does.same (v := .tuple #[e'.val, .bool true]) hS (by simp [execOp,ho,ey,ei,Instr.lookup,run_underlying ht,Result.andThen,hg,hck,hfk]) ?_;exact Rep.tuple [v, .bool true] [e'.val, .bool true] rfl fun i x v h1 h2=>by
        match i,h1,h2 with
        | 0,h1,h2=>cases h1; cases h2; exact g3
        | 1,h1,h2=>cases h1; cases h2; exact .imm (.bool _)
  | _=>simp [qW] at he
 | _=>simp [qW] at he
theorem Holds.setMap (h:Holds S m β w) {o b:Nat} {c:Nat × List V} (ho:S.get o=some c) (hob:β o = .mp b) {es0:Array MapEntry} {clock0:Nat} (h0:w.heap[b]? = some (.map es0 clock0)) (es:Array MapEntry) (clock:Nat) (cells':List V) (hl:cells'.length=es.size)
  (hr : ∀ (i:Nat) (x:V) (e:MapEntry),cells'[i]? = some x->es[i]? = some e->EntryRep m β x e) :
  Holds (S.upd o (c.1,cells')) m β { w with heap:=w.heap.setIfInBounds b (.map es clock) }/\Ext m β w m β { w with heap:=w.heap.setIfInBounds b (.map es clock) }:=by
 have hbl:(β o).block? = some b:=by rw [hob]; rfl
 obtain ⟨k1,k2⟩:=MapKept.heap_set (o' := .map es clock) h0;refine ⟨h.write ho hbl (fun k hk=>k2 k hk) ?_,⟨fun _ _ h=>h,Step.refl β,by simp,fun k hk hm hnn=>⟨k2 k (fun e=>hnn o (by rw [hbl,e])),hm,hnn⟩,rfl,rfl,rfl⟩⟩;rw [hob];exact ⟨es,clock,k1,hl,hr⟩
theorem Wh {o:Oper} {t kt e:TypeId} {d:IntKind} {y i u:Operand} {yz iz uz:Arg} {S':Store} (ho:o.op = .mapUpdate t y i u) (ht:P.underlying t=some (.map kt e)) (hd:P.underlying kt=some (.int d))
  (hy:jr y=some yz) (hi:jr i=some iz) (hu:jr u=some uz) (hS:Holds S m β w) (hF:FrameRep N m β σ a) (he:qq S (ev σ yz) (ev σ iz) (ev σ uz)=some S') :
  Does P ((execOp a.eval o).run P w) (.tuple []) S' m β w:=by
 have hry:=jA hF hy;have hri:=jA hF hi;have hru:=jA hF hu;generalize ev σ yz=p at he hry;generalize ev σ iz=q at he hri;generalize ev σ uz=v at he hru
 cases p with
 | map ob =>
  cases q with
  | int kk n =>
   have ei:=hri.inv_int;simp only [qq] at he
   cases hc:S.get ob with
   | none=>simp [hc] at he
   | some c =>
    simp only [hc] at he;obtain ⟨b,hob,ey⟩:=hry.inv_map (hS.alive hc);have hl:=hS.live ob c hc;rw [hob] at hl;obtain ⟨es,clock,h1,h2,h3⟩:=hl;have hg:=MapKept.run_getObj_map (P:=P) h1;have hck:=check_int (w:=w) hd kk n false 9999;have hent : ∀ x,x=a.eval u->EntryRep m β (.tuple [.int kk n,v]) { key := .int kk n,val:=x,born:=clock }:=fun x hx=>⟨_,_,rfl, .int _ _,by rw [hx]; exact hru⟩
    cases hlk:zp (.int kk n) c.2 0 with
    | none=>simp [hlk] at he
    | some r =>
     have hf:=YD (d:=d) c.2 es.toList 0 r (by simpa using h2) (fun i x e q1 q2=>h3 i x e q1 (by simpa using q2)) hlk;rw [hlk] at he;rcases hf with ⟨rfl,hfn⟩ | ⟨j,v',e',rfl,g1,g2,g3,hfn⟩
     ·have hfk:=MapKept.run_findKey (P:=P) (w:=w) hd hfn;simp only [ay] at he;subst he;obtain ⟨k1,k2⟩:=hS.setMap hc hob h1 (es.push { key := .int kk n,val:=a.eval u,born:=clock }) (clock+1) (c.2++[.tuple [.int kk n,v]]) (by simp [h2]) (fun i x e q1 q2=>by
       by_cases hie:i<c.2.length
       ·rw [aV hie] at q1;rw [Array.getElem?_push,if_neg (by omega)] at q2;exact h3 i x e q1 q2
       ·rw [bi (by omega)] at q1;have hi0:i-c.2.length=0:=by
         rcases Nat.eq_zero_or_pos (i-c.2.length) with h | h
         ·exact h
         ·rw [aJ (by simp; omega)] at q1; cases q1
        rw [hi0] at q1
        cases q1
        rw [Array.getElem?_push,if_pos (by omega)] at q2
        cases q2
        exact hent _ rfl)
      refine ⟨undef,_,m,β, .inr ⟨?_,rfl⟩,zB m β,k1,k2⟩;simp [execOp,ho,ey,ei,Instr.mapUpdate,run_underlying ht,Result.andThen,hg,hck,hfk,MapKept.run_setObj_map _ h1]
     ·have hfk:=MapKept.run_findKey (P:=P) (w:=w) hd hfn;simp only [ay] at he;subst he;simp only [bd] at hfk;have g1':es[j]? = some e':=by simpa using g1
      obtain ⟨k1,k2⟩:=hS.setMap hc hob h1 (es.modify j fun e=>{ e with key := .int kk n,val:=a.eval u }) clock (c.2.set (0+j) (.tuple [.int kk n,v])) (by simp [h2]) (fun i x e q1 q2=>by
       rw [bd] at q1
       by_cases hij:j=i
       ·subst hij;have hjl:j<c.2.length:=by rw [h2]; exact (Array.getElem?_eq_some_iff.1 g1').1
        rw [aZ hjl] at q1
        cases q1
        rw [Array.getElem?_modify,if_pos rfl,g1'] at q2
        cases q2
        exact ⟨_,_,rfl, .int _ _,hru⟩
       ·rw [aR hij] at q1;rw [Array.getElem?_modify,if_neg hij] at q2;exact h3 i x e q1 q2)
      refine ⟨undef,_,m,β, .inr ⟨?_,rfl⟩,zB m β,k1,k2⟩;simp [execOp,ho,ey,ei,Instr.mapUpdate,run_underlying ht,Result.andThen,hg,hck,hfk,g1',g2,Instr.keyThatStays,Instr.sameBits,MapKept.run_setObj_map _ h1]
  | _=>simp [qq] at he
 | _=>simp [qq] at he
theorem does_insert {o:Oper} {t kt e:TypeId} {d:IntKind} {y i u:Operand} {yz iz uz:Arg} {S':Store} (ho:o.op = .insert t y i u) (ht:P.underlying t=some (.map kt e)) (hd:P.underlying kt=some (.int d))
  (hy:jr y=some yz) (hi:jr i=some iz) (hu:jr u=some uz) (hS:Holds S m β w) (hF:FrameRep N m β σ a) (he:qq S (ev σ yz) (ev σ iz) (ev σ uz)=some S') :
  Does P ((execOp a.eval o).run P w) (.tuple []) S' m β w:=by
 have h:=Wh (o:={ o with op := .mapUpdate t y i u }) (P:=P) (N:=N) rfl ht hd hy hi hu hS hF he;have e:execOp a.eval o=execOp a.eval { o with op := .mapUpdate t y i u }:=by simp [execOp,ho]
 rw [e]; exact h
end
/-! ### Keys of two numbers -/
theorem jaE {P:Program} {t:TypeId} (h:Program.isInt P t=true):(∃ k,P.underlying t=some (.int k))/\P.plainKey t=true:=by
 unfold Program.isInt at h;split at h
 ·rename_i k hk; exact ⟨⟨k,hk⟩,by simp [Program.plainKey,hk]⟩
 ·cases h
theorem Ku {P : Program} {kt : TypeId} (h : Program.pairKey P kt = true) : ∃ f g, P.underlying kt = some (.struct #[f, g]) ∧ P.stoodInHeld kt = false ∧ f.name ≠ "_" ∧ g.name ≠ "_" ∧ f.offset = 0 ∧ g.offset = 1 ∧ (∃ k, P.underlying f.type = some (.int k)) ∧ P.plainKey f.type = true ∧ (∃ k, P.underlying g.type = some (.int k)) ∧ P.plainKey g.type = true := by
 unfold Program.pairKey at h;split at h
 ·rename_i fs hfs;simp only [af,Bool.not_eq_true'] at h;obtain ⟨h1,h2⟩:=h;split at h2
  ·rename_i f g hl;simp only [af,bne_iff_ne,ne_eq,beq_iff_eq] at h2;obtain ⟨⟨⟨⟨⟨n1,n2⟩,o1⟩,o2⟩,t1⟩,t2⟩:=h2;obtain ⟨a1,a2⟩:=jaE t1;obtain ⟨b1,b2⟩:=jaE t2;have:fs = #[f,g]:=by rw [<-Array.toArray_toList (xs:=fs),hl]
   subst this;exact ⟨f,g,hfs,h1,n1,n2,o1,o2,a1,a2,b1,b2⟩
  ·cases h2
 ·cases h
section
variable {P:Program} {w:World}
theorem jbU {kt:TypeId} (h:Program.pairKey P kt=true) (a b:Int) (e:Bool):(Instr.checkKey e 10000 kt (.agg #[.int .i64 a, .int .i64 b])).run P w = .ok () w:=by
 obtain ⟨f,g,hu,hs,n1,n2,o1,o2,⟨k1,u1⟩,p1,⟨k2,u2⟩,p2⟩:=Ku h;have q1:(part f.type #[.int .i64 a, .int .i64 b] f.offset).run P w = .ok (.int .i64 a) w:=run_part_plain w p1 (by rw [o1]; rfl);have q2:(part g.type #[.int .i64 a, .int .i64 b] g.offset).run P w = .ok (.int .i64 b) w:=run_part_plain w p2 (by rw [o2]; rfl);have c : ∀ (t:TypeId) (k:IntKind) (x:Int) n,P.underlying t=some (.int k)->(Instr.checkKey e (n+1) t (.int .i64 x)).run P w = .ok () w:=by
  intro t k x n hu;unfold Instr.checkKey;simp only [Sem.run_bind,run_underlying hu,Result.andThen]
  rfl
 have c1:=c f.type k1 a 9998 u1;have c2:=c g.type k2 b 9998 u2;rw [show (10000:Nat)=9999+1 from rfl,Instr.checkKey];simp only [Sem.run_bind,run_underlying hu,Result.andThen_ok];rw [<-Array.forIn_toList];simp only [List.forIn_cons,List.forIn_nil,Sem.run_bind,n1,n2,ne_eq,not_false_eq_true,if_true,Result.andThen_ok,q1,q2,c1,c2,Sem.run_pure]
theorem equal_pair {kt:TypeId} (h:Program.pairKey P kt=true) (a b a' b':Int):(Op.equal kt (.agg #[.int .i64 a, .int .i64 b]) (.agg #[.int .i64 a', .int .i64 b'])).run P w = .ok (a==a'&&b==b') w:=by
 obtain ⟨f,g,hu,hs,n1,n2,o1,o2,⟨k1,u1⟩,p1,⟨k2,u2⟩,p2⟩:=Ku h;have q1 : ∀ a b,(part f.type #[.int .i64 a, .int .i64 b] f.offset).run P w = .ok (.int .i64 a) w:=fun a b=>run_part_plain w p1 (by rw [o1]; rfl)
 have q2 : ∀ a b,(part g.type #[.int .i64 a, .int .i64 b] g.offset).run P w = .ok (.int .i64 b) w:=fun a b=>run_part_plain w p2 (by rw [o2]; rfl)
 have c : ∀ (t:TypeId) (k:IntKind) (x y:Int) n,P.underlying t=some (.int k)->(Op.equalIn (n+1) t (.int .i64 x) (.int .i64 y)).run P w = .ok (x==y) w:=by
  intro t k x y n hu;unfold Op.equalIn;simp only [Sem.run_bind,run_underlying hu,Result.andThen];simp
 have c1:=fun x y=>c f.type k1 x y 9998 u1
 have c2:=fun x y=>c g.type k2 x y 9998 u2
 show (Op.equalIn (9999+1) kt _ _).run P w=_;unfold Op.equalIn;simp only [Sem.run_bind,run_underlying hu,Result.andThen_ok,run_program,hs];rw [<-Array.forIn_toList]
 by_cases e1:a=a'<;>by_cases e2:b=b' <;>
 simp [List.forIn_cons,List.forIn_nil,Sem.run_bind,n1,n2,Result.andThen,q1,q2,c1,c2,Sem.run_pure,e1,e2]
theorem Ju {kt:TypeId} (h:Program.pairKey P kt=true) (x:Value) (es:List MapEntry):(Instr.findKey kt x es).run P w=(Instr.findAsking kt x es).run P w:=by
 obtain ⟨f,g,hu,_⟩:=Ku h;exact run_findKey_eq w (by simp [hu]) x es
end
section
variable {P:Program} {N:Nat} {S:Store} {m:Imm} {β:Objs} {w:World} {σ:Fr} {a:Act}
theorem rep_pair {x y:Int} {v:Value} (h:RepI m (.agg [.int .i64 x, .int .i64 y]) v):v = .agg #[.int .i64 x, .int .i64 y]:=by
 cases h with
 | agg xs vs hl hr h1 =>
  match vs,hl with
  | [u,z],_ =>
   have h2:=hr 0 _ _ rfl rfl;have h3:=hr 1 _ _ rfl rfl
   cases h2; cases h3; rfl
theorem Rep.inv_pair {x y:Int} {v:Value} (h:Rep m β (.agg [.int .i64 x, .int .i64 y]) v):v = .agg #[.int .i64 x, .int .i64 y]:=by
 cases h with
 | imm h=>exact rep_pair h
 | agg xs vs hl hr h1 =>
  match vs,hl with
  | [u,z],_ =>
   have h2:=(hr 0 _ _ rfl rfl).inv_int;have h3:=(hr 1 _ _ rfl rfl).inv_int;subst h2; subst h3; rfl
theorem YB {kt:TypeId} (hp:Program.pairKey P kt=true) {n q:Int} : ∀ (cells:List V) (es:List MapEntry) (i:Nat) (r:Option (Nat × V)),cells.length=es.length ->
  (∀ (i:Nat) (x:V) (e:MapEntry),cells[i]? = some x->es[i]? = some e->EntryRep m β x e)->zp (.agg [.int .i64 n, .int .i64 q]) cells i=some r ->
  (r=none/\(Instr.findAsking kt (.agg #[.int .i64 n, .int .i64 q]) es i).run P w = .ok none w) \/
   ∃ j x e,r=some (i+j,x)/\es[j]? = some e/\e.key = .agg #[.int .i64 n, .int .i64 q]/\Rep m β x e.val/\(Instr.findAsking kt (.agg #[.int .i64 n, .int .i64 q]) es i).run P w = .ok (some (i+j,e.val)) w
 | [],es,i,r,hl,hr,h=>by
  cases es with
  | nil=>simp only [zp,ay] at h; exact .inl ⟨h.symm,by simp [Instr.findAsking]⟩
  | cons _ _=>simp at hl
 | c::cells,es,i,r,hl,hr,h=>by
  cases es with
  | nil=>simp at hl
  | cons e es =>
   obtain ⟨k,v,rfl,hk,hv⟩:=hr 0 c e rfl rfl;have ih:=YB hp (n:=n) (q:=q) cells es (i+1) r (by simpa using hl) (fun i x e h1 h2=>hr (i+1) x e (by simpa using h1) (by simpa using h2));simp only [zp] at h
   cases hks:zF (.agg [.int .i64 n, .int .i64 q]) k with
   | none=>rw [hks] at h; cases h
   | some bb =>
    rw [hks] at h;unfold zF at hks;split at hks
    ·rename V.agg _=V.int _ _=>e1
     cases e1
    ·rename_i a1 b1 a2 b2 e1
     cases e1
     have ek:=rep_pair hk;have heq:=equal_pair (w:=w) hp n q a2 b2;simp only [ay] at hks;rw [hks] at heq
     cases bb with
     | true =>
      simp only [ay] at h;simp only [af,beq_iff_eq] at hks;obtain ⟨rfl,rfl⟩:=hks;exact .inr ⟨0,v,e,by rw [<-h]; rfl,rfl,ek,hv,by simp [Instr.findAsking,ek,heq]⟩
     | false =>
      simp only at h;rcases ih h with ⟨h1,h2⟩ | ⟨j,x,e',h1,h2,h3,h4,h5⟩
      ·exact .inl ⟨h1,by simp [Instr.findAsking,ek,heq,h2]⟩
      ·exact .inr ⟨j+1,x,e',by rw [h1]; simp; omega,by simpa using h2,h3,h4,by simp [Instr.findAsking,ek,heq,h5]; omega⟩
    ·cases hks
theorem does_lookup2 {o:Oper} {t kt e:TypeId} {z:V} {ok:Bool} {y i:Operand} {yz iz:Arg} {x:V} (ho:o.op = .lookup t y i ok) (ht:P.underlying t=some (.map kt e)) {g:Bool} (hpk:g=Kt (P:=P) (kt:=kt) 0)
  (hz:Program.zero1 P e=some z) (hy:jr y=some yz) (hi:jr i=some iz) (hS:Holds S m β w) (hF:FrameRep N m β σ a) (he:Jl g z ok S (ev σ yz) (ev σ iz)=some x) :
  Does P ((execOp a.eval o).run P w) x S m β w:=by
 have hry:=jA hF hy;have hri:=jA hF hi;generalize ev σ yz=p at he hry;generalize ev σ iz=q at he hri;unfold Jl at he;split at he
 ·rename_i ob n1 n2;split at he
  case isFalse=>cases he
  rename_i hg;have hd:Program.pairKey P kt=true:=by rw [<-jbI, <-hpk]; exact hg
  have ei:=hri.inv_pair
  cases hc:S.get ob with
  | none=>simp [hc] at he
  | some c =>
   simp only [hc] at he;obtain ⟨b,hob,ey⟩:=hry.inv_map (hS.alive hc);have hl:=hS.live ob c hc;rw [hob] at hl;obtain ⟨es,clock,h1,h2,h3⟩:=hl;obtain ⟨zv,hzr,hzv⟩:=jbq (P:=P) (m:=m) (w:=w) hz;have hg:=MapKept.run_getObj_map (P:=P) h1;have hck:=jbU (w:=w) hd n1 n2 es.isEmpty
   cases hlk:zp (.agg [.int .i64 n1, .int .i64 n2]) c.2 0 with
   | none=>simp [hlk] at he
   | some r =>
    have hf:=YB (w:=w) hd c.2 es.toList 0 r (by simpa using h2) (fun i x e q1 q2=>h3 i x e q1 (by simpa using q2)) hlk;rw [hlk] at he;rcases hf with ⟨rfl,hfn⟩ | ⟨j,v,e',rfl,g1,g2,g3,hfn⟩
    ·have hfk:=(Ju (w:=w) hd _ _).trans hfn;simp only [ay] at he;subst he
     cases ok with
     | false=>exact Does.same (v:=zv) hS (by simp [execOp,ho,ey,ei,Instr.lookup,run_underlying ht,Result.andThen,hg,hck,hfk,hzr]) (.imm hzv)
     | true =>
      refine Does.same (v := .tuple #[zv, .bool false]) hS (by simp [execOp,ho,ey,ei,Instr.lookup,run_underlying ht,Result.andThen,hg,hck,hfk,hzr]) ?_;exact Rep.tuple [z, .bool false] [zv, .bool false] rfl fun i x v h1 h2=>by
       match i,h1,h2 with
       | 0,h1,h2=>cases h1; cases h2; exact .imm hzv
       | 1,h1,h2=>cases h1; cases h2; exact .imm (.bool _)
    ·have hfk:=(Ju (w:=w) hd _ _).trans hfn;simp only [ay] at he;subst he
     cases ok with
     | false=>exact Does.same (v:=e'.val) hS (by simp [execOp,ho,ey,ei,Instr.lookup,run_underlying ht,Result.andThen,hg,hck,hfk]) g3
     | true =>
      refine Does.same (v := .tuple #[e'.val, .bool true]) hS (by simp [execOp,ho,ey,ei,Instr.lookup,run_underlying ht,Result.andThen,hg,hck,hfk]) ?_;exact Rep.tuple [v, .bool true] [e'.val, .bool true] rfl fun i x v h1 h2=>by
       match i,h1,h2 with
       | 0,h1,h2=>cases h1; cases h2; exact g3
       | 1,h1,h2=>cases h1; cases h2; exact .imm (.bool _)
 ·cases he
theorem repI_pair (m:Imm) (n1 n2:Int):RepI m (.agg [.int .i64 n1, .int .i64 n2]) (.agg #[.int .i64 n1, .int .i64 n2]) :=
 .agg [.int .i64 n1, .int .i64 n2] [.int .i64 n1, .int .i64 n2] rfl (fun i x v h1 h2=>by
  match i,h1,h2 with
  | 0,h1,h2=>cases h1; cases h2; exact .int _ _
  | 1,h1,h2=>cases h1; cases h2; exact .int _ _) (by intro v hv; simp at hv; rcases hv with rfl | rfl<;>rfl)
theorem KA {o:Oper} {t kt e:TypeId} {y i u:Operand} {yz iz uz:Arg} {S':Store} (ho:o.op = .mapUpdate t y i u) (ht:P.underlying t=some (.map kt e)) {g:Bool} (hpk:g=Kt (P:=P) (kt:=kt) 0)
  (hy:jr y=some yz) (hi:jr i=some iz) (hu:jr u=some uz) (hS:Holds S m β w) (hF:FrameRep N m β σ a) (he:zU g S (ev σ yz) (ev σ iz) (ev σ uz)=some S') :
  Does P ((execOp a.eval o).run P w) (.tuple []) S' m β w:=by
 have hry:=jA hF hy;have hri:=jA hF hi;have hru:=jA hF hu;generalize ev σ yz=p at he hry;generalize ev σ iz=q at he hri;generalize ev σ uz=v at he hru;unfold zU at he;split at he
 ·rename_i ob n1 n2;split at he
  case isFalse=>cases he
  rename_i hg;have hd:Program.pairKey P kt=true:=by rw [<-jbI, <-hpk]; exact hg
  have ei:=hri.inv_pair
  cases hc:S.get ob with
  | none=>simp [hc] at he
  | some c =>
   simp only [hc] at he;obtain ⟨b,hob,ey⟩:=hry.inv_map (hS.alive hc);have hl:=hS.live ob c hc;rw [hob] at hl;obtain ⟨es,clock,h1,h2,h3⟩:=hl;have hg:=MapKept.run_getObj_map (P:=P) h1;have hck:=jbU (w:=w) hd n1 n2 false;have hent : ∀ x,x=a.eval u->EntryRep m β (.tuple [.agg [.int .i64 n1, .int .i64 n2],v]) { key := .agg #[.int .i64 n1, .int .i64 n2],val:=x,born:=clock }:=fun x hx=>⟨_,_,rfl,repI_pair _ _ _,by rw [hx]; exact hru⟩
   cases hlk:zp (.agg [.int .i64 n1, .int .i64 n2]) c.2 0 with
   | none=>simp [hlk] at he
   | some r =>
    have hf:=YB (w:=w) hd c.2 es.toList 0 r (by simpa using h2) (fun i x e q1 q2=>h3 i x e q1 (by simpa using q2)) hlk;rw [hlk] at he;rcases hf with ⟨rfl,hfn⟩ | ⟨j,v',e',rfl,g1,g2,g3,hfn⟩
    ·have hfk:=(Ju (w:=w) hd _ _).trans hfn;simp only [ay] at he;subst he;obtain ⟨k1,k2⟩:=hS.setMap hc hob h1 (es.push { key := .agg #[.int .i64 n1, .int .i64 n2],val:=a.eval u,born:=clock }) (clock+1) (c.2++[.tuple [.agg [.int .i64 n1, .int .i64 n2],v]]) (by simp [h2]) (fun i x e q1 q2=>by
      by_cases hie:i<c.2.length
      ·rw [aV hie] at q1;rw [Array.getElem?_push,if_neg (by omega)] at q2;exact h3 i x e q1 q2
      ·rw [bi (by omega)] at q1;have hi0:i-c.2.length=0:=by
        rcases Nat.eq_zero_or_pos (i-c.2.length) with h | h
        ·exact h
        ·rw [aJ (by simp; omega)] at q1; cases q1
       rw [hi0] at q1
       cases q1
       rw [Array.getElem?_push,if_pos (by omega)] at q2
       cases q2
       exact hent _ rfl)
     refine ⟨undef,_,m,β, .inr ⟨?_,rfl⟩,zB m β,k1,k2⟩;simp [execOp,ho,ey,ei,Instr.mapUpdate,run_underlying ht,Result.andThen,hg,hck,hfk,MapKept.run_setObj_map _ h1]
    ·have hfk:=(Ju (w:=w) hd _ _).trans hfn;simp only [ay] at he;subst he;simp only [bd] at hfk;have g1':es[j]? = some e':=by simpa using g1
     obtain ⟨k1,k2⟩:=hS.setMap hc hob h1 (es.modify j fun e=>{ e with key := .agg #[.int .i64 n1, .int .i64 n2],val:=a.eval u }) clock (c.2.set (0+j) (.tuple [.agg [.int .i64 n1, .int .i64 n2],v])) (by simp [h2]) (fun i x e q1 q2=>by
      rw [bd] at q1
      by_cases hij:j=i
      ·subst hij;have hjl:j<c.2.length:=by rw [h2]; exact (Array.getElem?_eq_some_iff.1 g1').1
       rw [aZ hjl] at q1
       cases q1
       rw [Array.getElem?_modify,if_pos rfl,g1'] at q2
       cases q2
       exact ⟨_,_,rfl,repI_pair _ _ _,hru⟩
      ·rw [aR hij] at q1;rw [Array.getElem?_modify,if_neg hij] at q2;exact h3 i x e q1 q2)
     refine ⟨undef,_,m,β, .inr ⟨?_,rfl⟩,zB m β,k1,k2⟩;simp [execOp,ho,ey,ei,Instr.mapUpdate,run_underlying ht,Result.andThen,hg,hck,hfk,g1',g2,Instr.keyThatStays,Instr.sameBits,MapKept.run_setObj_map _ h1]
 ·cases he
theorem does_insert2 {o:Oper} {t kt e:TypeId} {y i u:Operand} {yz iz uz:Arg} {S':Store} (ho:o.op = .insert t y i u) (ht:P.underlying t=some (.map kt e)) {g:Bool} (hpk:g=Kt (P:=P) (kt:=kt) 0)
  (hy:jr y=some yz) (hi:jr i=some iz) (hu:jr u=some uz) (hS:Holds S m β w) (hF:FrameRep N m β σ a) (he:zU g S (ev σ yz) (ev σ iz) (ev σ uz)=some S') :
  Does P ((execOp a.eval o).run P w) (.tuple []) S' m β w:=by
 have h:=KA (o:={ o with op := .mapUpdate t y i u }) (P:=P) (N:=N) rfl ht hpk hy hi hu hS hF he;have e:execOp a.eval o=execOp a.eval { o with op := .mapUpdate t y i u }:=by simp [execOp,ho]
 rw [e]; exact h
theorem does_clear {o:Oper} {t e:TypeId} {i:TypeInfo} {zs:List V} {y:Operand} {yz:Arg} {S':Store} (ho:o.op = .call { callee := .builtin .clear,args := #[y],argTypes := #[t] })
  (hs:Program.slc P t=some (e,i)) (hz:Program.zeroV P e=some zs) (hy:jr y=some yz) (hS:Holds S m β w) (hF:FrameRep N m β σ a)
  (he:Jz i.size zs S (ev σ yz)=some S'):Does P ((execOp a.eval o).run P w) (.tuple []) S' m β w:=by
 obtain ⟨hut,hi⟩:=Jr hs;obtain ⟨i',z,hi',hz',hzs,hzl,hzr⟩:=zK (m:=m) hz;rw [hi] at hi'; cases hi';have hry:=jA hF hy;generalize ev σ yz=p at he hry;have hzv:(zeroValue e).run P w = .ok z w:=by simp [zeroValue,typeInfo,hi,hz']
 have zero : ∀ ad dc,a.eval y = .slice ad 0 dc->Does P ((execOp a.eval o).run P w) (.tuple []) S m β w:=by
  intro ad dc h1;refine Does.same (v := .tuple #[]) hS ?_ (.tuple [] [] rfl (by simp))
  cases ad<;>simp [execOp,ho,resolve,invoke,builtin,Builtin.clear_,h1,run_underlying hut,Result.andThen]
 cases p with
 | nils =>
  simp only [Jz] at he
  cases he
  obtain ⟨ad,e1⟩:=hry.inv_nils;exact zero ad 0 e1
 | slice o' off len =>
  simp only [Jz] at he
  cases hc:S.get o' with
  | none=>simp [hc] at he
  | some c =>
   simp only [hc] at he;split at he
   ·rename_i hle
    cases he
    obtain ⟨ad,cap,e1,hlc,hcm,hcase⟩:=hry.inv_slice (hS.alive hc);have triv:len=0->Does P ((execOp a.eval o).run P w) (.tuple []) (S.upd o' (c.1,jS c.2 off (rep0 zs len))) m β w:=by
     intro h0;subst h0;have e3:S.upd o' (c.1,jS c.2 off (rep0 zs 0))=S:=by
      have e4:rep0 zs 0=[]:=aO (by rw [za,Nat.zero_mul]);refine Store.ext' (funext fun o2 => ?_) rfl;simp only [Store.upd,jS,e4,List.append_nil,aM,Nat.add_zero,List.take_append_drop];split
      ·rename_i e4; subst e4; rw [hc]
      ·rfl
     rw [e3];exact zero ad cap e1
    rcases hcase with ⟨hv,h1,h2⟩ | ⟨b,base,s,n,hob,hcase⟩
    ·exact triv h1
    ·rcases hcase with hcap | ⟨had,hroom⟩
     ·exact triv (by omega)
     ·subst had
      by_cases hl0:len=0
      ·exact triv hl0
      have hzlen:(Builtin.zeroCells z.cells len).toList.length=len*i.size:=by rw [Array.length_toList,size_zeroCells,hzs]
      have hrl:(rep0 zs len).length=len*i.size:=by rw [za,hzl]
      have hpt : ∀ (q:Nat) (x:V) (v:Value),(rep0 zs len)[q]? = some x->(Builtin.zeroCells z.cells len).toList[q]? = some v->RepI m x v/\v.oneCell'=true:=by
       intro q x v hx hv;have hq:q<len*i.size:=by rw [<-hrl]; exact (ae.1 hx).1
       have h0:0<zs.length:=by
        rcases Nat.eq_zero_or_pos zs.length with h | h
        ·rw [hzl] at h; rw [h,Nat.mul_zero] at hq; omega
        ·exact h
       rw [Zy _ _ h0,if_pos (by rw [hzl]; exact hq)] at hx;obtain ⟨u,hu,hr',ho',_⟩:=hzr _ x hx;rw [hzl, <-hzs] at hu;have hv2:v=u:=by
        simp only [Builtin.zeroCells,Array.getElem?_toList,Array.getElem?_map,hzs] at hv;rw [Array.getElem?_range,if_pos hq] at hv;simp only [bl,ay] at hv;rw [<-hv, <-hzs,Array.getElem!_eq_getD,a6,hu]; rfl
       subst hv2;exact ⟨hr',ho'⟩
      obtain ⟨w',g1,g2,g3⟩:=hS.store (P:=P) hc hob off (rep0 zs len) (Builtin.zeroCells z.cells len).toList ⟨by rw [hzlen,hrl],fun q x v hx hv => .imm (hpt q x v hx hv).1⟩ (fun v hv=>by
       obtain ⟨q,hq,e⟩:=a9 hv;have hq2:q<(rep0 zs len).length:=by rw [hrl, <-hzlen]; exact hq
       exact (hpt q _ v (ac hq2) (by rw [ac hq,e])).2) (by rw [hrl]; omega)
      refine ⟨.tuple #[],w',m,β, .inl ?_, .tuple [] [] rfl (by simp),g2,g3⟩;have hg1:=g1
      cases len with
      | zero=>exact absurd rfl hl0
      | succ len =>
       simp [execOp,ho,resolve,invoke,builtin,Builtin.clear_,e1,run_underlying hut,Result.andThen,hzv,g1]
   ·cases he
 | _=>simp [Jz] at he
end
end Go.Vw
