import Derived.Test.YtjkfgakbijjegaaGreatC1
import Derived.MapKept
import Derived.ChangeKeysEq
import Derived.WideKeyRuns
import Derived.Laws.BytesString
import Derived.Lib.SlBytesRow
import Derived.Lib.BufferRead
/- Part of the proof. -/
set_option linter.unusedVariables false
set_option linter.unusedSimpArgs false
namespace Go.Vw
open Go.RowKit
section
variable {P:Program} {N:Nat} {S:Store} {m:Imm} {β:Objs} {w:World} {σ:Fr} {a:Act}
theorem jbC {d:IntKind} {kk:IntKind} {n:Int} : ∀ (cells:List V) (es:List MapEntry) (i:Nat) (r:Option (Nat × V)),cells.length=es.length ->
  (∀ (i:Nat) (x:V) (e:MapEntry),cells[i]? = some x->es[i]? = some e->EntryRep m β x e)->zi (.int kk n) cells i=some r ->
  (r=none/\Instr.findNow (.int d) (.int kk n) es i=some none) \/
   ∃ j x e,r=some (i+j,x)/\es[j]? = some e/\e.key = .int kk n/\Rep m β x e.val/\Instr.findNow (.int d) (.int kk n) es i=some (some (i+j,e.val))
 | [],es,i,r,hl,hr,h=>by
  cases es with
  | nil=>simp only [zi,ar] at h; exact .inl ⟨h.symm,rfl⟩
  | cons _ _=>simp at hl
 | c::cells,es,i,r,hl,hr,h=>by
  cases es with
  | nil=>simp at hl
  | cons e es =>
   obtain ⟨k,v,rfl,hk,hv⟩:=hr 0 c e rfl rfl;have ih:=jbC (d:=d) (kk:=kk) (n:=n) cells es (i+1) r (by simpa using hl) (fun i x e h1 h2=>hr (i+1) x e (by simpa using h1) (by simpa using h2));simp only [zi] at h;cases k with
   | int k' b =>
    have ek:e.key = .int k' b:=by generalize e.key=q at hk; cases hk; rfl
    simp only [zB] at h;by_cases e1:kk=k'
    .subst e1;rw [if_pos rfl] at h;by_cases e2:n=b
     .subst e2;simp only [beq_self_eq_true,ar] at h;exact .inr ⟨0,v,e,by rw [<-h]; rfl,rfl,ek,hv,by simp [Instr.findNow,ek,Instr.sameNow]⟩
     .have e3:(n==b)=false:=by simp [e2]
      simp only [e3] at h;rcases ih h with ⟨h1,h2⟩ | ⟨j,x,e',h1,h2,h3,h4,h5⟩
      .exact .inl ⟨h1,by simp [Instr.findNow,ek,Instr.sameNow,e3,h2]⟩
      .exact .inr ⟨j+1,x,e',by rw [h1]; simp; omega,by simpa using h2,h3,h4,by simp [Instr.findNow,ek,Instr.sameNow,e3,h5]; omega⟩
    .rw [if_neg e1] at h;cases h
   | _=>simp [zB] at h
theorem Rep.inv_map {o:Nat} {v:Value} (h:Rep m β (.map o) v) (hd:β o ≠ .dead) : ∃ b,β o = .mp b/\v = .map (some b):=by
 cases h with
 | imm h=>cases h
 | mapDead _ _ h=>exact absurd h hd
 | map _ b h=>exact ⟨b,h,rfl⟩
theorem abt {kt:TypeId} {d:IntKind} (hd:P.underlying kt=some (.int d)) (kk:IntKind) (n:Int) (e:Bool) (q:Nat):(Instr.checkKey e (q+1) kt (.int kk n)).run P w = .ok () w:=by
 unfold Instr.checkKey;simp only [Sem.run_bind,run_underlying hd,Result.andThen]
 rfl
theorem Holds.addMap (h:Holds S m β w):Holds (S.add (0,[])) m (β.set S.nx (.mp w.heap.size)) (w.alloc (.map #[] 0)) /\
  Ext m β w m (β.set S.nx (.mp w.heap.size)) (w.alloc (.map #[] 0))/\(β.set S.nx (.mp w.heap.size)) S.nx = .mp w.heap.size:=by
 have hst:Step β (β.set S.nx (.mp w.heap.size)):=Step.fresh h.nx_fresh _;have hold : ∀ k,k<w.heap.size->(w.alloc (.map #[] 0)).heap[k]? = w.heap[k]? := fun k hk=>_root_.Go.heap_alloc_old w _ hk;refine ⟨h.new (by intro h; cases h) (fun b o hb=>hold b (h.imm_lt hb)) (fun o b hb=>hold b (h.block_lt hb)) ?_ ?_,⟨fun _ _ h=>h,hst,by simp, ?_,rfl,rfl,rfl⟩,Objs.set_same _ _ _⟩
 .intro b hb;cases hb;refine ⟨?_,fun o ho => ?_⟩
  .cases hm:m w.heap.size with
   | none=>rfl
   | some o=>exact absurd (h.imm_lt hm) (Nat.lt_irrefl _)
  .exact absurd (h.block_lt ho) (Nat.lt_irrefl _)
 .exact ⟨#[],0,heap_alloc_new w _,rfl,by simp⟩
 .intro b hb hm hn;refine ⟨hold b hb,hm,fun o ho => ?_⟩;by_cases e:o=S.nx
  .subst e; rw [Objs.set_same] at ho; simp only [Loc.block?,ar] at ho; omega
  .rw [Objs.set_other _ _ e] at ho; exact hn o ho
theorem aet {o:Oper} {t:TypeId} (ho:o.op = .makeMap t none) (hS:Holds S m β w):Does P ((execOp a.eval o).run P w) (.map S.nx) (S.add (0,[])) m β w:=by
 obtain ⟨h1,h2,h3⟩:=hS.addMap;refine ⟨.map (some w.heap.size),_,m,_, .inl ?_,Rep.map (m:=m) S.nx w.heap.size h3,h1,h2⟩;simp [execOp,ho,Instr.makeMap]
theorem jen {t:TypeId} {z:V} (h:Program.zero1 P t=some z) : ∃ zv,(zeroValue t).run P w = .ok zv w/\RepI m z zv:=by
 unfold Program.zero1 at h;split at h
 .rename_i i hi;split at h
  .rename_i zv hz;exact ⟨zv,by simp [zeroValue,typeInfo,hi,hz],jeW h⟩
  .cases h
 .cases h
theorem aga {o:Oper} {t kt e:TypeId} {d:IntKind} {z:V} {ok:Bool} {y i:Operand} {yz iz:Arg} {x:V} (ho:o.op = .lookup t y i ok) (ht:P.underlying t=some (.map kt e)) (hd:P.underlying kt=some (.int d))
  (hz:Program.zero1 P e=some z) (hy:jC y=some yz) (hi:jC i=some iz) (hS:Holds S m β w) (hF:FrameRep N m β σ a) (he:qQ z ok S (ev σ yz) (ev σ iz)=some x) :
  Does P ((execOp a.eval o).run P w) x S m β w:=by
 have hry:=jM hF hy;have hri:=jM hF hi;generalize ev σ yz=p at he hry;generalize ev σ iz=q at he hri;cases p with
 | map ob =>
  cases q with
  | int kk n =>
   have ei:=hri.inv_int;simp only [qQ] at he;cases hc:S.get ob with
   | none=>simp [hc] at he
   | some c =>
    simp only [hc] at he;obtain ⟨b,hob,ey⟩:=hry.inv_map (hS.alive hc);have hl:=hS.live ob c hc;rw [hob] at hl;obtain ⟨es,clock,h1,h2,h3⟩:=hl;obtain ⟨zv,hzr,hzv⟩:=jen (P:=P) (m:=m) (w:=w) hz;have hg:=MapKept.run_getObj_map (P:=P) h1;have hck:=abt (w:=w) hd kk n es.isEmpty 9999;cases hlk:zi (.int kk n) c.2 0 with
    | none=>simp [hlk] at he
    | some r =>
     have hf:=jbC (d:=d) c.2 es.toList 0 r (by simpa using h2) (fun i x e q1 q2=>h3 i x e q1 (by simpa using q2)) hlk;rw [hlk] at he;rcases hf with ⟨rfl,hfn⟩ | ⟨j,v,e',rfl,g1,g2,g3,hfn⟩
     .have hfk:=MapKept.run_findKey (P:=P) (w:=w) hd hfn;simp only [ar] at he;subst he;cases ok with
      | false=>exact Does.same (v:=zv) hS (by simp [execOp,ho,ey,ei,Instr.lookup,run_underlying ht,Result.andThen,hg,hck,hfk,hzr]) (.imm hzv)
      | true =>
       refine Does.same (v := .tuple #[zv, .bool false]) hS (by simp [execOp,ho,ey,ei,Instr.lookup,run_underlying ht,Result.andThen,hg,hck,hfk,hzr]) ?_;exact Rep.tuple [z, .bool false] [zv, .bool false] rfl fun i x v h1 h2=>by
        match i,h1,h2 with
        | 0,h1,h2=>cases h1; cases h2; exact .imm hzv
        | 1,h1,h2=>cases h1; cases h2; exact .imm (.bool _)
     .have hfk:=MapKept.run_findKey (P:=P) (w:=w) hd hfn;simp only [ar] at he;subst he;cases ok with
      | false=>exact Does.same (v:=e'.val) hS (by simp [execOp,ho,ey,ei,Instr.lookup,run_underlying ht,Result.andThen,hg,hck,hfk]) g3
      | true =>
       refine Does.same (v := .tuple #[e'.val, .bool true]) hS (by simp [execOp,ho,ey,ei,Instr.lookup,run_underlying ht,Result.andThen,hg,hck,hfk]) ?_;exact Rep.tuple [v, .bool true] [e'.val, .bool true] rfl fun i x v h1 h2=>by
        match i,h1,h2 with
        | 0,h1,h2=>cases h1; cases h2; exact g3
        | 1,h1,h2=>cases h1; cases h2; exact .imm (.bool _)
  | _=>simp [qQ] at he
 | _=>simp [qQ] at he
theorem Holds.setMap (h:Holds S m β w) {o b:Nat} {c:Nat × List V} (ho:S.get o=some c) (hob:β o = .mp b) {es0:Array MapEntry} {clock0:Nat} (h0:w.heap[b]? = some (.map es0 clock0)) (es:Array MapEntry) (clock:Nat) (cells':List V) (hl:cells'.length=es.size)
  (hr : ∀ (i:Nat) (x:V) (e:MapEntry),cells'[i]? = some x->es[i]? = some e->EntryRep m β x e) :
  Holds (S.upd o (c.1,cells')) m β { w with heap:=w.heap.setIfInBounds b (.map es clock) }/\Ext m β w m β { w with heap:=w.heap.setIfInBounds b (.map es clock) }:=by
 have hbl:(β o).block? = some b:=by rw [hob]; rfl
 obtain ⟨k1,k2⟩:=MapKept.heap_set (o' := .map es clock) h0;refine ⟨h.write ho hbl (fun k hk=>k2 k hk) ?_,⟨fun _ _ h=>h,Step.refl β,by simp,fun k hk hm hnn=>⟨k2 k (fun e=>hnn o (by rw [hbl,e])),hm,hnn⟩,rfl,rfl,rfl⟩⟩;rw [hob];exact ⟨es,clock,k1,hl,hr⟩
theorem ZT {o:Oper} {t kt e:TypeId} {d:IntKind} {y i u:Operand} {yz iz uz:Arg} {S':Store} (ho:o.op = .mapUpdate t y i u) (ht:P.underlying t=some (.map kt e)) (hd:P.underlying kt=some (.int d))
  (hy:jC y=some yz) (hi:jC i=some iz) (hu:jC u=some uz) (hS:Holds S m β w) (hF:FrameRep N m β σ a) (he:qt S (ev σ yz) (ev σ iz) (ev σ uz)=some S') :
  Does P ((execOp a.eval o).run P w) (.tuple []) S' m β w:=by
 have hry:=jM hF hy;have hri:=jM hF hi;have hru:=jM hF hu;generalize ev σ yz=p at he hry;generalize ev σ iz=q at he hri;generalize ev σ uz=v at he hru;cases p with
 | map ob =>
  cases q with
  | int kk n =>
   have ei:=hri.inv_int;simp only [qt] at he;cases hc:S.get ob with
   | none=>simp [hc] at he
   | some c =>
    simp only [hc] at he;obtain ⟨b,hob,ey⟩:=hry.inv_map (hS.alive hc);have hl:=hS.live ob c hc;rw [hob] at hl;obtain ⟨es,clock,h1,h2,h3⟩:=hl;have hg:=MapKept.run_getObj_map (P:=P) h1;have hck:=abt (w:=w) hd kk n false 9999;have hent : ∀ x,x=a.eval u->EntryRep m β (.tuple [.int kk n,v]) { key := .int kk n,val:=x,born:=clock }:=fun x hx=>⟨_,_,rfl, .int _ _,by rw [hx]; exact hru⟩
    cases hlk:zi (.int kk n) c.2 0 with
    | none=>simp [hlk] at he
    | some r =>
     have hf:=jbC (d:=d) c.2 es.toList 0 r (by simpa using h2) (fun i x e q1 q2=>h3 i x e q1 (by simpa using q2)) hlk;rw [hlk] at he;rcases hf with ⟨rfl,hfn⟩ | ⟨j,v',e',rfl,g1,g2,g3,hfn⟩
     .have hfk:=MapKept.run_findKey (P:=P) (w:=w) hd hfn;simp only [ar] at he;subst he;obtain ⟨k1,k2⟩:=hS.setMap hc hob h1 (es.push { key := .int kk n,val:=a.eval u,born:=clock }) (clock+1) (c.2++[.tuple [.int kk n,v]]) (by simp [h2]) (fun i x e q1 q2=>by
       by_cases hie:i<c.2.length
       .rw [aL hie] at q1;rw [Array.getElem?_push,if_neg (by omega)] at q2;exact h3 i x e q1 q2
       .rw [aV (by omega)] at q1;have hi0:i-c.2.length=0:=by
         rcases Nat.eq_zero_or_pos (i-c.2.length) with h | h
         .exact h
         .rw [aC (by simp; omega)] at q1; cases q1
        rw [hi0] at q1;cases q1;rw [Array.getElem?_push,if_pos (by omega)] at q2;cases q2;exact hent _ rfl)
      refine ⟨undef,_,m,β, .inr ⟨?_,rfl⟩,zR m β,k1,k2⟩;simp [execOp,ho,ey,ei,Instr.mapUpdate,run_underlying ht,Result.andThen,hg,hck,hfk,MapKept.run_setObj_map _ h1]
     .have hfk:=MapKept.run_findKey (P:=P) (w:=w) hd hfn;simp only [ar] at he;subst he;simp only [aS] at hfk;have g1':es[j]? = some e':=by simpa using g1
      obtain ⟨k1,k2⟩:=hS.setMap hc hob h1 (es.modify j fun e=>{ e with key := .int kk n,val:=a.eval u }) clock (c.2.set (0+j) (.tuple [.int kk n,v])) (by simp [h2]) (fun i x e q1 q2=>by
       rw [aS] at q1;by_cases hij:j=i
       .subst hij;have hjl:j<c.2.length:=by rw [h2]; exact (Array.getElem?_eq_some_iff.1 g1').1
        rw [List.getElem?_set_self hjl] at q1;cases q1;rw [Array.getElem?_modify,if_pos rfl,g1'] at q2;cases q2;exact ⟨_,_,rfl, .int _ _,hru⟩
       .rw [List.getElem?_set_ne hij] at q1;rw [Array.getElem?_modify,if_neg hij] at q2;exact h3 i x e q1 q2)
      refine ⟨undef,_,m,β, .inr ⟨?_,rfl⟩,zR m β,k1,k2⟩;simp [execOp,ho,ey,ei,Instr.mapUpdate,run_underlying ht,Result.andThen,hg,hck,hfk,g1',g2,Instr.keyThatStays,Instr.sameBits,MapKept.run_setObj_map _ h1]
  | _=>simp [qt] at he
 | _=>simp [qt] at he
theorem aft {o:Oper} {t kt e:TypeId} {d:IntKind} {y i u:Operand} {yz iz uz:Arg} {S':Store} (ho:o.op = .insert t y i u) (ht:P.underlying t=some (.map kt e)) (hd:P.underlying kt=some (.int d))
  (hy:jC y=some yz) (hi:jC i=some iz) (hu:jC u=some uz) (hS:Holds S m β w) (hF:FrameRep N m β σ a) (he:qt S (ev σ yz) (ev σ iz) (ev σ uz)=some S') :
  Does P ((execOp a.eval o).run P w) (.tuple []) S' m β w:=by
 have h:=ZT (o:={ o with op := .mapUpdate t y i u }) (P:=P) (N:=N) rfl ht hd hy hi hu hS hF he;have e:execOp a.eval o=execOp a.eval { o with op := .mapUpdate t y i u }:=by simp [execOp,ho]
 rw [e]; exact h
end
section
variable {P:Program} {w:World}
theorem Kq {kt:TypeId} (h:Program.pairKey P kt=true):P.underlying kt=some .string:=by
 unfold Program.pairKey at h;split at h
 .assumption
 .cases h
theorem jdT (a b:ByteArray):(a==b)=decide (a=b):=by
 cases a with | mk a=>cases b with | mk b =>
 show (a==b)=_;rw [Bool.eq_iff_iff]; simp
theorem jeZ {kt:TypeId} (h:Program.pairKey P kt=true) (s:ByteArray) (e:Bool):(Instr.checkKey e 10000 kt (.string s)).run P w = .ok () w:=by
 have hu:=Kq h;rw [show (10000:Nat)=9999+1 from rfl];unfold Instr.checkKey;simp only [Sem.run_bind,run_underlying hu,Result.andThen]
 rfl
end
section
variable {P:Program} {N:Nat} {S:Store} {m:Imm} {β:Objs} {w:World} {σ:Fr} {a:Act}
theorem jbA {n:ByteArray} : ∀ (cells:List V) (es:List MapEntry) (i:Nat) (r:Option (Nat × V)),cells.length=es.length ->
  (∀ (i:Nat) (x:V) (e:MapEntry),cells[i]? = some x->es[i]? = some e->EntryRep m β x e)->zi (.str n) cells i=some r ->
  (r=none/\Instr.findNow .string (.string n) es i=some none) \/
   ∃ j x e,r=some (i+j,x)/\es[j]? = some e/\e.key = .string n/\Rep m β x e.val/\Instr.findNow .string (.string n) es i=some (some (i+j,e.val))
 | [],es,i,r,hl,hr,h=>by
  cases es with
  | nil=>simp only [zi,ar] at h; exact .inl ⟨h.symm,rfl⟩
  | cons _ _=>simp at hl
 | c::cells,es,i,r,hl,hr,h=>by
  cases es with
  | nil=>simp at hl
  | cons e es =>
   obtain ⟨k,v,rfl,hk,hv⟩:=hr 0 c e rfl rfl;have ih:=jbA (n:=n) cells es (i+1) r (by simpa using hl) (fun i x e h1 h2=>hr (i+1) x e (by simpa using h1) (by simpa using h2));simp only [zi] at h;cases k with
   | str b =>
    have ek:e.key = .string b:=by generalize e.key=q at hk; cases hk; rfl
    simp only [zB] at h;by_cases e2:n=b
    .subst e2;have e3:(n==n)=true:=by rw [jdT]; simp
     rw [e3] at h;simp only [ar] at h;exact .inr ⟨0,v,e,by rw [<-h]; rfl,rfl,ek,hv,by simp [Instr.findNow,ek,Instr.sameNow,e3]⟩
    .have e3:(n==b)=false:=by rw [jdT]; simp [e2]
     simp only [e3] at h;rcases ih h with ⟨h1,h2⟩ | ⟨j,x,e',h1,h2,h3,h4,h5⟩
     .exact .inl ⟨h1,by simp [Instr.findNow,ek,Instr.sameNow,e3,h2]⟩
     .exact .inr ⟨j+1,x,e',by rw [h1]; simp; omega,by simpa using h2,h3,h4,by simp [Instr.findNow,ek,Instr.sameNow,e3,h5]; omega⟩
   | _=>simp [zB] at h
theorem aeg {o:Oper} {t kt e:TypeId} {z:V} {ok:Bool} {y i:Operand} {yz iz:Arg} {x:V} (ho:o.op = .lookup t y i ok) (ht:P.underlying t=some (.map kt e)) {g:Bool} (hpk:g=Wi (P:=P) (kt:=kt) 0)
  (hz:Program.zero1 P e=some z) (hy:jC y=some yz) (hi:jC i=some iz) (hS:Holds S m β w) (hF:FrameRep N m β σ a) (he:zZ g z ok S (ev σ yz) (ev σ iz)=some x) :
  Does P ((execOp a.eval o).run P w) x S m β w:=by
 have hry:=jM hF hy;have hri:=jM hF hi;generalize ev σ yz=p at he hry;generalize ev σ iz=q at he hri;unfold zZ at he;split at he
 .rename_i ob n1;split at he
  case isFalse=>cases he
  rename_i hg;have hd:Program.pairKey P kt=true:=by rw [<-jbp, <-hpk]; exact hg
  have ei:=hri.inv_str;cases hc:S.get ob with
  | none=>simp [hc] at he
  | some c =>
   simp only [hc] at he;obtain ⟨b,hob,ey⟩:=hry.inv_map (hS.alive hc);have hl:=hS.live ob c hc;rw [hob] at hl;obtain ⟨es,clock,h1,h2,h3⟩:=hl;obtain ⟨zv,hzr,hzv⟩:=jen (P:=P) (m:=m) (w:=w) hz;have hg:=MapKept.run_getObj_map (P:=P) h1;have hck:=jeZ (w:=w) hd n1 es.isEmpty;cases hlk:zi (.str n1) c.2 0 with
   | none=>simp [hlk] at he
   | some r =>
    have hf:=jbA c.2 es.toList 0 r (by simpa using h2) (fun i x e q1 q2=>h3 i x e q1 (by simpa using q2)) hlk;rw [hlk] at he;rcases hf with ⟨rfl,hfn⟩ | ⟨j,v,e',rfl,g1,g2,g3,hfn⟩
    .have hfk:=MapKept.run_findKey (P:=P) (w:=w) (Kq hd) hfn;simp only [ar] at he;subst he;cases ok with
     | false=>exact Does.same (v:=zv) hS (by simp [execOp,ho,ey,ei,Instr.lookup,run_underlying ht,Result.andThen,hg,hck,hfk,hzr]) (.imm hzv)
     | true =>
      refine Does.same (v := .tuple #[zv, .bool false]) hS (by simp [execOp,ho,ey,ei,Instr.lookup,run_underlying ht,Result.andThen,hg,hck,hfk,hzr]) ?_;exact Rep.tuple [z, .bool false] [zv, .bool false] rfl fun i x v h1 h2=>by
       match i,h1,h2 with
       | 0,h1,h2=>cases h1; cases h2; exact .imm hzv
       | 1,h1,h2=>cases h1; cases h2; exact .imm (.bool _)
    .have hfk:=MapKept.run_findKey (P:=P) (w:=w) (Kq hd) hfn;simp only [ar] at he;subst he;cases ok with
     | false=>exact Does.same (v:=e'.val) hS (by simp [execOp,ho,ey,ei,Instr.lookup,run_underlying ht,Result.andThen,hg,hck,hfk]) g3
     | true =>
      refine Does.same (v := .tuple #[e'.val, .bool true]) hS (by simp [execOp,ho,ey,ei,Instr.lookup,run_underlying ht,Result.andThen,hg,hck,hfk]) ?_;exact Rep.tuple [v, .bool true] [e'.val, .bool true] rfl fun i x v h1 h2=>by
       match i,h1,h2 with
       | 0,h1,h2=>cases h1; cases h2; exact g3
       | 1,h1,h2=>cases h1; cases h2; exact .imm (.bool _)
 .cases he
theorem Zk {o:Oper} {t kt e:TypeId} {y i u:Operand} {yz iz uz:Arg} {S':Store} (ho:o.op = .mapUpdate t y i u) (ht:P.underlying t=some (.map kt e)) {g:Bool} (hpk:g=Wi (P:=P) (kt:=kt) 0)
  (hy:jC y=some yz) (hi:jC i=some iz) (hu:jC u=some uz) (hS:Holds S m β w) (hF:FrameRep N m β σ a) (he:zJ g S (ev σ yz) (ev σ iz) (ev σ uz)=some S') :
  Does P ((execOp a.eval o).run P w) (.tuple []) S' m β w:=by
 have hry:=jM hF hy;have hri:=jM hF hi;have hru:=jM hF hu;generalize ev σ yz=p at he hry;generalize ev σ iz=q at he hri;generalize ev σ uz=v at he hru;unfold zJ at he;split at he
 .rename_i ob n1;split at he
  case isFalse=>cases he
  rename_i hg;have hd:Program.pairKey P kt=true:=by rw [<-jbp, <-hpk]; exact hg
  have ei:=hri.inv_str;cases hc:S.get ob with
  | none=>simp [hc] at he
  | some c =>
   simp only [hc] at he;obtain ⟨b,hob,ey⟩:=hry.inv_map (hS.alive hc);have hl:=hS.live ob c hc;rw [hob] at hl;obtain ⟨es,clock,h1,h2,h3⟩:=hl;have hg:=MapKept.run_getObj_map (P:=P) h1;have hck:=jeZ (w:=w) hd n1 false;have hent : ∀ x,x=a.eval u->EntryRep m β (.tuple [.str n1,v]) { key := .string n1,val:=x,born:=clock }:=fun x hx=>⟨_,_,rfl,RepI.str _,by rw [hx]; exact hru⟩
   cases hlk:zi (.str n1) c.2 0 with
   | none=>simp [hlk] at he
   | some r =>
    have hf:=jbA c.2 es.toList 0 r (by simpa using h2) (fun i x e q1 q2=>h3 i x e q1 (by simpa using q2)) hlk;rw [hlk] at he;rcases hf with ⟨rfl,hfn⟩ | ⟨j,v',e',rfl,g1,g2,g3,hfn⟩
    .have hfk:=MapKept.run_findKey (P:=P) (w:=w) (Kq hd) hfn;simp only [ar] at he;subst he;obtain ⟨k1,k2⟩:=hS.setMap hc hob h1 (es.push { key := .string n1,val:=a.eval u,born:=clock }) (clock+1) (c.2++[.tuple [.str n1,v]]) (by simp [h2]) (fun i x e q1 q2=>by
      by_cases hie:i<c.2.length
      .rw [aL hie] at q1;rw [Array.getElem?_push,if_neg (by omega)] at q2;exact h3 i x e q1 q2
      .rw [aV (by omega)] at q1;have hi0:i-c.2.length=0:=by
        rcases Nat.eq_zero_or_pos (i-c.2.length) with h | h
        .exact h
        .rw [aC (by simp; omega)] at q1; cases q1
       rw [hi0] at q1;cases q1;rw [Array.getElem?_push,if_pos (by omega)] at q2;cases q2;exact hent _ rfl)
     refine ⟨undef,_,m,β, .inr ⟨?_,rfl⟩,zR m β,k1,k2⟩;simp [execOp,ho,ey,ei,Instr.mapUpdate,run_underlying ht,Result.andThen,hg,hck,hfk,MapKept.run_setObj_map _ h1]
    .have hfk:=MapKept.run_findKey (P:=P) (w:=w) (Kq hd) hfn;simp only [ar] at he;subst he;simp only [aS] at hfk;have g1':es[j]? = some e':=by simpa using g1
     obtain ⟨k1,k2⟩:=hS.setMap hc hob h1 (es.modify j fun e=>{ e with key := .string n1,val:=a.eval u }) clock (c.2.set (0+j) (.tuple [.str n1,v])) (by simp [h2]) (fun i x e q1 q2=>by
      rw [aS] at q1;by_cases hij:j=i
      .subst hij;have hjl:j<c.2.length:=by rw [h2]; exact (Array.getElem?_eq_some_iff.1 g1').1
       rw [List.getElem?_set_self hjl] at q1;cases q1;rw [Array.getElem?_modify,if_pos rfl,g1'] at q2;cases q2;exact ⟨_,_,rfl,RepI.str _,hru⟩
      .rw [List.getElem?_set_ne hij] at q1;rw [Array.getElem?_modify,if_neg hij] at q2;exact h3 i x e q1 q2)
     refine ⟨undef,_,m,β, .inr ⟨?_,rfl⟩,zR m β,k1,k2⟩;simp [execOp,ho,ey,ei,Instr.mapUpdate,run_underlying ht,Result.andThen,hg,hck,hfk,g1',g2,Instr.keyThatStays,Instr.sameBits,jdT,MapKept.run_setObj_map _ h1]
 .cases he
theorem acx {o:Oper} {t kt e:TypeId} {y i u:Operand} {yz iz uz:Arg} {S':Store} (ho:o.op = .insert t y i u) (ht:P.underlying t=some (.map kt e)) {g:Bool} (hpk:g=Wi (P:=P) (kt:=kt) 0)
  (hy:jC y=some yz) (hi:jC i=some iz) (hu:jC u=some uz) (hS:Holds S m β w) (hF:FrameRep N m β σ a) (he:zJ g S (ev σ yz) (ev σ iz) (ev σ uz)=some S') :
  Does P ((execOp a.eval o).run P w) (.tuple []) S' m β w:=by
 have h:=Zk (o:={ o with op := .mapUpdate t y i u }) (P:=P) (N:=N) rfl ht hpk hy hi hu hS hF he;have e:execOp a.eval o=execOp a.eval { o with op := .mapUpdate t y i u }:=by simp [execOp,ho]
 rw [e]; exact h
end
section
variable {P:Program} {N:Nat} {S:Store} {m:Imm} {β:Objs} {w:World} {σ:Fr} {a:Act}
theorem ab9 : ∀ xs:List V,xs.all jbF=true->xs=(xs.map numV).map (V.int .u8)
 | [],_=>rfl
 | x::xs,h=>by
  simp only [List.all_cons,ae] at h;have ih:=ab9 xs h.2;obtain ⟨n,rfl⟩ : ∃ n,x = .int .u8 n:=by
   cases x with
   | int k n=>cases k<;>first | exact ⟨n,rfl⟩ | (simp [jbF] at h)
   | _=>simp [jbF] at h
  simp only [List.map_cons,numV];rw [<-ih]
theorem aho {o:Oper} {s d e:TypeId} {y:Operand} {yz:Arg} {x:V} (ho:o.op = .convert s d y) (hs:P.underlying s=some (.slice e)) (hd:P.underlying d=some .string) (he8:P.underlying e=some (.int .u8)) (hy:jC y=some yz)
  (hS:Holds S m β w) (hF:FrameRep N m β σ a) (he:Zd (ev σ yz)=some x):Does P ((execOp a.eval o).run P w) x S m β w:=by
 have r1:=jM hF hy;generalize ev σ yz=p at he r1;cases p with
 | list xs =>
  simp only [Zd] at he;split at he
  .rename_i hall;cases he;have hxs:=ab9 xs hall;obtain ⟨ns,hns⟩ : ∃ ns,ns=xs.map numV:=⟨_,rfl⟩
   rw [<-hns] at hxs ⊢;have hsrc:qb 1 S (.list xs)=some (xs,xs.length):=by
    have h1:xs.all (fun x=>x.ncells==1)=true:=by rw [hxs]; simp [V.ncells]
    have h2:xs.flatMap V.cells=xs:=by
     rw [hxs];clear hxs hns hall r1
     induction ns with
     | nil=>rfl
     | cons n ns ih=>rw [List.map_cons,List.flatMap_cons,ih]; rfl
    simp only [qb,h1,if_true,h2]
   obtain ⟨ad2,c2,e2,hk2,hcm2,vs,hvl,hvr,hvo,hvc⟩:=jfs hS r1 hsrc;rw [Nat.mul_one] at hvl;have hvs:vs=ns.map (Value.int .u8):=by
    have hnl:ns.length=vs.length:=by rw [hvl,hxs,aB]
    refine List.ext_getElem (by rw [aB,hnl]) fun j h1 h2 => ?_;have h3:j<ns.length:=by omega
    have hx:xs[j]? = some (V.int .u8 ns[j]):=by rw [hxs]; simp [h3]
    have:=(hvr.2 j _ _ hx (aa h1)).inv_int;rw [this,List.getElem_map]
   refine Does.same hS (v := .string (strV ns)) ?_ (.imm (.str _));have hconv:(convert s d (.slice ad2 xs.length c2)).run P w = .ok (.string (strV ns)) w:=by
    cases ad2 with
    | none =>
     have h0:vs=[]:=by
      rcases hvc with h | ⟨b,off,h,_⟩
      .exact h
      .cases h
     have hn0:ns=[]:=by
      rw [h0] at hvs;exact List.map_eq_nil_iff.1 hvs.symm
     have hx0:xs.length=0:=by rw [<-hvl,h0]; rfl
     rw [hx0,hn0];exact Lib.run_convert_nil_bytes w s d e c2 hs he8 hd
    | some ad =>
     rw [run_convert_bytes_string w s d e (some ad) xs.length c2 hs he8 hd];refine run_bytesToString w ad xs.length c2 ns ?_;have:=Jo (P:=P) (w:=w) (s:=1) (n:=xs.length) (k:=xs.length) (v := .slice (some ad) xs.length c2) (vs:=vs) rfl (aT _) (by rw [hvl,Nat.mul_one]) hvc;rw [List.take_of_length_le (by omega),hvs] at this;simpa [Builtin.firstCells] using this
   simp [execOp,ho,e2,hconv]
  .cases he
 | _=>simp [Zd] at he
end
section
variable {P:Program} {N:Nat} {S:Store} {m:Imm} {β:Objs} {w:World} {σ:Fr} {a:Act}
theorem ao5 {o:Oper} {t e:TypeId} {y:Operand} {z:Arg} {x:V} (ho:o.op = .call { callee := .builtin .len,args := #[y],argTypes := #[t] })
  (hu:P.underlying t=some (.slice e)) (hz:jC y=some z) (hS:Holds S m β w) (hF:FrameRep N m β σ a) (he:Yf S (ev σ z)=some x):Does P ((execOp a.eval o).run P w) x S m β w:=by
 have hr:=jM hF hz;generalize ev σ z=p at he hr;have run : ∀ ad (len cap:Nat),a.eval y = .slice ad len cap->(execOp a.eval o).run P w = .ok (.value (.int .i64 len)) w:=by
  intro ad len cap h1;simp [execOp,ho,resolve,invoke,builtin,h1,Builtin.len_,run_underlying hu,goInt]
 cases p with
 | list xs =>
  simp only [Yf] at he;cases he;cases hv:a.eval y with
  | slice ad len cap =>
   have hl:=hr.inv_list;rw [hv] at hl;have:len=xs.length:=by cases hl<;>rfl
   subst this;exact Does.same hS (run ad _ cap hv) (.imm (.int _ _))
  | _=>have hl:=hr.inv_list; rw [hv] at hl; cases hl
 | slice o' off len =>
  simp only [Yf] at he;split at he
  .rename_i hs;cases he;obtain ⟨c,hc⟩:=Option.isSome_iff_exists.1 hs;obtain ⟨ad,cap,e,_⟩:=hr.inv_slice (hS.alive hc);exact Does.same hS (run ad len cap e) (.imm (.int _ _))
  .cases he
 | nils =>
  simp only [Yf] at he;cases he;obtain ⟨ad,e⟩:=hr.inv_nils;exact Does.same hS (run ad 0 0 e) (.imm (.int _ _))
 | _=>simp [Yf] at he
def COp.simple:COp->Bool
 | .call _ _ | .callv _ _=>false
 | _=>true
theorem aj8 {o:Oper} {co:COp} (hc:jan P o=some co) {x:V} {S':Store} (he:jg (ev σ) S co=some (x,S')) (hS:Holds S m β w) (hF:FrameRep N m β σ a):Does P ((execOp a.eval o).run P w) x S' m β w:=by
 unfold jan at hc;split at hc
 .-- move
  rename_i y ho;obtain ⟨z,hz,rfl⟩:=aq.1 hc;simp only [jg] at he; cases he;exact Does.same hS (by simp [execOp,ho]) (jM hF hz)
 .-- assign
  rename_i y ho;obtain ⟨z,hz,rfl⟩:=aq.1 hc;simp only [jg] at he; cases he;exact Does.same hS (by simp [execOp,ho]) (jM hF hz)
 .-- pick
  rename_i c y u ho;split at hc
  .rename_i cz yz uz h1 h2 h3;cases hc;simp only [jg] at he;split at he
   .rename_i t ht;cases he;have hr:=jM hF h1;rw [ht] at hr;have e:=hr.inv_bool;cases t
    .exact Does.same hS (v:=a.eval u) (by simp [execOp,ho,e,asBool]) (by simpa using jM hF h3)
    .exact Does.same hS (v:=a.eval y) (by simp [execOp,ho,e,asBool]) (by simpa using jM hF h2)
   .cases he
  .cases hc
 .-- alloc
  rename_i t ho;split at hc
  .rename_i d z h1 h2;cases hc;simp only [jg] at he; cases he;exact ai7 ho h2 hS
  .cases hc
 .-- box
  rename_i t y ho;obtain ⟨z,hz,rfl⟩:=aq.1 hc;simp only [jg] at he;split at he
  .rename_i h1; cases he; exact arb ho hz h1 hS hF
  .cases he
 .-- build
  rename_i t parts ho;split at hc
  .rename_i fs z h1 h2;obtain ⟨ps,hps,rfl⟩:=aq.1 hc;simp only [jg,aq] at he;obtain ⟨cs,hcs,he⟩:=he;cases he;exact aiy ho h1 h2 hps hS hF hcs
  .cases hc
 .-- buildSlice
  rename_i t len parts ho;split at hc
  .rename_i e i h1;split at hc
   .rename_i z h2;split at hc
    .rename_i h3;obtain ⟨ps,hps,rfl⟩:=aq.1 hc;simp only [jg,aq] at he;obtain ⟨cs,hcs,he⟩:=he;cases he;exact jdP ho h1 h2 h3 hps hS hF hcs
    .cases hc
   .cases hc
  .cases hc
 .-- load
  rename_i t y ho;split at hc
  .rename_i sz z h1 h2;cases hc;simp only [jg,aq] at he;obtain ⟨v,hv,he⟩:=he;cases he;exact akg ho h1 h2 hS hF hv
  .cases hc
 .-- store
  rename_i t p v ho;split at hc
  .rename_i sz pz vz h1 h2 h3;cases hc;simp only [jg,aq] at he;obtain ⟨S1,hS1,he⟩:=he;cases he;exact ajj ho h1 h2 h3 hS hF hS1
  .cases hc
 .-- nilCheck
  rename_i y ho;obtain ⟨z,hz,rfl⟩:=aq.1 hc;have hr:=jM hF hz;simp only [jg] at he;split at he
  .rename_i o' p hp;split at he
   .rename_i hs;cases he;rw [hp] at hr;obtain ⟨c,hc'⟩:=Option.isSome_iff_exists.1 hs;obtain ⟨b,base,s,n,hob,e⟩:=hr.inv_ptr (hS.alive hc');rw [e] at hr;exact Does.same hS (by simp [execOp,ho,e]) hr
   .cases he
  .rename_i y' hp;cases he;rw [hp] at hr;obtain ⟨u,b,off,arr,T,fz,e,_⟩:=hr.inv_ref;rw [e] at hr;exact Does.same hS (by simp [execOp,ho,e]) hr
  .cases he
 .-- binOp
  rename_i op t y u t' ho;split at hc
  .rename_i yz uz h1 h2;split at hc
   .rename_i ht;cases hc;simp only [jg,aq] at he;obtain ⟨v,hv,he⟩:=he;cases he;exact ac1 (neg:=false) ho rfl ht h1 h2 hS hF hv
   .rename_i ht;cases hc;simp only [jg,aq] at he;obtain ⟨v,hv,he⟩:=he;cases he;exact ac1 (neg:=true) ho rfl ht h1 h2 hS hF hv
   .rename_i ht;cases hc;simp only [jg,aq] at he;obtain ⟨v,hv,he⟩:=he;cases he;exact aei (neg:=false) ho rfl ht h1 h2 hS hF hv
   .rename_i ht;cases hc;simp only [jg,aq] at he;obtain ⟨v,hv,he⟩:=he;cases he;exact aei (neg:=true) ho rfl ht h1 h2 hS hF hv
   .cases hc
    simp only [jg,aq] at he;obtain ⟨v,hv,he⟩:=he;cases he;exact ap8 ho h1 h2 hS hF hv
  .cases hc
 .-- unOp
  rename_i op t y ho;obtain ⟨z,hz,rfl⟩:=aq.1 hc;simp only [jg,aq] at he;obtain ⟨v,hv,he⟩:=he;cases he;have hr:=jM hF hz;generalize ev σ z=p at hv hr;unfold opUn at hv;split at hv
  .cases hv; exact Does.same hS (by simp [execOp,ho,hr.inv_bool,Op.unary]) (.imm (.bool _))
  .cases hv; exact Does.same hS (by simp [execOp,ho,hr.inv_int,Op.unary,Op.intArith]) (.imm (.int _ _))
  .cases hv
 .-- convert
  rename_i s d y ho;split at hc
  .rename_i ds k h1 h2;obtain ⟨z,hz,rfl⟩:=aq.1 hc;have hr:=jM hF hz;simp only [jg] at he;split at he
   .rename_i k' n hn;cases he;rw [hn] at hr;exact Does.same hS (v := .int k (k.wrap n)) (by simp [execOp,ho,hr.inv_int,convert,run_underlying h1,run_underlying h2,Conv.intToInt]) (.imm (.int _ _))
   .cases he
  .rename_i e h1 h2;split at hc
   .rename_i h3;obtain ⟨z,hz,rfl⟩:=aq.1 hc;simp only [jg,aq] at he;obtain ⟨v,hv,he⟩:=he;cases he;exact aho ho h1 h2 h3 hz hS hF hv
   .cases hc
  .cases hc
 .-- makeFunc
  rename_i fn first caps ho
  split at hc
  .rename_i f hfi;obtain ⟨zs,hz,rfl⟩:=aq.1 hc;have hfi':first = #[]:=by cases first; simp at hfi; rw [hfi]
   subst hfi';simp only [jg] at he; cases he;have hr:=jbJ hF hz;refine Does.same hS (v := .func (.func f) #[] (caps.toList.map a.eval).toArray) ?_ (.func f _ _ hr.1 hr.2);have hcaps:caps.map a.eval=(caps.toList.map a.eval).toArray:=by simp [<-Array.toList_map]
   simp [execOp,ho,Instr.makeFunc,hcaps]
  .cases hc
 .-- makeSlice
  rename_i t l c ho;split at hc
  .rename_i e i lz cz h1 h2 h3;split at hc
   .rename_i z h4;cases hc;simp only [jg] at he;exact amr ho h1 h4 h2 h3 hS hF he
   .cases hc
  .cases hc
 .-- slice
  rename_i t y lo hi mx ho;split at hc
  .rename_i e i yz loz hiz mxz h1 h2 h3 h4 h5;cases hc;simp only [jg,aq] at he;obtain ⟨v,hv,he⟩:=he;cases he;exact ah8 ho h1 h2 h3 h4 h5 hS hF hv
  .cases hc
 .-- fieldAddr
  rename_i t y f ho;split at hc
  .rename_i off sz z h1 h2;cases hc;simp only [jg,aq] at he;obtain ⟨v,hv,he⟩:=he;cases he;exact jej ho h1 h2 hS hF hv
  .cases hc
 .-- indexAddr
  rename_i t y i ho;split at hc
  .rename_i e j yz iz h1 h2 h3;cases hc;simp only [jg,aq] at he;obtain ⟨v,hv,he⟩:=he;cases he;exact ai9 ho h1 h2 h3 hS hF hv
  .cases hc
 .-- extract
  rename_i y i ho;obtain ⟨z,hz,rfl⟩:=aq.1 hc;have hr:=jM hF hz;simp only [jg] at he;split at he
  .rename_i xs hxs;rw [hxs] at hr;obtain ⟨v,hv,he⟩:=aq.1 he;cases he;obtain ⟨vs,e,hl,hrr⟩:=hr.inv_tuple;have hlt:i<vs.length:=by rw [<-hl]; exact (ab.1 hv).1
   refine Does.same hS (v:=vs[i]) ?_ (hrr i x vs[i] hv (aa hlt));simp [execOp,ho,e,Instr.extract,hlt]
  .cases he
 .-- calls
  rename_i c ho;obtain ⟨callee,args,argTypes⟩:=c;have arr1 : ∀ {α:Type} {xs:Array α} {l:List α},xs.toList=l->xs=l.toArray:=fun h=>by rw [<-h]
  unfold zu at hc;split at hc
  .-- len
   rename_i y t h1 h2 h3;simp only at h1 h2 h3;subst h1;rw [arr1 h2,arr1 h3] at ho;split at hc
   .rename_i e hu;obtain ⟨z,hz,rfl⟩:=aq.1 hc;simp only [jg,aq] at he;obtain ⟨v,hv,he⟩:=he;cases he;exact ao5 ho hu hz hS hF hv
   .rename_i hu;obtain ⟨z,hz,rfl⟩:=aq.1 hc;have hr:=jM hF hz;simp only [jg] at he;split at he
    .rename_i s hs;cases he;rw [hs] at hr;refine Does.same hS (v := .int .i64 s.size) ?_ (.imm (.int _ _));simp [execOp,ho,resolve,invoke,builtin,hr.inv_str,Builtin.len_,run_underlying hu,goInt]
    .cases he
   .cases hc
  .-- append
   rename_i y u t t' h1 h2 h3;simp only at h1 h2 h3;subst h1;rw [arr1 h2,arr1 h3] at ho;split at hc
   .rename_i htt;subst htt;split at hc
    .rename_i e i yz uz k1 k2 k3;split at hc
     .rename_i z k4;split at hc
      .rename_i k5;cases hc;simp only [jg] at he;exact afk ho k1 k4 k5 k2 k3 hS hF he
      .cases hc
     .cases hc
    .cases hc
   .cases hc
  .-- copy
   rename_i y u t t' h1 h2 h3;simp only at h1 h2 h3;subst h1;rw [arr1 h2,arr1 h3] at ho;split at hc
   .rename_i htt;subst htt;split at hc
    .rename_i e i yz uz k1 k2 k3;cases hc;simp only [jg] at he;exact alf ho k1 k2 k3 hS hF he
    .cases hc
   .cases hc
  .-- call
   split at hc
   .split at hc
    .cases hc
    .obtain ⟨zs,hz,rfl⟩:=aq.1 hc;simp [jg] at he
   .cases hc
  .split at hc
   .cases hc; simp [jg] at he
   .cases hc
  .cases hc
 .-- makeMap
  rename_i ty ho;cases hc;simp only [jg] at he; cases he;exact aet ho hS
 .-- lookup
  rename_i ty y i ok ho;split at hc
  .rename_i kt e yz iz ht hy hi;split at hc
   .rename_i d z hd hz;cases hc;simp only [jg] at he;obtain ⟨v,hv,h⟩:=aq.1 he;cases h;exact aga ho ht hd hz hy hi hS hF hv
   .rename_i z hz _;cases hc;simp only [jg] at he;obtain ⟨v,hv,h⟩:=aq.1 he;cases h;exact aeg ho ht rfl hz hy hi hS hF hv
   .cases hc
  .cases hc
 .-- mapUpdate
  rename_i ty y i u ho;split at hc
  .rename_i kt e yz iz uz ht hy hi hu;split at hc
   .rename_i d hd;cases hc;simp only [jg] at he;obtain ⟨v,hv,h⟩:=aq.1 he;cases h;exact ZT ho ht hd hy hi hu hS hF hv
   .cases hc
    simp only [jg] at he;obtain ⟨v,hv,h⟩:=aq.1 he;cases h;exact Zk ho ht rfl hy hi hu hS hF hv
  .cases hc
 .-- insert
  rename_i ty y i u ho;split at hc
  .rename_i kt e yz iz uz ht hy hi hu;split at hc
   .rename_i d hd;cases hc;simp only [jg] at he;obtain ⟨v,hv,h⟩:=aq.1 he;cases h;exact aft ho ht hd hy hi hu hS hF hv
   .cases hc
    simp only [jg] at he;obtain ⟨v,hv,h⟩:=aq.1 he;cases h;exact acx ho ht rfl hy hi hu hS hF hv
  .cases hc
 .cases hc
end
section
variable {P:Program} {N:Nat} {S:Store} {m:Imm} {β:Objs} {w:World} {σ:Fr} {a:Act}
theorem YL {t t2 ty e:TypeId} {i:TypeInfo} (ht:P.underlying t=some (.slice e)) (ht2:P.underlying t2=some .string) (hi:P.info? e=some i) (ad:Option Addr) (sLen sCap k:Nat) (sb:ByteArray) (news:Array Value) (w':World)
  (hk:sb.size=k) (hf:(Builtin.firstCells i.size k (.string sb)).run P w = .ok news w) (hroom:sLen+k<=sCap)
  (hst : ∀ a',ad=some a'->(storeCells (a'.add (sLen*i.size)) news.toList).run P w = .ok () w') (hst0:ad=none->w'=w) :
  (Builtin.append_ #[t,t2] ty #[.slice ad sLen sCap, .string sb]).run P w = .ok (.slice ad (sLen+k) sCap) w':=by
 cases ad with
 | none=>rw [hst0 rfl]; simp [Builtin.append_,run_underlying ht,run_underlying ht2,sizeOf,typeInfo,hi,Builtin.lenOf,hk,hroom,hf]
 | some a'=>simp [Builtin.append_,run_underlying ht,run_underlying ht2,sizeOf,typeInfo,hi,Builtin.lenOf,hk,hroom,hf,hst a' rfl]
theorem jck {t t2 ty e:TypeId} {i:TypeInfo} {z:Value} (ht:P.underlying t=some (.slice e)) (ht2:P.underlying t2=some .string) (hi:P.info? e=some i) (hz:i.zero=some z) (ad:Option Addr) (sLen sCap k:Nat) (sb:ByteArray) (olds news:Array Value)
  (hk:sb.size=k) (hf:(Builtin.firstCells i.size k (.string sb)).run P w.drew = .ok news w.drew) (hfo:(Builtin.firstCells i.size sLen (.slice ad sLen sCap)).run P w.drew = .ok olds w.drew)
  (hg:sCap<sLen+k) (h63:sLen+k<=140737488355328) (hb:(sLen+k)*i.bytes<=140737488355328) :
  (Builtin.append_ #[t,t2] ty #[.slice ad sLen sCap, .string sb]).run P w =
   .ok (.slice (some ⟨w.heap.size,0,none⟩) (sLen+k) (grownCap w (sLen+k) sCap e)) (w.drew.alloc (.cells (olds++news++Builtin.zeroCells z.cells (grownCap w (sLen+k) sCap e-(sLen+k))) e)):=by
 have hn : ¬ (sLen+k<=sCap):=by omega
 have h63' : ¬ (9223372036854775807<((sLen:Int)+(k:Int))):=by omega
 have h48:=growslice_fits hg hb;have h48' : ¬ (281474976710656<Builtin.nextslicecap (sLen+k) sCap*i.bytes):=by omega
 simp [Builtin.append_,run_underlying ht,run_underlying ht2,sizeOf,typeInfo,zeroValue,hi,hz,Builtin.lenOf,hk,hn,h63',h48',Question.forced,hf,hfo,newRow,grownCap]
theorem aes {o:Oper} {t t2 e:TypeId} {i:TypeInfo} {zs:List V} {y u:Operand} {yz uz:Arg} {x:V} {S':Store} (ho:o.op = .call { callee := .builtin .append,args := #[y,u],argTypes := #[t,t2] })
  (hu2:P.underlying t2=some .string) (hi1:i.size=1) (hi2:i.bytes=1) (hs:Program.slc P t=some (e,i)) (hzv:Program.zeroV P e=some zs) (h0:0<i.size) (hy:jC y=some yz) (hu:jC u=some uz) (hS:Holds S m β w) (hF:FrameRep N m β σ a)
  (he:Yg S (ev σ yz) (ev σ uz)=some (x,S')):Does P ((execOp a.eval o).run P w) x S' m β w:=by
 obtain ⟨hut,hi⟩:=Wy hs;obtain ⟨i',z,hi',hz,hzs,_⟩:=KQ (m:=m) hzv;rw [hi] at hi'; cases hi';have hry:=jM hF hy;have hru:=jM hF hu;generalize ev σ yz=p at he hry;generalize ev σ uz=q at he hru;cases q with
 | str sb =>
  have he:jB i.size i.bytes S p (.list (strL sb))=some (x,S'):=by rw [hi1,hi2]; exact he
  simp only [jB] at he;have e2:a.eval u = .string sb:=hru.inv_str;have hq:qb i.size S (.list (strL sb))=some (strL sb,(strL sb).length):=by
   have hfm:(strL sb).flatMap V.cells=strL sb:=by
    have gen : ∀ l:List UInt8,(l.map fun b=>V.int .u8 b.toNat).flatMap V.cells=l.map fun b=>V.int .u8 b.toNat:=by
     intro l
     induction l with
     | nil=>rfl
     | cons x l ih=>simp only [List.map_cons,List.flatMap_cons,V.cells,ih,List.singleton_append]
    exact gen _
   simp only [qb,hfm];rw [if_pos];refine ax.2 fun x hx => ?_;obtain ⟨c,_,rfl⟩:=List.mem_map.1 hx;rw [hi1]; rfl
  rw [hq] at he;obtain ⟨k,hk⟩ : ∃ k,(strL sb).length=k:=⟨_,rfl⟩
  have hkb:sb.size=k:=by rw [<-hk]; simp [strL]
  rw [hk] at he;obtain ⟨vs,hvs⟩ : ∃ vs:List Value,vs=sb.data.toList.map fun b => .int .u8 b.toNat:=⟨_,rfl⟩
  have hvl:vs.length=k*i.size:=by rw [hvs,hi1, <-hk]; simp [strL]
  have hvr:RepL m β (strL sb) vs:=by
   refine ⟨by rw [hvs]; simp [strL],fun j x v hx hv => ?_⟩;rw [hvs] at hv;simp only [strL,aQ,aq] at hx hv;obtain ⟨c,hc,rfl⟩:=hx;obtain ⟨d,hd,rfl⟩:=hv;rw [hc] at hd; cases hd;exact .imm (.int _ _)
  have hvo : ∀ v∈vs,v.oneCell'=true:=by
   intro v hv;rw [hvs] at hv;obtain ⟨c,_,rfl⟩:=List.mem_map.1 hv
   rfl
  generalize strL sb=new at he hvr hk;have hnl:new.length=k*i.size:=by rw [hvr.1,hvl]
  have hfa : ∀ w1:World,(Builtin.firstCells i.size k (.string sb)).run P w1 = .ok vs.toArray w1:=by
   intro w1;have:sb.extract 0 k=sb:=by rw [<-hkb]; simp
   simp only [Builtin.firstCells,this,Sem.run_pure,hvs]
   congr 1
   apply Array.toList_inj.1
   simp
  have hf:=hfa w;have hfd:=hfa w.drew;clear hvs;have run : ∀ ad (sl sc:Nat) v' w',a.eval y = .slice ad sl sc->(Builtin.append_ #[t,t2] o.type #[.slice ad sl sc, .string sb]).run P w = .ok v' w'->(execOp a.eval o).run P w = .ok (.value v') w':=by
   intro ad sl sc v' w' h1 h2;simp [execOp,ho,resolve,invoke,builtin,h1,e2,h2]
  -- a new row
  have grow : ∀ ad (sl sc:Nat) (old:List V) (ovs:List Value) (S1:Store) (β1:Objs),a.eval y = .slice ad sl sc->old.length=sl*i.size->RepL m β old ovs->(∀ v∈ovs,v.oneCell'=true) ->
    (Builtin.firstCells i.size sl (.slice ad sl sc)).run P w.drew = .ok ovs.toArray w.drew->sc<sl+k->(sl+k)*i.bytes<=140737488355328->sl+k<=140737488355328 ->
    Holds S1 m β1 w->Step β β1->(∀ β' w',Ext m β1 w m β' w'->Ext m β w m β' w')->Does P ((execOp a.eval o).run P w) (.slice S1.nx 0 (sl+k)) (S1.add (i.size,old++new)) m β w:=by
   intro ad sl sc old ovs S1 β1 h1 h2 h3 h4 h5 h6 h7 h8 h9 h10 h11;have hr:=jck (P:=P) (w:=w) (ty:=o.type) hut hu2 hi hz ad sl sc k sb ovs.toArray vs.toArray hkb hfd h5 h6 h8 h7;have hge:=grownCap_ge w (sl+k) sc e;have hcm:=grownCap_le_maxLen w (sl+k) sc e (by unfold maxLen; omega);generalize grownCap w (sl+k) sc e=gc at hr hge hcm;have h9d:Holds S1 m β1 w.drew:=h9.drew;have hzl:(Builtin.zeroCells z.cells (gc-(sl+k))).size=(gc-(sl+k))*i.size:=by rw [size_zeroCells,hzs]
   have hol:ovs.length=sl*i.size:=by rw [<-h3.1,h2]
   have hsz:(ovs.toArray++vs.toArray++Builtin.zeroCells z.cells (gc-(sl+k))).size=gc*i.size:=by
    simp only [Array.size_append,List.size_toArray,hzl,hol,hvl, <-Nat.add_mul]
    congr 1; omega
   obtain ⟨β',g1,g2,g3⟩:=ZJ (S':=S1) (w0:=w.drew) h9d (fun _ _=>rfl) rfl (s:=i.size) (new:=old++new) (T:=e) (ovs.toArray++vs.toArray++Builtin.zeroCells z.cells (gc-(sl+k))) (sl+k) gc
    (by rw [hsz,lA,h2,hnl, <-Nat.add_mul]; exact Nat.mul_le_mul_right _ hge) hge hcm (by rw [hsz]; exact aT _) (fun j x hx=>by
     have hxl:=(RepL.append h3 hvr)
     have hj:j<(old++new).length:=(ab.1 hx).1;have hj2:j<(ovs++vs).length:=by rw [<-hxl.1]; exact hj
     refine ⟨(ovs++vs)[j], ?_,(hxl.2 j x _ hx (aa hj2)).mono (fun _ _ h=>h) h10, ?_⟩
     .rw [Array.getElem?_append,if_pos (by simpa using hj2)];simp [List.getElem?_append,List.getElem_append];split<;>simp_all
     .have hmem:=ah hj2;rcases az.1 hmem with h | h
      .exact h4 _ h
      .exact hvo _ h)
   exact ⟨_,_,m,β', .inl (run ad sl sc _ _ h1 hr),g1,g2,h11 _ _ (Ext.drewl g3)⟩
  -- an empty one
  have empty : ∀ ad (S1:Store) (β1:Objs),a.eval y = .slice ad 0 0->k=0->Holds S1 m β1 w->(∀ β' w',Ext m β1 w m β' w'->Ext m β w m β' w') ->
    Does P ((execOp a.eval o).run P w) (.slice S1.nx 0 0) (S1.add (i.size,new)) m β w:=by
   intro ad S1 β1 h1 h2 h3 h4;subst h2;have hv0:vs=[]:=aH (by simpa using hvl);have hn0:new=[]:=aH (by simpa using hnl);subst hv0; subst hn0;have hr:=YL (P:=P) (w:=w) (ty:=o.type) hut hu2 hi ad 0 0 0 sb #[] w hkb hf (aT _) (fun a' _=>by simp [storeCells]) (fun _=>rfl);obtain ⟨g1,g2,g3⟩:=h3.addVoid i.size;exact ⟨_,_,m,_, .inl (run ad 0 0 _ _ h1 hr), .sliceVoid S1.nx 0 ad g3,g1,h4 _ _ g2⟩
  cases p with
  | nils =>
   simp only at he;split at he
   .rename_i hb;cases he;obtain ⟨ad,e1⟩:=hry.inv_nils;by_cases hk:k=0
    .have:=empty ad S β e1 hk hS (fun _ _ h=>h);rw [hk]; exact this
    .have hf0:(Builtin.firstCells i.size 0 (.slice ad 0 0)).run P w.drew = .ok ([]:List Value).toArray w.drew:=by
      have:=Jo (P:=P) (w:=w.drew) (s:=i.size) (n:=0) (k:=0) (v := .slice ad 0 0) (vs:=[]) rfl (aT _) (by simp) (.inl rfl);simpa using this
     have:=grow ad 0 0 [] [] S β e1 (by simp) (RepL.nil _ _) (by simp) hf0 (by omega) (by rw [aS]; exact hb.1) (by omega) hS (Step.refl β) (fun _ _ h=>h);simpa using this
   .cases he
  | slice o' off len =>
   simp only at he;cases hc:S.get o' with
   | none=>simp [hc] at he
   | some c =>
    simp only [hc] at he;split at he
    .rename_i hcond;obtain ⟨hc1,hc2,hc3,hc4⟩:=hcond;cases he;obtain ⟨ad,cap,e1,hlc,hcm,hcase⟩:=hry.inv_slice (hS.alive hc);have hlt:=hS.lt hc;have hdrop:=hS.drop o' hlt;have hext : ∀ β' w',Ext m (β.set o' .dead) w m β' w'->Ext m β w m β' w':=fun β' w' h=>h.dropNew fun b hb=>hS.apart o' b hb;have hnone : ∀ ad,a.eval y = .slice ad 0 0->len=0->Does P ((execOp a.eval o).run P w) (.slice S.nx 0 (len+k)) ((S.del o').add (i.size,(c.2.drop off).take (len*i.size)++new)) m β w:=by
      intro ad h1e hl0;subst hl0;have e0:(c.2.drop off).take (0*i.size)=[]:=by simp
      rw [e0];by_cases hk:k=0
      .have:=empty ad (S.del o') (β.set o' .dead) h1e hk hdrop hext;rw [hk]; exact this
      .have hf0:(Builtin.firstCells i.size 0 (.slice ad 0 0)).run P w.drew = .ok ([]:List Value).toArray w.drew:=by
        have:=Jo (P:=P) (w:=w.drew) (s:=i.size) (n:=0) (k:=0) (v := .slice ad 0 0) (vs:=[]) rfl (aT _) (by simp) (.inl rfl);simpa using this
       exact grow ad 0 0 [] [] (S.del o') (β.set o' .dead) h1e (by simp) (RepL.nil _ _) (by simp) hf0 (by omega) hc3 hc4 hdrop (Step.kill β o') hext
     rcases hcase with ⟨hv,h1,h2⟩ | ⟨b,base,s,n,hob,hcase⟩
     .subst h2; subst h1; exact hnone ad e1 rfl
     .rcases hcase with hcap | ⟨had,hroom⟩
      .have hl0:len=0:=by omega
       subst hcap; subst hl0; exact hnone ad e1 rfl
      .subst had;obtain ⟨hs',arr,T,⟨fz,hz,h1⟩,h2,h3,h4⟩:=hS.cells_at hc hob;have hss:s=i.size:=by rw [<-hs',hc1]
       subst hss;obtain ⟨ovs,hl,hcs,hrl,hone⟩:=KY h4 off (len*i.size) hc2;have holen:((c.2.drop off).take (len*i.size)).length=len*i.size:=by simp; omega
       by_cases hrm:len+k<=cap
       .-- in place
        have hbk:(len+k)*i.size<=cap*i.size:=Nat.mul_le_mul_right _ hrm;rw [Nat.add_mul] at hbk;have hst:=Jg P b (base+off+len*i.size) T vs 0 arr w hz h1 (by rw [hvl,h2]; omega) hvo;have hr:=YL (P:=P) (w:=w) (ty:=o.type) hut hu2 hi (some ⟨b,base+off,none⟩) len cap k sb vs.toArray _ hkb hf hrm (fun a' ha'=>by cases ha'; rw [KP]; simpa using hst) (fun h=>by cases h);have hbl:(β o').block? = some b:=by rw [hob]; rfl
        have hβn:β S.nx = .fresh:=hS.nx_fresh;have hnd:(β.set o' .dead) S.nx = .fresh:=by rw [Objs.set_other _ _ (by omega)]; exact hβn
        have hstp:Step β ((β.set o' .dead).set S.nx (.lies b (base+off) i.size n)):=(Step.kill β o').trans (Step.fresh hnd _);have hfreeb : ∀ o2,((β.set o' .dead) o2).block? ≠ some b:=by
         intro o2 h;by_cases e3:o2=o'
         .subst e3; rw [Objs.set_same] at h; cases h
         .rw [Objs.set_other _ _ e3] at h; exact e3 (hS.inj _ _ b h hbl)
        have hmb:=hS.apart o' b hbl;have hcnt:((c.2.drop off).take (len*i.size)++new).length=(len+k)*i.size:=by rw [lA,holen,hnl,Nat.add_mul]
        refine ⟨_,_,m,(β.set o' .dead).set S.nx (.lies b (base+off) i.size n), .inl (run _ len cap _ _ e1 hr), ?_, ?_, ?_⟩
        .have:=Rep.slice (m:=m) (β:=(β.set o' .dead).set S.nx (.lies b (base+off) i.size n)) S.nx 0 (len+k) b (base+off) i.size n cap (some ⟨b,base+off,none⟩) (Objs.set_same _ _ _) hrm hcm (.inr ⟨rfl,by simpa using hroom⟩);exact this
        .refine hdrop.new (S:=S.del o') (by intro h; cases h) (fun b' o2 hb'=>setRow_other w b b' _ (fun e3=>by subst e3; rw [hmb] at hb'; cases hb')) (fun o2 b' hb'=>setRow_other w b b' _ (fun e3=>by subst e3; exact hfreeb o2 hb')) ?_ ?_
         .intro b' hb';cases hb';exact ⟨hmb,hfreeb⟩
         .refine ⟨rfl,_,T,⟨fz,by rw [h2] at hz; refine Eq.mp (congrArg (fun k=>FzOk k fz) ?_) hz; simp; omega,setRow_heap w b arr _ T fz h1⟩, ?_, ?_,fun j x hx => ?_⟩
          .simp; omega
          .rw [hcnt,Nat.add_mul]; omega
          .have hxl:=RepL.append hrl hvr;have hj:j<((c.2.drop off).take (len*i.size)++new).length:=(ab.1 hx).1;have hj2:j<(ovs++vs).length:=by rw [<-hxl.1]; exact hj
           refine ⟨(ovs++vs)[j], ?_,(hxl.2 j x _ hx (aa hj2)).mono (fun _ _ h=>h) hstp, ?_⟩
           .have hjb:j<len*i.size+k*i.size:=by rw [hcnt,Nat.add_mul] at hj; exact hj
            simp only [List.getElem?_toArray];rw [<-List.append_assoc,Yp _ _ _ (by rw [hvl,Array.length_toList,h2]; omega)];simp only [List.getElem_append];split
            .rename_i hlt2;rw [dif_pos (by omega)];have:=hcs j ovs[j] (aa (by omega));simpa [Nat.add_assoc] using this
            .rename_i hge2;rw [if_pos (by omega),dif_neg (by omega)];rw [aa (by omega)]
             congr 2; omega
           .rcases az.1 (ah hj2) with h | h
            .exact hone _ h
            .exact hvo _ h
        .refine ⟨fun _ _ h=>h,hstp,by simp,fun b' hb' hm' hn' => ?_,rfl,rfl,rfl⟩;have hne:b'≠b:=fun e3=>hn' o' (by rw [hbl,e3]);refine ⟨setRow_other w b b' _ hne,hm',fun o2 ho2 => ?_⟩;by_cases e4:o2=S.nx
         .subst e4; rw [Objs.set_same] at ho2; cases ho2; exact hne rfl
         .rw [Objs.set_other _ _ e4] at ho2;by_cases e5:o2=o'
          .subst e5; rw [Objs.set_same] at ho2; cases ho2
          .rw [Objs.set_other _ _ e5] at ho2; exact hn' o2 ho2
       .-- a new row
        have hfo:(Builtin.firstCells i.size len (.slice (some ⟨b,base+off,none⟩) len cap)).run P w.drew = .ok ovs.toArray w.drew:=by
         have hl':ovs.length=len*i.size:=hl;have:=Jo (P:=P) (w:=w.drew) (s:=i.size) (n:=len) (k:=len) (v := .slice (some ⟨b,base+off,none⟩) len cap) (vs:=ovs) rfl (aT _) hl' (.inr ⟨b,base+off,rfl,fun j u hj=>by
          rw [World.cell?_drew,jbQ h1]; exact hcs j u hj⟩)
         rwa [List.take_of_length_le (by omega)] at this
        exact grow _ len cap _ ovs (S.del o') (β.set o' .dead) e1 holen hrl hone hfo (by omega) hc3 hc4 hdrop (Step.kill β o') hext
    .cases he
  | _=>simp at he
 | _=>simp [Yg] at he
theorem an5 {o:Oper} {y:Operand} {us:List Operand} {ts:Array TypeId} {yz:Arg} {zs:List Arg} {x:V} (ho:o.op = .call { callee := .builtin .max,args:=(y::us).toArray,argTypes:=ts }) (hy:jC y=some yz) (hu:us.mapM jC=some zs) (hS:Holds S m β w) (hF:FrameRep N m β σ a)
  (he:Ye (ev σ yz) (zs.map (ev σ))=some x):Does P ((execOp a.eval o).run P w) x S m β w:=by
 have r1:=jM hF hy;have r2:=jbJ hF hu;have fold : ∀ (xs:List V) (vs:List Value) (p:V) (v:Value),RepL m β xs vs->Rep m β p v->Ye p xs=some x -> ∃ u,(vs.foldlM Builtin.max2 v:Sem Value).run P w = .ok u w/\Rep m β x u:=by
  intro xs
  induction xs with
  | nil =>
   intro vs p v h1 h2 h3;have hv:vs=[]:=by have:=h1.1; cases vs with | nil=>rfl | cons=>simp at this
   subst hv;simp only [Ye,ar] at h3;subst h3;exact ⟨v,rfl,h2⟩
  | cons q xs ih =>
   intro vs p v h1 h2 h3;cases vs with
   | nil=>have:=h1.1; simp at this
   | cons v2 vs =>
    have hq:=h1.2 0 q v2 rfl rfl;have ht:RepL m β xs vs:=⟨by simpa using h1.1,fun i x v hx hv=>h1.2 (i+1) x v (by simpa using hx) (by simpa using hv)⟩
    cases p with
    | int k a1 =>
     cases q with
     | int k' b1 =>
      simp only [Ye] at h3;split at h3
      .rename_i hk;subst hk;have e1:=h2.inv_int;have e2:=hq.inv_int;obtain ⟨u,hu,hru⟩:=ih vs (.int k (if b1 > a1 then b1 else a1)) (.int k (if b1 > a1 then b1 else a1)) ht (.imm (.int _ _)) h3;refine ⟨u, ?_,hru⟩;rw [List.foldlM_cons,Sem.run_bind,e1,e2];simp only [Builtin.max2,Sem.run_pure,Result.andThen_ok];exact hu
      .cases h3
     | _=>simp [Ye] at h3
    | _=>simp [Ye] at h3
 obtain ⟨u,hu1,hu2⟩:=fold _ _ _ _ r2 r1 he;refine Does.same hS (v:=u) ?_ hu2;have e:(((y::us).toArray.map a.eval)).toList=a.eval y::us.map a.eval:=by simp
 simp [execOp,ho,resolve,invoke,builtin,Builtin.max_,hu1]
theorem af3 {o:Oper} {t e:TypeId} {n:Nat} {y i:Operand} {z iz:Arg} {x:V} (ho:o.op = .index t y i) (hu:P.underlying t=some (.array n e)) (hsz:Program.szOf P e=some none) (hz:jC y=some z) (hi:jC i=some iz)
  (hS:Holds S m β w) (hF:FrameRep N m β σ a) (he:WC n (ev σ z) (ev σ iz)=some x):Does P ((execOp a.eval o).run P w) x S m β w:=by
 have hr:=jM hF hz;have hri:=jM hF hi;generalize ev σ z=p at he hr;generalize ev σ iz=q at he hri;obtain ⟨ti,hti,hagg,_,hone⟩:=jaw hsz w;cases p with
 | agg cs =>
  cases q with
  | int k j =>
   simp only [WC] at he;split at he
   .rename_i hc;obtain ⟨h1,h2,h3⟩:=hc;obtain ⟨vs,e1,hl,hrr,_⟩:=hr.inv_agg;have e2:=hri.inv_int;have hlt:j.toNat<vs.length:=by rw [<-hl]; omega
    refine Does.same hS (v:=vs[j.toNat]) ?_ (hrr j.toNat x _ he (aa hlt));have hs1:ti.size=1:=hone rfl;have hp:(part e vs.toArray (j.toNat*1)).run P w = .ok vs[j.toNat] w:=by
     simp at hagg;simp [part,hagg,hlt]
    rw [Nat.mul_one] at hp;simp [execOp,ho,e1,e2,Instr.index,asIntOf,run_underlying hu,h1,h2,sizeOf,typeInfo,hti,hs1,hp]
   .cases he
  | _=>simp [WC] at he
 | _=>simp [WC] at he
theorem afx {o:Oper} {t e:TypeId} {n:Nat} {j:TypeInfo} {y i:Operand} {z iz:Arg} {x:V} (ho:o.op = .indexAddr t y i) (hu:P.underlying t=some (.array n e)) (hj:P.info? e=some j) (hz:jC y=some z) (hi:jC i=some iz)
  (hS:Holds S m β w) (hF:FrameRep N m β σ a) (he:zN n j.size S (ev σ z) (ev σ iz)=some x):Does P ((execOp a.eval o).run P w) x S m β w:=by
 have hr:=jM hF hz;have hri:=jM hF hi;generalize ev σ z=p at he hr;generalize ev σ iz=q at he hri;cases p with
 | ptr ob off =>
  cases q with
  | int k n1 =>
   simp only [zN] at he;split at he
   .rename_i hc;obtain ⟨h0,h1,h2⟩:=hc;cases he;obtain ⟨c,hc'⟩:=Option.isSome_iff_exists.1 h0;obtain ⟨b,base,s,nn,hob,e1⟩:=hr.inv_ptr (hS.alive hc');have e2:=hri.inv_int;refine Does.same hS (v := .pointer (some ⟨b,base+(off+n1.toNat*j.size),none⟩)) ?_ (.ptr ob _ b base s nn hob);simp [execOp,ho,e1,e2,Instr.indexAt,Instr.sureAddr,asIntOf,run_underlying hu,h1,h2,sizeOf,typeInfo,hj,KP,Nat.add_assoc]
   .cases he
  | _=>simp [zN] at he
 | _=>simp [zN] at he
theorem afs {o:Oper} {t:TypeId} {y i:Operand} {z iz:Arg} {x:V} (ho:o.op = .index t y i) (hu:P.underlying t=some .string) (hz:jC y=some z) (hi:jC i=some iz)
  (hS:Holds S m β w) (hF:FrameRep N m β σ a) (he:WD (ev σ z) (ev σ iz)=some x):Does P ((execOp a.eval o).run P w) x S m β w:=by
 have hr:=jM hF hz;have hri:=jM hF hi;generalize ev σ z=p at he hr;generalize ev σ iz=q at he hri;cases p with
 | str s =>
  cases q with
  | int k n1 =>
   simp only [WD] at he;split at he
   .rename_i h1;obtain ⟨b,hb,rfl⟩:=aq.1 he;have e1:=hr.inv_str;have e2:=hri.inv_int;refine Does.same hS (v := .int .u8 b.toNat) ?_ (.imm (.int _ _));simp [execOp,ho,e1,e2,Instr.index,asIntOf,run_underlying hu,h1,hb]
   .cases he
  | _=>simp [WD] at he
 | _=>simp [WD] at he
theorem agc {o:Oper} {t e:TypeId} {n:Nat} {i:TypeInfo} {parts:Array (Nat × Operand)} {zs:List V} {ps:List (Nat × Nat × Arg)} {cs:List V} (ho:o.op = .build t parts) (hu:P.underlying t=some (.array n e)) (hi:P.info? e=some i) (hz:Program.zeroV P t=some zs)
  (hp:(parts.toList.mapM fun (p:Nat × Operand)=>match jC p.2 with | some x=>some ((p.1*i.size,i.size,x):Nat × Nat × Arg) | none=>none)=some ps) (hS:Holds S m β w) (hF:FrameRep N m β σ a)
  (he:qP (ev σ) zs ps=some cs):Does P ((execOp a.eval o).run P w) (.agg cs) S m β w:=by
 obtain ⟨z,hz1,hz2,hz3,hz4⟩:=jcL (w:=w) (m:=m) (β:=β) hz;obtain ⟨us,g1,g2,g3,_⟩:=jaV (fun j=>some (j*i.size,i.size)) _ (fun p f hpf=>by
  split at hpf
  .rename_i x' h1; cases hpf; exact ⟨rfl,h1⟩
  .cases hpf) hF parts.toList ps zs z.cells cs hp hz2 hz3 he
 refine Does.same hS (v := .agg us) ?_ ?_
 .have e:(parts.map fun (x:Nat × Operand)=>(x.1,a.eval x.2)).toList=parts.toList.map fun p=>(p.1,a.eval p.2):=by simp
  simp [execOp,ho,Instr.build,Sem.run_bind,hz1,run_underlying hu,sizeOf,typeInfo,hi,g1]
 .have:=Rep.agg (m:=m) (β:=β) cs us.toList g2.1 g2.2 g3;simpa using this
theorem abh {x:V} {v u:Value} (h:valV1 x=some v) (hr:Rep m β x u):u=v:=by
 cases x<;>simp only [valV1] at h<;>first | (cases h; done) | (cases h; first | exact hr.inv_bool | exact hr.inv_int | exact hr.inv_str)
theorem arm {x:V} {v u:Value} (h:valV x=some v) (hr:Rep m β x u):u=v:=by
 cases x with
 | agg xs =>
  simp only [valV] at h;obtain ⟨vs,hvs,rfl⟩:=aq.1 h;obtain ⟨us,rfl,hl,hrr,_⟩:=hr.inv_agg;obtain ⟨h1,h2⟩:=jaK hvs
  congr 2
  refine List.ext_getElem? fun i => ?_;by_cases hi:i<xs.length
  .have hu:i<us.length:=by omega
   have hv:i<vs.length:=by omega
   rw [aa hu,aa hv];exact congrArg some (abh (h2 i _ _ (aa hi) (aa hv)) (hrr i _ _ (aa hi) (aa hu)))
  .rw [aC (by omega),aC (by omega)]
 | _=>simp only [valV] at h; exact abh h hr
theorem ajg {o:Oper} {t:TypeId} {d:TypeDesc} {y:Operand} {z:Arg} {v:Value} (ho:o.op = .makeInterface t y) (hd:P.underlying t=some d) (hni : ∀ ms,d ≠ .interface ms) (hz:jC y=some z) (hS:Holds S m β w) (hF:FrameRep N m β σ a)
  (he:valV (ev σ z)=some v):Does P ((execOp a.eval o).run P w) (.raw (.iface t v)) S m β w:=by
 have e:=arm he (jM hF hz);refine Does.same hS (v := .iface t v) ?_ (.raw _);have:(Instr.makeInterface t v).run P w = .ok (.iface t v) w:=by
  unfold Instr.makeInterface;rw [Sem.run_bind,run_underlying hd,Result.andThen_ok];cases d<;>first | rfl | exact absurd rfl (hni _)
 simp [execOp,ho,e,this]
theorem jeV {o:Oper} {op:BinOp} {neg:Bool} {t t':TypeId} {fs:Array Field} {y u:Operand} {yz uz:Arg} {x:V} (ho:o.op = .binOp op t y u t') (hop:op=if neg then .neq else .eql) (hu0:P.underlying t=some (.struct fs)) (hy:jC y=some yz) (hu:jC u=some uz) (hS:Holds S m β w) (hF:FrameRep N m β σ a)
  (he:qn (WN (P:=P) (t:=t) 0) neg (fs.toList.map fun f=>Program.kindOf P f.type) (ev σ yz) (ev σ uz)=some x):Does P ((execOp a.eval o).run P w) x S m β w:=by
 rw [Yl] at he;have r1:=jM hF hy;have r2:=jM hF hu;generalize ev σ yz=p at he r1;generalize ev σ uz=q at he r2;cases p with
 | agg xs =>
  cases q with
  | agg ys =>
   simp only [qn] at he;split at he
   .rename_i hg;obtain ⟨b,hb,rfl⟩:=aq.1 he;obtain ⟨vs,e1,hl1,hr1,_⟩:=r1.inv_agg;obtain ⟨us,e2,hl2,hr2,_⟩:=r2.inv_agg;unfold Program.flatEq at hg;rw [hu0] at hg;simp only [ae,Bool.not_eq_true',ax,List.mem_range] at hg;obtain ⟨⟨hg1,hg2⟩,hg3⟩:=hg;have fld : ∀ (i : Nat) (f : Field), fs.toList[i]? = some f → f.name ≠ "_" ∧ f.offset = i ∧ Program.szOf P f.type = some none := by
     intro i f hf;have hi:=(ab.1 hf).1;have:=hg3 i hi;simp only [hf,ae,bne_iff_ne,beq_iff_eq] at this;obtain ⟨⟨a1,a2⟩,a3⟩:=this;refine ⟨a1,a2, ?_⟩;split at a3
     .assumption
     .cases a3
    have hgd:(eqGuard op t y u (.agg vs.toArray) (.agg us.toArray)).run P w = .ok () w:=by
     subst hop;cases neg<;>simp [eqGuard,run_program,hg2]
    have cell : ∀ (x y:V) (v u:Value) (c:Bool) (ft:TypeId) (n:Nat),Rep m β x v->Rep m β y u->qq (Program.kindOf P ft) x y=some c->(Op.equalIn (n+1) ft v u).run P w = .ok c w:=by
     intro x y v u c ft n h1 h2 h3;unfold Program.kindOf at h3;split at h3
     .rename_i k hk;cases x<;>cases y<;>simp only [qq] at h3<;>try (cases h3; done)
      split at h3
      .rename_i hkk;cases h3;rw [h1.inv_int,h2.inv_int];unfold Op.equalIn;simp [run_underlying hk,hkk]
      .cases h3
     .rename_i hk;cases x<;>cases y<;>simp only [qq] at h3<;>try (cases h3; done)
      cases h3
      rw [h1.inv_bool,h2.inv_bool];unfold Op.equalIn;simp [run_underlying hk]
     .rename_i hk;cases x<;>cases y<;>simp only [qq] at h3<;>try (cases h3; done)
      cases h3
      rw [h1.inv_str,h2.inv_str];unfold Op.equalIn;simp [run_underlying hk]
     .cases x<;>cases y<;>simp [qq] at h3
    have loop : ∀ (l:List Field) (k:Nat) (b':Bool),l=fs.toList.drop k->qu (l.map fun f=>Program.kindOf P f.type) (xs.drop k) (ys.drop k)=some b' ->
      (forIn l ((none : Option Bool), ()) (fun f __s => if f.name = "_" then (pure (ForInStep.yield (none, ())) : Sem _) else do
       let __do_lift <-part f.type vs.toArray f.offset
       let __do_lift_1 <-part f.type us.toArray f.offset
       let __do_lift <-Op.equalIn 9999 f.type __do_lift __do_lift_1
       if __do_lift=false then pure (ForInStep.done (some false,())) else pure (ForInStep.yield (none,())))).run P w = .ok (if b'=true then (none,()) else (some false,())) w:=by
     intro l
     induction l with
     | nil =>
      intro k b' hl h;simp only [List.map_nil] at h;cases hx:xs.drop k with
      | nil =>
       cases hy':ys.drop k with
       | nil=>rw [hx,hy'] at h; simp only [qu,ar] at h; subst h; rfl
       | cons=>rw [hx,hy'] at h; simp [qu] at h
      | cons=>rw [hx] at h; simp [qu] at h
     | cons f l ih =>
      intro k b' hl h;have hk:k<fs.toList.length:=by
       rcases bc k fs.toList.length with h' | h'
       .exact h'
       .rw [List.drop_eq_nil_of_le h'] at hl; cases hl
      rw [aj hk] at hl;obtain ⟨hf,hl⟩:=List.cons.inj hl;have hf':fs.toList[k]? = some f:=by rw [aa hk, <-hf]
      obtain ⟨q1,q2,q3⟩:=fld k f hf';obtain ⟨ti,hti,hagg,_,_⟩:=jaw q3 w;simp only [List.map_cons] at h;cases hx:xs.drop k with
      | nil=>rw [hx] at h; simp [qu] at h
      | cons x xs' =>
       cases hy':ys.drop k with
       | nil=>rw [hx,hy'] at h; simp [qu] at h
       | cons y' ys' =>
        rw [hx,hy'] at h;simp only [qu] at h;have hx0:xs[k]? = some x:=by have:=congrArg (fun l=>l[0]?) hx; simpa using this
        have hy0:ys[k]? = some y':=by have:=congrArg (fun l=>l[0]?) hy'; simpa using this
        have hxk:k<vs.length:=by rw [<-hl1]; exact (ab.1 hx0).1
        have hyk:k<us.length:=by rw [<-hl2]; exact (ab.1 hy0).1
        have hxs':xs'=xs.drop (k+1):=by rw [<-List.tail_drop,hx]; rfl
        have hys':ys'=ys.drop (k+1):=by rw [<-List.tail_drop,hy']; rfl
        split at h
        .rename_i a1 b1 ha1 hb1;cases h;have c1:=cell x y' vs[k] us[k] a1 f.type 9998 (hr1 k x _ hx0 (aa hxk)) (hr2 k y' _ hy0 (aa hyk)) ha1;have ih':=ih (k+1) b1 hl (by rw [<-hxs', <-hys']; exact hb1);have hp1:(part f.type vs.toArray f.offset).run P w = .ok vs[k] w:=by
          simp at hagg;simp [part,hagg,q2,hxk]
         have hp2:(part f.type us.toArray f.offset).run P w = .ok us[k] w:=by
          simp at hagg;simp [part,hagg,q2,hyk]
         rw [List.forIn_cons,Sem.run_bind,if_neg q1,Sem.run_bind,hp1,Result.andThen_ok,Sem.run_bind,hp2,Result.andThen_ok,Sem.run_bind,c1,Result.andThen_ok];cases a1 with
         | false=>simp
         | true=>simp only [bh,if_false,Sem.run_pure,Result.andThen_ok,Bool.true_and]; exact ih'
        .cases h
    have heq:(Op.equal t (.agg vs.toArray) (.agg us.toArray)).run P w = .ok b w:=by
     have hd:Op.maxDepth=9999+1:=rfl;unfold Op.equal;rw [hd];unfold Op.equalIn;simp only [Sem.run_bind,run_underlying hu0,Result.andThen_ok,run_program,hg1];simp;rw [<-Array.forIn_toList,loop fs.toList 0 b (by simp) (by simpa using hb)];cases b<;>rfl
    subst hop;cases neg with
    | false =>
     simp only [ay,if_false] at ho hgd;exact Does.same hS (v := .bool b) (by simp [execOp,ho,e1,e2,hgd,binOp,heq]) (.imm (.bool _))
    | true =>
     simp only [if_true] at ho hgd;exact Does.same hS (v := .bool !b) (by simp [execOp,ho,e1,e2,hgd,binOp,heq]) (.imm (.bool _))
   .cases he
  | _=>simp [qn] at he
 | _=>simp [qn] at he
theorem amp {o:Oper} {t e:TypeId} {i:TypeInfo} {y:Operand} {z:Arg} {x:V} (ho:o.op = .convert t t y) (hs:Program.slc P t=some (e,i)) (he8:P.underlying e=some (.int .u8)) (hz:jC y=some z) (hS:Holds S m β w) (hF:FrameRep N m β σ a)
  (he:jcb S (ev σ z)=some x):Does P ((execOp a.eval o).run P w) x S m β w:=by
 have hr:=jM hF hz;generalize ev σ z=p at he hr;obtain ⟨hut,hi⟩:=Wy hs;cases p with
 | slice ob off len =>
  simp only [jcb] at he;cases hc:S.get ob with
  | none=>simp [hc] at he
  | some c =>
   simp only [hc] at he;split at he
   .rename_i hcond;obtain ⟨h0,h1,h2⟩:=hcond;cases he;obtain ⟨ad,cap,e1,hlc,hcm,hcase⟩:=hr.inv_slice (hS.alive hc);rcases hcase with ⟨_,k1,_⟩ | ⟨b,base,s,n,hob,hcase⟩
    .omega
    .rcases hcase with k1 | ⟨had,hroom⟩
     .omega
     .subst had;obtain ⟨hs',arr,T,⟨fz,hz1,g1⟩,g2,g3,g4⟩:=hS.cells_at hc hob;have hrun:(execOp a.eval o).run P w = .ok (.value (.slice (some ⟨b,base+off,none⟩) len cap)) (w.freeze ⟨b,arr.size,none⟩ 1):=by
       have hsh:w.shape? b=some (T,arr.size):=by simp [World.shape?,g1]
       simp [execOp,ho,e1,convert,run_underlying hut,run_underlying he8,markStringish,hsh]
      have hw' : ∀ k,k≠b->(w.freeze ⟨b,arr.size,none⟩ 1).heap[k]? = w.heap[k]? := by
       intro k hk;simp only [World.freeze,Nat.one_ne_zero,if_false];rw [Array.getElem?_modify,if_neg (fun e=>hk e.symm)]
      have hwb:(w.freeze ⟨b,arr.size,none⟩ 1).heap[b]? = some (.cells arr T (arr.size,arr.size+1)):=by
       simp only [World.freeze,Nat.one_ne_zero,if_false];rw [Array.getElem?_modify,if_pos rfl,g1];rcases hz1 with rfl | rfl<;>simp
      have hsz:(w.freeze ⟨b,arr.size,none⟩ 1).heap.size=w.heap.size:=by simp [World.freeze]
      have hbl:(β ob).block? = some b:=by rw [hob]; rfl
      have hS':Holds (S.upd ob c) m β (w.freeze ⟨b,arr.size,none⟩ 1):=by
       refine hS.write hc hbl hw' ?_;rw [hob];exact ⟨hs',arr,T,⟨_, .inr rfl,hwb⟩,g2,g3,g4⟩
      have hSS:S.upd ob c=S:=by
       refine Store.ext' (funext fun o' => ?_) rfl;simp only [Store.upd];split
       .rename_i e; rw [e,hc]
       .rfl
      rw [hSS] at hS';refine ⟨_,_,m,β, .inl hrun, ?_,hS',⟨fun _ _ h=>h,Step.refl β,by rw [hsz]; exact aT _,fun b' hb' h1' h2'=>⟨hw' b' (fun e=>h2' ob (by rw [hbl,e])),h1',h2'⟩,rfl,rfl,rfl⟩⟩;exact .slice ob off len b base s n cap _ hob hlc hcm (.inr ⟨rfl,hroom⟩)
   .cases he
 | _=>simp [jcb] at he
theorem akx {o:Oper} {co:COp} (hc:Zl P o=some co) {x:V} {S':Store} (he:jg (ev σ) S co=some (x,S')) (hS:Holds S m β w) (hF:FrameRep N m β σ a):Does P ((execOp a.eval o).run P w) x S' m β w:=by
 have arr1 : ∀ {α:Type} {xs:Array α} {l:List α},xs.toList=l->xs=l.toArray:=fun h=>by rw [<-h]
 have mp : ∀ {f:Option V},f.map (fun v=>(v,S))=some (x,S')->f=some x/\S'=S:=by
  intro f h;obtain ⟨v,hv,h⟩:=aq.1 h;cases h; exact ⟨hv,rfl⟩
 unfold Zl at hc;split at hc
 .-- makeFunc
  rename_i fn first caps ho
  split at hc
  .rename_i f y h1 h2;obtain ⟨z,hz,rfl⟩:=aq.1 hc;rw [arr1 h1,arr1 h2] at ho;simp only [jg] at he; cases he;refine Does.same hS (v := .func (.func f) #[a.eval y] #[]) ?_ (.meth f _ _ (jM hF hz));simp [execOp,ho,Instr.makeFunc]
  .cases hc
 .-- makeInterface
  rename_i t y ho;split at hc
  .cases hc
  .rename_i d z hn h1 h2;cases hc;simp only [jg] at he;obtain ⟨v,hv,h⟩:=aq.1 he;cases h;exact ajg ho h1 (fun ms e=>hn ms e) h2 hS hF hv
  .cases hc
 .-- panic
  obtain ⟨z,hz,rfl⟩:=aq.1 hc;simp [jg] at he
 .-- build
  rename_i t parts ho;split at hc
  .rename_i n e z h1 h2;split at hc
   .rename_i i h3;split at hc
    .obtain ⟨ps,hps,rfl⟩:=aq.1 hc;simp only [jg] at he;obtain ⟨cs,hcs,h⟩:=aq.1 he;cases h;exact agc ho h1 h3 h2 hps hS hF hcs
    .cases hc
   .cases hc
  .cases hc
 .-- indexAddr
  rename_i t y i ho;split at hc
  .rename_i n e z iz h1 h2 h3;split at hc
   .rename_i j h4;cases hc;obtain ⟨h,rfl⟩:=mp he;exact afx ho h1 h4 h2 h3 hS hF h
   .cases hc
  .cases hc
 .-- index
  rename_i t y i ho;split at hc
  .rename_i n e z iz h1 h2 h3;split at hc
   .rename_i h4;cases hc;obtain ⟨h,rfl⟩:=mp he;exact af3 ho h1 h4 h2 h3 hS hF h
   .cases hc
  .rename_i z iz h1 h2 h3;cases hc;obtain ⟨h,rfl⟩:=mp he;exact afs ho h1 h2 h3 hS hF h
  .cases hc
 .-- convert
  rename_i s d y ho;split at hc
  .rename_i hsd;subst hsd;split at hc
   .rename_i e i z h1 h2;split at hc
    .rename_i h3;cases hc;obtain ⟨h,rfl⟩:=mp he;exact amp ho h1 h3 h2 hS hF h
    .cases hc
   .cases hc
  .cases hc
 .-- calls
  rename_i c ho;obtain ⟨callee,args,argTypes⟩:=c;split at hc
  .rename_i y ys h1 h2;simp only at h1 h2;subst h1;rw [arr1 h2] at ho;split at hc
   .rename_i z zs k1 k2;cases hc;obtain ⟨h,rfl⟩:=mp he;exact an5 ho k1 k2 hS hF h
   .cases hc
  .rename_i y u t t2 h1 h2 h3;simp only at h1 h2 h3;subst h1;rw [arr1 h2,arr1 h3] at ho;split at hc
   .rename_i e i z uz k1 k2 k3 k4;split at hc
    .rename_i zs k5;split at hc
     .rename_i k6;cases hc;simp only [jg] at he;exact aes ho k2 k6.1 k6.2 k1 k5 (by omega) k3 k4 hS hF he
     .cases hc
    .cases hc
   .cases hc
  .cases hc
 .cases hc
theorem afe {o:Oper} {co:COp} (hc:Wt P o=some co) {x:V} {S':Store} (he:jg (ev σ) S co=some (x,S')) (hS:Holds S m β w) (hF:FrameRep N m β σ a):Does P ((execOp a.eval o).run P w) x S' m β w:=by
 unfold Wt at hc;split at hc
 .rename_i c hi;cases hc;unfold jdB at hi;split at hi
  .rename_i op t y u t' ho;have mp : ∀ {f:Option V},f.map (fun v=>(v,S))=some (x,S')->f=some x/\S'=S:=by
    intro f h;obtain ⟨v,hv,h⟩:=aq.1 h;cases h; exact ⟨hv,rfl⟩
   split at hi
   .rename_i fs z uz h1 h2 h3;cases hi;obtain ⟨h,rfl⟩:=mp he;exact jeV (neg:=false) ho rfl h1 h2 h3 hS hF h
   .rename_i fs z uz h1 h2 h3;cases hi;obtain ⟨h,rfl⟩:=mp he;exact jeV (neg:=true) ho rfl h1 h2 h3 hS hF h
   .cases hi
  .cases hi
 .split at hc
  .rename_i c h1;cases hc;exact aj8 h1 he hS hF
  .exact akx hc he hS hF
end
end Go.Vw
