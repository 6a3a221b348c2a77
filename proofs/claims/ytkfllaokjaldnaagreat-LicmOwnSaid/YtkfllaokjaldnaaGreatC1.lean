import Derived.Test.YtkfllaokjaldnaaGreatC0
/- Part of the proof. -/
set_option linter.unusedVariables false
set_option linter.unusedSimpArgs false
/-
  Each operation over values without addresses is the model's.
-/
namespace Go.Vw
open Go.RowKit
theorem Wn {m:Imm} {v:Value} {x:V} (h:Wp v=some x):RepI m x v:=by
  unfold Wp at h;split at h<;>first | (cases h; first | exact .bool _ | exact .int _ _ | exact .str _ | exact .nils _ | exact .nilp | exact .nilf | exact .nilm) | cases h
theorem Wo {v:Value} {x:V} (h:Wp v=some x):v.oneCell'=true∧x.one=true:=by
  unfold Wp at h;split at h<;>first | (cases h; exact ⟨rfl,rfl⟩) | cases h
theorem Zx {α β:Type} {f:α→Option β} {l:List α} {r:List β} (h:l.mapM f=some r):l.length=r.length ∧ ∀ (i:Nat) a b,l[i]? = some a→r[i]? = some b→f a=some b:=by
  induction l generalizing r with
  | nil=>simp at h; subst h; simp
  | cons a l ih =>
    simp only [List.mapM_cons,Option.bind_eq_bind,Option.bind_eq_some_iff] at h;obtain ⟨b,hb,r',hr',h⟩:=h;simp at h;subst h;obtain ⟨h1,h2⟩:=ih hr';refine ⟨by simp [h1],fun i a' b' ha hb' => ?_⟩
    cases i with
    | zero=>simp at ha hb'; subst ha; subst hb'; exact hb
    | succ i=>simp at ha hb'; exact h2 i a' b' ha hb'
theorem jbH {m:Imm} {v:Value} {x:V} (h:constV v=some x):RepI m x v:=by
  unfold constV at h;split at h
  ·rename_i cs;simp only [Option.map_eq_some_iff] at h;obtain ⟨xs,hxs,rfl⟩:=h;obtain ⟨h1,h2⟩:=Zx hxs;have:cs=cs.toList.toArray:=by simp
   rw [this];refine .agg xs cs.toList h1.symm (fun i x v hx hv=>Wn (h2 i v x hv hx)) fun v hv => ?_
   obtain ⟨i,hi,rfl⟩:=List.getElem_of_mem hv;exact (Wo (h2 i _ xs[i] (List.getElem?_eq_getElem hi) (List.getElem?_eq_getElem (by omega)))).1
  ·exact Wn h
section
variable {P:Program} {N:Nat} {S:Store} {m:Imm} {β:Objs} {w:World} {σ:Fr} {a:Act}
theorem jR (hF:FrameRep N m β σ a) {x:Operand} {y:Arg} (h:jt x=some y):Rep m β (ev σ y) (a.eval x):=by
  cases x with
  | tmp t=>simp [jt] at h; subst h; exact hF.rep t
  | const v =>
    simp only [jt] at h;split at h
    ·cases h; exact .junk _
    ·obtain ⟨z,hz,rfl⟩:=Option.map_eq_some_iff.1 h;exact .imm (jbH hz)
  | global g=>simp [jt] at h
  | func f =>
    simp [jt] at h; subst h;have:=Rep.func (m:=m) (β:=β) f [] [] rfl (by simp);simpa [ev,Act.eval] using this
theorem evs_rep (hF:FrameRep N m β σ a) {xs:List Operand} {ys:List Arg} (h:xs.mapM jt=some ys):RepL m β (ys.map (ev σ)) (xs.map a.eval):=by
  obtain ⟨h1,h2⟩:=Zx h;refine ⟨by simp [h1],fun i x v hx hv => ?_⟩;simp only [List.getElem?_map,Option.map_eq_some_iff] at hx hv;obtain ⟨y,hy,rfl⟩:=hx;obtain ⟨z,hz,rfl⟩:=hv;exact jR hF (h2 i z y hz hy)
theorem zJ (m:Imm) (β:Objs):Rep m β (.tuple []) undef:=Rep.tuple [] [] rfl (by simp)
def Does (P:Program) (r:Result Next) (x:V) (S':Store) (m:Imm) (β:Objs) (w:World):Prop :=
  ∃ v w' m' β',(r = .ok (.value v) w'∨(r = .ok .skip w'∧v=undef))∧Rep m' β' x v∧Holds S' m' β' w'∧Ext m β w m' β' w'
theorem Does.same {r:Result Next} {x:V} {v:Value} (hS:Holds S m β w) (hr:r = .ok (.value v) w) (hx:Rep m β x v):Does P r x S m β w :=
  ⟨v,w,m,β, .inl hr,hx,hS,Ext.refl _ _ _⟩
/-! inversions -/
theorem Rep.inv_bool {b:Bool} {v:Value} (h:Rep m β (.bool b) v):v = .bool b:=by cases h with | imm h=>cases h; rfl
theorem Rep.inv_int {k:IntKind} {n:Int} {v:Value} (h:Rep m β (.int k n) v):v = .int k n:=by cases h with | imm h=>cases h; rfl
theorem Rep.inv_str {s:ByteArray} {v:Value} (h:Rep m β (.str s) v):v = .string s:=by cases h with | imm h=>cases h; rfl
theorem Rep.inv_nils {v:Value} (h:Rep m β .nils v) : ∃ a,v = .slice a 0 0:=by cases h with | imm h=>cases h; exact ⟨_,rfl⟩
theorem Rep.inv_agg {xs:List V} {v:Value} (h:Rep m β (.agg xs) v) : ∃ vs:List Value,v = .agg vs.toArray∧xs.length=vs.length ∧
    (∀ (i:Nat) x v,xs[i]? = some x→vs[i]? = some v→Rep m β x v) ∧ ∀ v∈vs,v.oneCell'=true:=by
  cases h with
  | imm h=>cases h with | agg _ vs hl hr h1=>exact ⟨vs,rfl,hl,fun i x v hx hv => .imm (hr i x v hx hv),h1⟩
  | agg _ vs hl hr h1=>exact ⟨vs,rfl,hl,hr,h1⟩
theorem Rep.inv_tuple {xs:List V} {v:Value} (h:Rep m β (.tuple xs) v) : ∃ vs:List Value,v = .tuple vs.toArray∧xs.length=vs.length ∧
    (∀ (i:Nat) x v,xs[i]? = some x→vs[i]? = some v→Rep m β x v):=by
  cases h with
  | imm h=>cases h
  | tuple _ vs hl hr=>exact ⟨vs,rfl,hl,hr⟩
theorem Rep.inv_func {f:FuncId} {xs:List V} {v:Value} (h:Rep m β (.func f xs) v) : ∃ vs:List Value,v = .func (.func f) #[] vs.toArray∧RepL m β xs vs:=by
  cases h with
  | imm h=>cases h
  | func _ _ vs hl hr=>exact ⟨vs,rfl,hl,hr⟩
theorem Rep.inv_ref {x:V} {v:Value} (h:Rep m β (.ref x) v) : ∃ u b off arr T fz,v = .pointer (some ⟨b,off,none⟩)∧m b=some (.cells arr T fz)∧RepI m x u ∧ ∀ (j:Nat) c,u.cells[j]? = some c→arr[off+j]? = some c:=by
  cases h with
  | imm h=>cases h with | ref _ u b off arr T fz hm hr hc=>exact ⟨u,b,off,arr,T,fz,rfl,hm,hr,hc⟩
theorem Rep.inv_list {xs:List V} {v:Value} (h:Rep m β (.list xs) v):RepI m (.list xs) v:=by cases h with | imm h=>exact h
theorem Rep.inv_slice {o off len:Nat} {v:Value} (h:Rep m β (.slice o off len) v) (hd:β o ≠ .dead) : ∃ a cap,v = .slice a len cap∧len≤cap∧cap≤maxLen ∧
    ((β o = .void∧len=0∧cap=0) ∨ ∃ b base s n,β o = .lies b base s n∧(cap=0∨(a=some ⟨b,base+off,none⟩∧base+off+cap*s≤n))):=by
  cases h with
  | imm h=>cases h
  | sliceDead _ _ _ _ h=>exact absurd h hd
  | sliceVoid _ _ a h=>exact ⟨a,0,rfl,Nat.le_refl _,Nat.zero_le _, .inl ⟨h,rfl,rfl⟩⟩
  | slice _ _ _ b base s n cap a h hc hcm ha=>exact ⟨a,cap,rfl,hc,hcm, .inr ⟨b,base,s,n,h,ha⟩⟩
theorem Rep.inv_ptr {o off:Nat} {v:Value} (h:Rep m β (.ptr o off) v) (hd:β o ≠ .dead) : ∃ b base s n,β o = .lies b base s n∧v = .pointer (some ⟨b,base+off,none⟩):=by
  cases h with
  | imm h=>cases h
  | ptrDead _ _ _ h=>exact absurd h hd
  | ptr _ _ b base s n h=>exact ⟨b,base,s,n,h,rfl⟩
theorem Holds.alive (h:Holds S m β w) {o:Nat} {c} (ho:S.get o=some c):β o ≠ .dead:=by
  intro e;have:=h.live o c ho;rw [e] at this;exact this
theorem Kd (b off i:Nat):(⟨b,off,none⟩:Addr).add i=⟨b,off+i,none⟩:=by unfold Addr.add; split<;>simp_all
theorem jaP {arr:Array Value} {T:TypeId} {fz:Nat × Nat} {b:Nat} (h:w.heap[b]? = some (.cells arr T fz)) (off:Nat):w.cell? ⟨b,off,none⟩=arr[off]? := by simp [World.cell?,h]
theorem ZR {t:TypeId} {sz:Option Nat} (h:Program.szOf P t=some sz) (w:World) :
    ∃ i,P.info? t=some i∧(isAgg t).run P w = .ok sz.isSome w∧(∀ n,sz=some n→i.size=n)∧(sz=none→i.size=1):=by
  unfold Program.szOf at h
  cases hu:P.underlying t with
  | none=>simp [hu] at h
  | some d =>
    cases hi:P.info? t with
    | none=>cases d<;>simp [hu,hi] at h
    | some i =>
      refine ⟨i,rfl, ?_⟩
      cases d<;>simp only [hu,hi] at h <;>
        first
        | (cases h; exact ⟨by simp [isAgg,run_underlying hu],(by intro n hn; cases hn; rfl),(by intro hn; cases hn)⟩)
        | (split at h
           ·rename_i hs; cases h; exact ⟨by simp [isAgg,run_underlying hu],(by intro n hn; cases hn),fun _=>hs⟩
           ·cases h)
theorem qB {t:TypeId} {sz:Option Nat} (hsz:Program.szOf P t=some sz) {arr:Array Value} {T:TypeId} {fz:Nat × Nat} {b off:Nat} (hb:w.heap[b]? = some (.cells arr T fz))
    (u:Value) (hu:(∀ n,sz=some n → ∃ vs:List Value,u = .agg vs.toArray∧vs.length=n)∧(sz=none→u.cells = #[u])) (hc : ∀ (j:Nat) c,u.cells[j]? = some c→arr[off+j]? = some c) :
    (loadVar t ⟨b,off,none⟩).run P w = .ok u w:=by
  obtain ⟨i,hi,hagg,hsome,hnone⟩:=ZR hsz w
  cases sz with
  | none =>
    have e:=hu.2 rfl;have h0:=hc 0 u (by simp [e]);simp only [Nat.add_zero] at h0;simp at hagg;simp [loadVar,hagg,jaP hb,h0]
  | some n =>
    obtain ⟨vs,rfl,hl⟩:=hu.1 n rfl;have hcs:=run_loadCells_list (P:=P) w ⟨b,off,none⟩ vs (fun j v hv=>by
      rw [Kd,jaP hb];exact hc j v (by simpa [Value.cells] using hv))
    rw [hl] at hcs;simp at hagg;simp [loadVar,hagg,sizeOf,typeInfo,hi,hsome n rfl,hcs]
theorem Rep.cellwise {x:V} {v:Value} (h:Rep m β x v) (h1:x.cells.all V.one=true):x.cells.length=v.cells.size ∧
    ∀ (i:Nat) c,x.cells[i]? = some c → ∃ u,v.cells[i]? = some u∧Rep m β c u∧u.oneCell'=true:=by
  by_cases hx : ∃ xs,x = .agg xs
  ·obtain ⟨xs,rfl⟩:=hx;obtain ⟨vs,rfl,hl,hr,ho⟩:=h.inv_agg;refine ⟨by simpa [V.cells,Value.cells] using hl,fun i c hc => ?_⟩;simp only [V.cells] at hc;have hi:i<vs.length:=by have:=(List.getElem?_eq_some_iff.1 hc).1; omega
   exact ⟨vs[i],by simp [Value.cells,hi],hr i c _ hc (List.getElem?_eq_getElem hi),ho _ (List.getElem_mem hi)⟩
  ·have e:x.cells=[x]:=by cases x<;>first | rfl | exact absurd ⟨_,rfl⟩ hx
   rw [e] at h1 ⊢;have h1':x.one=true:=by simpa using h1
   have ho:=h.oneCell h1';have ev:v.cells = #[v]:=by cases v<;>first | rfl | simp [Value.oneCell'] at ho
   refine ⟨by simp [ev],fun i c hc => ?_⟩;rw [List.getElem?_singleton] at hc;split at hc
   ·cases hc; rename_i hi; subst hi; exact ⟨v,by simp [ev],h,ho⟩
   ·cases hc
theorem Holds.cells_at (h:Holds S m β w) {o b base s n:Nat} {c:Nat × List V} (ho:S.get o=some c) (hob:β o = .lies b base s n) :
    c.1=s ∧ ∃ arr T,w.heap[b]? = some (.cells arr T (0,0))∧arr.size=n∧base+c.2.length≤n ∧ ∀ (i:Nat) x,c.2[i]? = some x → ∃ v,arr[base+i]? = some v∧Rep m β x v∧v.oneCell'=true:=by
  have:=h.live o c ho;rw [hob] at this;exact this
theorem Jr {arr:Array Value} {base:Nat} {cells:List V} (h : ∀ (i:Nat) x,cells[i]? = some x → ∃ v,arr[base+i]? = some v∧Rep m β x v∧v.oneCell'=true) (off n:Nat) (hle:off+n≤cells.length) :
    ∃ vs:List Value,vs.length=n∧(∀ (j:Nat) v,vs[j]? = some v→arr[base+off+j]? = some v)∧RepL m β ((cells.drop off).take n) vs ∧ ∀ v∈vs,v.oneCell'=true:=by
  refine ⟨(List.range n).map fun j=>arr.getD (base+off+j) undef,by simp,fun j v hj => ?_,⟨by simp; omega,fun i x v hx hv => ?_⟩,fun v hv => ?_⟩
  ·simp only [List.getElem?_map,Option.map_eq_some_iff] at hj;obtain ⟨j',hj',rfl⟩:=hj;obtain ⟨hlt,e⟩:=List.getElem?_eq_some_iff.1 hj';simp at e hlt; subst e;obtain ⟨u,hu,_⟩:=h (off+j) cells[off+j] (List.getElem?_eq_getElem (by omega));rw [←Nat.add_assoc] at hu;simp [Array.getD_eq_getD_getElem?,hu]
  ·simp only [List.getElem?_map,Option.map_eq_some_iff] at hv;obtain ⟨j',hj',rfl⟩:=hv;obtain ⟨hlt,e⟩:=List.getElem?_eq_some_iff.1 hj';simp at e hlt; subst e;rw [List.getElem?_take,if_pos hlt,List.getElem?_drop] at hx;obtain ⟨u,hu,hr,_⟩:=h _ x hx;rw [←Nat.add_assoc] at hu;simp [Array.getD_eq_getD_getElem?,hu,hr]
  ·simp only [List.mem_map,List.mem_range] at hv;obtain ⟨j,hj,rfl⟩:=hv;obtain ⟨u,hu,_,ho⟩:=h (off+j) cells[off+j] (List.getElem?_eq_getElem (by omega));rw [←Nat.add_assoc] at hu;simp [Array.getD_eq_getD_getElem?,hu,ho]
theorem does_load {o:Oper} {t:TypeId} {y:Operand} {z:Arg} {sz:Option Nat} {x:V} (ho:o.op = .load t y) (hsz:Program.szOf P t=some sz) (hz:jt y=some z) (hS:Holds S m β w) (hF:FrameRep N m β σ a)
    (he:Jw sz S (ev σ z)=some x):Does P ((execOp a.eval o).run P w) x S m β w:=by
  have hr:=jR hF hz;generalize ev σ z=p at he hr;have run : ∀ (b off:Nat) u,a.eval y = .pointer (some ⟨b,off,none⟩)→(loadVar t ⟨b,off,none⟩).run P w = .ok u w→(execOp a.eval o).run P w = .ok (.value u) w:=by
    intro b off u h1 h2;simp [execOp,ho,h1,Instr.loadAt,Instr.sureAddr,h2]
  cases p with
  | ref x' =>
    simp only [Jw] at he;split at he
    ·rename_i hok
     cases he
     obtain ⟨u,b,off,arr,T,fz,e,hm,hu,hc⟩:=hr.inv_ref;refine Does.same hS (run b off u e (qB hsz (hS.imm _ _ hm) u ?_ hc)) (.imm hu);refine ⟨fun n hn => ?_,fun hn => ?_⟩
     ·subst hn
      cases x<;>simp [okSz] at hok
      cases hu with | agg xs vs hl _ _=>exact ⟨vs,rfl,by omega⟩
     ·subst hn;simp only [okSz] at hok;have:=(Rep.imm (β:=β) hu).oneCell hok
      cases u<;>first | rfl | simp [Value.oneCell'] at this
    ·cases he
  | ptr o' off =>
    simp only [Jw] at he
    cases hc:S.get o' with
    | none=>simp [hc] at he
    | some c =>
      simp only [hc] at he;obtain ⟨b,base,s,n,hob,e⟩:=hr.inv_ptr (hS.alive hc);obtain ⟨_,arr,T,h1,h2,h3,h4⟩:=hS.cells_at hc hob
      cases sz with
      | none =>
        simp only [WK] at he;obtain ⟨v,hv,hrv,hone⟩:=h4 off x he;have ec:v.cells = #[v]:=by cases v<;>first | rfl | simp [Value.oneCell'] at hone
        refine Does.same hS (run b (base+off) v e (qB hsz h1 v ⟨(by intro n hn; cases hn),fun _=>ec⟩ fun j c' hj => ?_)) hrv;rw [ec] at hj
        cases j with
        | zero=>simp at hj; subst hj; simpa using hv
        | succ j=>simp at hj
      | some k =>
        simp only [WK] at he;split at he
        ·rename_i hle
         cases he
         obtain ⟨vs,hl,hcs,hrl,hone⟩:=Jr h4 off k hle;refine Does.same hS (run b (base+off) (.agg vs.toArray) e (qB hsz h1 _ ⟨(by intro n hn; cases hn; exact ⟨vs,rfl,hl⟩),(by intro hn; cases hn)⟩ fun j c' hj => ?_)) (.agg _ vs hrl.1 hrl.2 hone);exact hcs j c' (by simpa [Value.cells] using hj)
        ·cases he
  | _=>simp [Jw] at he
theorem Yl (cs xs:List V) (off:Nat) (h:off+xs.length≤cs.length) (i:Nat):(qr cs off xs)[i]? = if i<off then cs[i]? else if i<off+xs.length then xs[i-off]? else cs[i]? := by
  simp only [qr,List.append_assoc,List.getElem?_append,List.length_take,List.getElem?_take,List.getElem?_drop];have e:min off cs.length=off:=by omega
  simp only [e];split
  ·simp [*]
  ·split
   ·rename_i h1 h2;rw [if_pos (by omega)]
   ·rename_i h1 h2;rw [if_neg (by omega)]
    congr 1
    omega
theorem Ji (cs xs:List V) (off:Nat) (h:off+xs.length≤cs.length):(qr cs off xs).length=cs.length:=by
  simp [qr]; omega
theorem Wd (cs xs:List Value) (off:Nat) (h:off+xs.length≤cs.length) (i:Nat):(cs.take off++xs++cs.drop (off+xs.length))[i]? = if i<off then cs[i]? else if i<off+xs.length then xs[i-off]? else cs[i]? := by
  simp only [List.append_assoc,List.getElem?_append,List.length_take,List.getElem?_take,List.getElem?_drop];have e:min off cs.length=off:=by omega
  simp only [e];split
  ·simp [*]
  ·split
   ·rename_i h1 h2;rw [if_pos (by omega)]
   ·rename_i h1 h2;rw [if_neg (by omega)]
    congr 1
    omega
theorem Holds.store (hS:Holds S m β w) {o b base s n:Nat} {c:Nat × List V} (ho:S.get o=some c) (hob:β o = .lies b base s n) (off:Nat) (xs:List V) (vs:List Value) (hr:RepL m β xs vs)
    (hone : ∀ v∈vs,v.oneCell'=true) (hle:off+xs.length≤c.2.length) :
    ∃ w',(storeCells ⟨b,base+off,none⟩ vs 0).run P w = .ok () w'∧Holds (S.upd o (c.1,qr c.2 off xs)) m β w'∧Ext m β w m β w':=by
  obtain ⟨hs,arr,T,h1,h2,h3,h4⟩:=hS.cells_at ho hob;have hl:=hr.1;have hst:=run_storeCells_at P b (base+off) T vs 0 arr w h1 (by simp; omega) hone;refine ⟨_,hst, ?_⟩;rw [hs];refine hS.setRow ho hob _ ?_ (qr c.2 off xs) (by rw [Ji _ _ _ hle]; exact h3) fun i x hx => ?_
  ·simp; omega
  ·rw [Yl _ _ _ hle] at hx;simp only [List.getElem?_toArray,Nat.add_zero];rw [Wd _ _ _ (by simp; omega)]
   by_cases hi:i<off
   ·rw [if_pos hi] at hx;rw [if_pos (by omega)];obtain ⟨v,e1,e2,e3⟩:=h4 i x hx;exact ⟨v,by simpa using e1,e2,e3⟩
   ·rw [if_neg hi] at hx;rw [if_neg (by omega)]
    by_cases hi2:i<off+xs.length
    ·rw [if_pos hi2] at hx;rw [if_pos (by omega)];have hlt:i-off<vs.length:=by omega
     refine ⟨vs[i-off], ?_,hr.2 _ x _ hx (List.getElem?_eq_getElem hlt),hone _ (List.getElem_mem hlt)⟩;rw [show base+i-(base+off)=i-off from by omega];exact List.getElem?_eq_getElem hlt
    ·rw [if_neg hi2] at hx;rw [if_neg (by omega)];obtain ⟨v,e1,e2,e3⟩:=h4 i x hx;exact ⟨v,by simpa using e1,e2,e3⟩
theorem set_splice (cs:List V) (off:Nat) (x:V) (h:off<cs.length):cs.set off x=qr cs off [x]:=by
  apply List.ext_getElem?
  intro i;rw [Yl cs [x] off (by simp; omega),List.getElem?_set]
  by_cases h1:off=i
  ·subst h1; simp [h]
  ·rw [if_neg h1]
   by_cases h2:i<off
   ·rw [if_pos h2]
   ·rw [if_neg h2,if_neg (by simp; omega)]
theorem does_store {o:Oper} {t:TypeId} {p u:Operand} {pz uz:Arg} {sz:Option Nat} {S':Store} (ho:o.op = .store t p u) (hsz:Program.szOf P t=some sz) (hp:jt p=some pz) (hu:jt u=some uz)
    (hS:Holds S m β w) (hF:FrameRep N m β σ a) (he:Yv sz S (ev σ pz) (ev σ uz)=some S'):Does P ((execOp a.eval o).run P w) (.tuple []) S' m β w:=by
  have hrp:=jR hF hp;have hru:=jR hF hu;generalize ev σ pz=p' at he hrp;generalize ev σ uz=u' at he hru
  cases p' with
  | ptr o' off =>
    simp only [Yv] at he
    cases hc:S.get o' with
    | none=>simp [hc] at he
    | some c =>
      obtain ⟨b,base,s,n,hob,e⟩:=hrp.inv_ptr (hS.alive hc);obtain ⟨i,hi,hagg,hsome,hnone⟩:=ZR hsz w
      -- the cells stored
      have go : ∀ (xs:List V) (vs:List Value),RepL m β xs vs→(∀ v∈vs,v.oneCell'=true)→(a.eval u).cells=vs.toArray→vs.length=i.size→off+xs.length≤c.2.length →
          Does P ((execOp a.eval o).run P w) (.tuple []) (S.upd o' (c.1,qr c.2 off xs)) m β w:=by
        intro xs vs h1 h2 h3 h4 h5;obtain ⟨w',g1,g2,g3⟩:=hS.store (P:=P) hc hob off xs vs h1 h2 h5;refine ⟨undef,w',m,β, .inr ⟨?_,rfl⟩,zJ m β,g2,g3⟩;simp [execOp,ho,e,Instr.storeAt,Instr.sureAddr,storeVar,h3,sizeOf,typeInfo,hi,h4,g1]
      cases sz with
      | none =>
        simp only [hc] at he;split at he
        ·rename_i hok
         cases he
         rw [set_splice _ _ _ hok.1];have hone:=hru.oneCell hok.2;have ec:(a.eval u).cells = #[a.eval u]:=by
           cases hv:a.eval u<;>first | rfl | (rw [hv] at hone; simp [Value.oneCell'] at hone)
         exact go [u'] [a.eval u] (RepL.cons hru (RepL.nil _ _)) (by simpa using hone) (by simpa using ec) (by simp [hnone rfl]) (by simp; omega)
        ·cases he
      | some k =>
        simp only [hc] at he
        cases u' with
        | agg cs =>
          simp only at he;split at he
          ·rename_i hok
           cases he
           obtain ⟨vs,e2,hl,hr,hone⟩:=hru.inv_agg;exact go cs vs ⟨hl,hr⟩ hone (by simp [e2,Value.cells]) (by rw [hsome k rfl]; omega) (by omega)
          ·cases he
        | _=>simp at he
  | _=>simp [Yv] at he
end
end Go.Vw
/-
 Each operation over values without addresses is the model's: the rest.
-/
namespace Go.Vw
open Go.RowKit
section
variable {P:Program} {N:Nat} {S:Store} {m:Imm} {β:Objs} {w:World} {σ:Fr} {a:Act}
theorem JT {t e:TypeId} {i:TypeInfo} (h:Program.slc P t=some (e,i)):P.underlying t=some (.slice e)∧P.info? e=some i:=by
 unfold Program.slc at h;split at h
 ·rename_i e' hu;split at h
  ·rename_i i' hi; cases h; exact ⟨hu,hi⟩
  ·cases h
 ·cases h
theorem does_index {o:Oper} {t e:TypeId} {j:TypeInfo} {y i:Operand} {z iz:Arg} {x:V} (ho:o.op = .indexAddr t y i) (hs:Program.slc P t=some (e,j)) (hz:jt y=some z) (hi:jt i=some iz)
  (hS:Holds S m β w) (hF:FrameRep N m β σ a) (he:qj j.size S (ev σ z) (ev σ iz)=some x):Does P ((execOp a.eval o).run P w) x S m β w:=by
 obtain ⟨hu,hj⟩:=JT hs;have hr:=jR hF hz;have hri:=jR hF hi;generalize ev σ z=p at he hr;generalize ev σ iz=q at he hri;have run : ∀ (b off len cap:Nat) (k:IntKind) (n:Int),a.eval y = .slice (some ⟨b,off,none⟩) len cap→a.eval i = .int k n→0≤n→n<len →
   (execOp a.eval o).run P w = .ok (.value (.pointer (some ⟨b,off+n.toNat*j.size,none⟩))) w:=by
  intro b off len cap k n h1 h2 h3 h4;simp [execOp,ho,h1,h2,Instr.indexAt,asIntOf,run_underlying hu,h3,h4,sizeOf,typeInfo,hj,Kd]
 cases q with
 | int k n =>
  have e2:=hri.inv_int
  cases p with
  | list xs =>
   simp only [qj] at he;split at he
   ·rename_i h0
    cases hx:xs[n.toNat]? with
    | none=>simp [hx] at he
    | some y' =>
     simp only [hx] at he;split at he
     ·rename_i hsz
      cases he
      have hl:=hr.inv_list
      cases hq:a.eval y with
      | slice ad len cap =>
       rw [hq] at hl;have hlt:n.toNat<xs.length:=(List.getElem?_eq_some_iff.1 hx).1
       cases hl with
       | list0=>simp at hlt
       | list _ vs b off _ s arr T fz hm hl hc hcm hs' hr' hcells =>
        have hv:n.toNat<vs.length:=by omega
        have hrv:=hr' n.toNat y' vs[n.toNat] hx (List.getElem?_eq_getElem hv);have hsz':s=j.size:=by rw [←hs' _ (List.getElem_mem hv),hrv.cells_size,hsz]
        subst hsz';refine Does.same hS (run b off _ _ k n hq e2 h0 (by omega)) (.imm (.ref y' vs[n.toNat] b _ arr T fz hm hrv fun jj c hc' => ?_));exact hcells n.toNat _ jj c (List.getElem?_eq_getElem hv) hc'
      | _=>rw [hq] at hl; cases hl
     ·cases he
   ·cases he
  | slice o' off len =>
   simp only [qj] at he;split at he
   ·rename_i h0
    cases he
    obtain ⟨c,hc⟩:=Option.isSome_iff_exists.1 h0.1;obtain ⟨ad,cap,e1,hlc,hcm,hcase⟩:=hr.inv_slice (hS.alive hc);rcases hcase with ⟨_,h1,_⟩ | ⟨b,base,s,nn,hob,hcase⟩
    ·omega
    ·rcases hcase with hcase | ⟨had,hroom⟩
     ·omega
     ·subst had;refine Does.same hS (run b (base+off) len cap k n e1 e2 h0.2.1 h0.2.2) ?_;have:=Rep.ptr (m:=m) o' (off+n.toNat*j.size) b base s nn hob
      rwa [←Nat.add_assoc] at this
   ·cases he
  | _=>simp [qj] at he
 | _=>cases p<;>simp [qj] at he
theorem fld_spec {t:TypeId} {f off:Nat} {sz:Option Nat} (h:Program.fld P t f=some (off,sz)) :
  ∃ fs fd i,P.underlying t=some (.struct fs)∧fs[f]? = some fd∧fd.offset=off∧Program.szOf P fd.type=some sz∧P.info? fd.type=some i∧i.size≠0:=by
 unfold Program.fld at h;split at h
 ·rename_i fs hu;split at h
  ·rename_i fd hf;split at h
   ·rename_i sz' j h1 h2;split at h
    ·cases h
    ·rename_i h3; cases h; exact ⟨fs,fd,j,hu,hf,rfl,h1,h2,h3⟩
   ·cases h
  ·cases h
 ·cases h
theorem partI {xs:List V} {vs:List Value} (hl:xs.length=vs.length) (hr : ∀ (i:Nat) x v,xs[i]? = some x→vs[i]? = some v→RepI m x v) (h1 : ∀ v∈vs,v.oneCell'=true) {off:Nat} {sz:Option Nat} {y:V}
  (he:WK xs off sz=some y) : ∃ u,RepI m y u∧(∀ (j:Nat) c,u.cells[j]? = some c→vs[off+j]? = some c):=by
 cases sz with
 | none =>
  simp only [WK] at he;have hlt:off<xs.length:=(List.getElem?_eq_some_iff.1 he).1;have hv:off<vs.length:=by omega
  refine ⟨vs[off],hr off y _ he (List.getElem?_eq_getElem hv),fun j c hc => ?_⟩;have ho:=h1 _ (List.getElem_mem hv);have ec:(vs[off]).cells = #[vs[off]]:=by cases hq:vs[off]<;>first | rfl | (rw [hq] at ho; simp [Value.oneCell'] at ho)
  rw [ec] at hc
  cases j with
  | zero=>simp at hc; subst hc; simp [hv]
  | succ j=>simp at hc
 | some n =>
  simp only [WK] at he;split at he
  ·rename_i hle
   cases he
   refine ⟨.agg ((vs.drop off).take n).toArray, .agg _ _ (by simp; omega) (fun i x v hx hv => ?_) (fun v hv=>h1 v (List.mem_of_mem_drop (List.mem_of_mem_take hv))),fun j c hc => ?_⟩
   ·rw [List.getElem?_take] at hx hv;split at hx
    ·rename_i hi; rw [if_pos hi] at hv; rw [List.getElem?_drop] at hx hv; exact hr _ x v hx hv
    ·cases hx
   ·simp only [Value.cells,List.getElem?_toArray,List.getElem?_take] at hc;split at hc
    ·rw [List.getElem?_drop] at hc; exact hc
    ·cases hc
  ·cases he
theorem jbe {o:Oper} {t:TypeId} {f off:Nat} {sz:Option Nat} {y:Operand} {z:Arg} {x:V} (ho:o.op = .fieldAddr t y f) (hf:Program.fld P t f=some (off,sz)) (hz:jt y=some z)
  (hS:Holds S m β w) (hF:FrameRep N m β σ a) (he:jO off sz S (ev σ z)=some x):Does P ((execOp a.eval o).run P w) x S m β w:=by
 obtain ⟨fs,fd,i,hu,hfd,rfl,hsz,hi,h0⟩:=fld_spec hf;have hr:=jR hF hz;generalize ev σ z=p at he hr;have run : ∀ (b q:Nat),a.eval y = .pointer (some ⟨b,q,none⟩)→(execOp a.eval o).run P w = .ok (.value (.pointer (some ⟨b,q+fd.offset,none⟩))) w:=by
  intro b q h1;simp [execOp,ho,h1,Instr.fieldAt,run_underlying hu,hfd,Instr.sureAddr,fieldPlace,sizeOf,typeInfo,hi,h0,Kd]
 cases p with
 | ptr o' q =>
  simp only [jO] at he;split at he
  ·rename_i hs
   cases he
   obtain ⟨c,hc⟩:=Option.isSome_iff_exists.1 hs;obtain ⟨b,base,s,n,hob,e⟩:=hr.inv_ptr (hS.alive hc);refine Does.same hS (run b _ e) ?_;have:=Rep.ptr (m:=m) o' (q+fd.offset) b base s n hob
   rwa [←Nat.add_assoc] at this
  ·cases he
 | ref x' =>
  cases x' with
  | agg cs =>
   simp only [jO,Option.map_eq_some_iff] at he;obtain ⟨y',hy,rfl⟩:=he;obtain ⟨u,b,q,arr,T,fz,e,hm,hu',hc⟩:=hr.inv_ref
   cases hu' with
   | agg xs vs hl hr' h1 =>
    obtain ⟨v,hv,hcs⟩:=partI hl hr' h1 hy;refine Does.same hS (run b _ e) (.imm (.ref y' v b _ arr T fz hm hv fun j c hj => ?_));have:=hc (fd.offset+j) c (by simpa [Value.cells] using hcs j c hj)
    rwa [←Nat.add_assoc] at this
  | _=>simp [jO] at he
 | _=>simp [jO] at he
theorem partR {xs:List V} {vs:List Value} (hl:xs.length=vs.length) (hr : ∀ (i:Nat) x v,xs[i]? = some x→vs[i]? = some v→Rep m β x v) (h1 : ∀ v∈vs,v.oneCell'=true) {off:Nat} {sz:Option Nat} {y:V}
  (he:WK xs off sz=some y):(sz=none → ∃ u,vs[off]? = some u∧Rep m β y u)∧(∀ n,sz=some n→off+n≤vs.length∧Rep m β y (.agg ((vs.drop off).take n).toArray)):=by
 cases sz with
 | none =>
  simp only [WK] at he;have hlt:off<xs.length:=(List.getElem?_eq_some_iff.1 he).1;have hv:off<vs.length:=by omega
  exact ⟨fun _=>⟨vs[off],List.getElem?_eq_getElem hv,hr off y _ he (List.getElem?_eq_getElem hv)⟩,(by intro n hn; cases hn)⟩
 | some n =>
  simp only [WK] at he;split at he
  ·rename_i hle
   cases he
   refine ⟨(by intro hn; cases hn),fun k hk => ?_⟩
   cases hk
   refine ⟨by omega, .agg _ _ (by simp; omega) (fun i x v hx hv => ?_) (fun v hv=>h1 v (List.mem_of_mem_drop (List.mem_of_mem_take hv)))⟩;rw [List.getElem?_take] at hx hv;split at hx
   ·rename_i hi; rw [if_pos hi] at hv; rw [List.getElem?_drop] at hx hv; exact hr _ x v hx hv
   ·cases hx
  ·cases he
theorem does_field {o:Oper} {t:TypeId} {f off:Nat} {sz:Option Nat} {y:Operand} {z:Arg} {x:V} (ho:o.op = .field t y f) (hf:Program.fld P t f=some (off,sz)) (hz:jt y=some z)
  (hS:Holds S m β w) (hF:FrameRep N m β σ a) (he:Yx off sz (ev σ z)=some x):Does P ((execOp a.eval o).run P w) x S m β w:=by
 obtain ⟨fs,fd,i,hu,hfd,rfl,hsz,hi,h0⟩:=fld_spec hf;have hr:=jR hF hz;generalize ev σ z=p at he hr
 cases p with
 | agg cs =>
  simp only [Yx] at he;obtain ⟨vs,e,hl,hr',h1⟩:=hr.inv_agg;obtain ⟨hn,hs⟩:=partR hl hr' h1 he;obtain ⟨i',hi',hagg,hsome,hnone⟩:=ZR hsz w;rw [hi] at hi'; cases hi'
  cases sz with
  | none =>
   obtain ⟨u,hu',hru⟩:=hn rfl;simp at hagg;refine Does.same hS ?_ hru;simp [execOp,ho,e,Instr.field,run_underlying hu,hfd,asAgg,part,hagg,hu']
  | some n =>
   obtain ⟨hle,hru⟩:=hs n rfl;simp at hagg;refine Does.same hS ?_ hru;simp [execOp,ho,e,Instr.field,run_underlying hu,hfd,asAgg,part,hagg,sizeOf,typeInfo,hi,hsome n rfl]
 | _=>simp [Yx] at he
theorem Jy {α γ:Type} (f:α→List γ) (s:Nat) (hs:0<s) : ∀ (l:List α),(∀ x∈l,(f x).length=s) → ∀ q:Nat,(l.flatMap f)[q]? = (l[q / s]?).bind fun x=>(f x)[q % s]?
 | [],_,q=>by simp
 | x::l,h,q=>by
  have ih:=Jy f s hs l (fun y hy=>h y (List.mem_cons_of_mem _ hy));have hx:=h x List.mem_cons_self;simp only [List.flatMap_cons,List.getElem?_append,hx]
  by_cases hq:q<s
  ·rw [if_pos hq,Nat.div_eq_of_lt hq,Nat.mod_eq_of_lt hq]; rfl
  ·rw [if_neg hq,ih];have e1:q / s=(q-s) / s+1:=by
    have:=Nat.add_div_right (q-s) hs;rw [Nat.sub_add_cancel (by omega)] at this;exact this
   have e2:q % s=(q-s) % s:=by
    have:=Nat.add_mod_right (q-s) s;rw [Nat.sub_add_cancel (by omega)] at this;exact this
   rw [e1,e2]; rfl
theorem zT {α γ:Type} (f:α→List γ) (s:Nat) : ∀ (l:List α),(∀ x∈l,(f x).length=s)→(l.flatMap f).length=l.length*s
 | [],_=>by simp
 | x::l,h=>by
  have ih:=zT f s l (fun y hy=>h y (List.mem_cons_of_mem _ hy));simp [h x List.mem_cons_self,ih,Nat.succ_mul,Nat.add_comm]
def Src (m:Imm) (β:Objs) (w:World) (s:Nat) (v:Value) (new:List V) (k:Nat):Prop :=
 ∃ ad cap,v = .slice ad k cap∧k≤cap∧cap≤maxLen ∧ ∃ vs:List Value,vs.length=k*s∧RepL m β new vs∧(∀ v∈vs,v.oneCell'=true) ∧
  (vs=[] ∨ ∃ b off,ad=some ⟨b,off,none⟩ ∧ ∀ (j:Nat) u,vs[j]? = some u→w.cell? ⟨b,off+j,none⟩=some u)
theorem RepI.ones {x:V} {v:Value} (h:RepI m x v):(∀ c∈v.cells,c.oneCell'=true)∧x.cells.length=v.cells.size ∧ ∀ (i:Nat) c u,x.cells[i]? = some c→v.cells[i]? = some u→RepI m c u:=by
 have single:x.cells=[x]→v.cells = #[v]→v.oneCell'=true→(∀ c∈v.cells,c.oneCell'=true)∧x.cells.length=v.cells.size ∧ ∀ (i:Nat) c u,x.cells[i]? = some c→v.cells[i]? = some u→RepI m c u:=by
  intro e1 e2 e3;rw [e1,e2];refine ⟨fun c hc=>by simp at hc; subst hc; exact e3,rfl,fun i c u hc hu => ?_⟩
  cases i with
  | zero=>simp at hc hu; subst hc; subst hu; exact h
  | succ i=>simp at hc
 cases h with
 | agg xs vs hl hr h1=>exact ⟨fun c hc=>h1 c (by simpa [Value.cells] using hc),by simpa [V.cells,Value.cells] using hl,fun i c u hc hu=>hr i c u hc (by simpa [Value.cells] using hu)⟩
 | _=>exact single rfl rfl rfl
theorem src_spec {s:Nat} {p:V} {v:Value} {new:List V} {k:Nat} (hS:Holds S m β w) (hr:Rep m β p v) (he:jU s S p=some (new,k)):Src m β w s v new k:=by
 cases p with
 | nils =>
  simp only [jU] at he; cases he;obtain ⟨ad,e⟩:=hr.inv_nils;exact ⟨ad,0,e,Nat.le_refl _,Nat.zero_le _,[],by simp,RepL.nil _ _,by simp, .inl rfl⟩
 | list xs =>
  simp only [jU] at he;split at he
  ·rename_i hall
   cases he
   have hall' : ∀ x∈xs,x.ncells=s:=by simpa using hall
   have hl:=hr.inv_list
   cases hv:v with
   | slice ad len cap =>
    rw [hv] at hl
    cases hl with
    | list0 _ _ hc=>exact ⟨ad,cap,rfl,Nat.zero_le _,hc,[],by simp,RepL.nil _ _,by simp, .inl rfl⟩
    | list _ vs b off _ s' arr T fz hm hl hc hcm hs' hr' hcells =>
     by_cases h0:xs=[]
     ·subst h0;exact ⟨_,cap,rfl,hc,hcm,[],by simp,RepL.nil _ _,by simp, .inl rfl⟩
     ·have hss:s'=s:=by
       have hp:0<xs.length:=List.length_pos_iff.2 h0;have hpv:0<vs.length:=by omega
       have h1:=hr' 0 xs[0] vs[0] (List.getElem?_eq_getElem hp) (List.getElem?_eq_getElem hpv);rw [←hs' vs[0] (List.getElem_mem hpv),h1.cells_size,hall' _ (List.getElem_mem hp)]
      subst hss;have lx : ∀ x∈xs,(V.cells x).length=s':=fun x hx=>by
       rw [←hall' x hx]; cases x<;>rfl
      have lv : ∀ u∈vs,u.cells.toList.length=s':=fun u hu=>by simpa using hs' u hu
      refine ⟨_,cap,rfl,hc,hcm,vs.flatMap fun u=>u.cells.toList,by rw [zT _ s' vs lv,hl],⟨by rw [zT _ s' xs lx,zT _ s' vs lv,hl], ?_⟩, ?_, ?_⟩
      ·intro i x u hx hu
       by_cases hs0:s'=0
       ·have:=zT _ s' xs lx;rw [hs0,Nat.mul_zero] at this;rw [List.eq_nil_of_length_eq_zero this] at hx
        cases hx
       ·rw [Jy _ s' (by omega) xs lx] at hx;rw [Jy _ s' (by omega) vs lv] at hu;obtain ⟨x',hx1,hx2⟩:=Option.bind_eq_some_iff.1 hx;obtain ⟨u',hu1,hu2⟩:=Option.bind_eq_some_iff.1 hu;exact .imm ((hr' _ x' u' hx1 hu1).ones.2.2 _ x u hx2 (by simpa using hu2))
      ·intro u hu;obtain ⟨u',hu1,hu2⟩:=List.mem_flatMap.1 hu;obtain ⟨i,hi,rfl⟩:=List.getElem_of_mem hu1;exact (hr' i xs[i] vs[i] (List.getElem?_eq_getElem (by omega)) (List.getElem?_eq_getElem hi)).ones.1 u (by simpa using hu2)
      ·refine .inr ⟨b,off,rfl,fun j u hj => ?_⟩
       by_cases hs0:s'=0
       ·have:=zT _ s' vs lv;rw [hs0,Nat.mul_zero] at this;rw [List.eq_nil_of_length_eq_zero this] at hj
        cases hj
       ·rw [Jy _ s' (by omega) vs lv] at hj;obtain ⟨u',hu1,hu2⟩:=Option.bind_eq_some_iff.1 hj;rw [jaP (hS.imm _ _ hm)];have:=hcells (j / s') u' (j % s') u hu1 (by simpa using hu2);rw [Nat.add_assoc,Nat.mul_comm,Nat.div_add_mod] at this;exact this
   | _=>rw [hv] at hl; cases hl
  ·cases he
 | slice o off len =>
  simp only [jU] at he
  cases hc:S.get o with
  | none=>simp [hc] at he
  | some c =>
   simp only [hc] at he;split at he
   ·rename_i hle
    cases he
    obtain ⟨ad,cap,e,hlc,hcm,hcase⟩:=hr.inv_slice (hS.alive hc);rcases hcase with ⟨hv,h1,h2⟩ | ⟨b,base,s',n,hob,hcase⟩
    ·subst h1;exact ⟨ad,cap,e,hlc,hcm,[],by simp,by simpa using RepL.nil m β,by simp, .inl rfl⟩
    ·obtain ⟨_,arr,T,h1,h2,h3,h4⟩:=hS.cells_at hc hob;rcases hcase with hcap | ⟨had,hroom⟩
     ·have h0:k=0:=by omega
      subst h0;exact ⟨ad,cap,e,hlc,hcm,[],by simp,by simpa using RepL.nil m β,by simp, .inl rfl⟩
     ·obtain ⟨vs,hl,hcs,hrl,hone⟩:=Jr h4 off (k*s) hle;exact ⟨ad,cap,e,hlc,hcm,vs,hl,hrl,hone, .inr ⟨b,base+off,had,fun j u hj=>by rw [jaP h1]; exact hcs j u hj⟩⟩
   ·cases he
 | _=>simp [jU] at he
theorem JL {s k n:Nat} {v:Value} {ad:Option Addr} {cap:Nat} {vs:List Value} (hv:v = .slice ad k cap) (hn:n≤k) (hl:vs.length=k*s)
  (h:vs=[] ∨ ∃ b off,ad=some ⟨b,off,none⟩ ∧ ∀ (j:Nat) u,vs[j]? = some u→w.cell? ⟨b,off+j,none⟩=some u):(Builtin.firstCells s n v).run P w = .ok (vs.take (n*s)).toArray w:=by
 subst hv;have hle:n*s≤k*s:=Nat.mul_le_mul_right _ hn;rcases h with h | ⟨b,off,rfl,hc⟩
 ·subst h;have h0:n*s=0:=by rw [←hl] at hle; simpa using hle
  cases ad with
  | none=>simp [Builtin.firstCells]
  | some a'=>simp [Builtin.firstCells,h0,loadCells,loadCellsFrom]
 ·have hlen:(vs.take (n*s)).length=n*s:=by simp; omega
  refine run_firstCells_some w s n ⟨b,off,none⟩ k cap _ hlen fun j u hj => ?_
  rw [Kd];rw [List.getElem?_take] at hj;split at hj
  ·exact hc j u hj
  ·cases hj
theorem Kg {t ty e:TypeId} {i:TypeInfo} (ht:P.underlying t=some (.slice e)) (hi:P.info? e=some i) (ad ad2:Option Addr) (sLen sCap k c2:Nat) (news:Array Value) (w':World)
  (hf:(Builtin.firstCells i.size k (.slice ad2 k c2)).run P w = .ok news w) (hroom:sLen+k≤sCap)
  (hst : ∀ a',ad=some a'→(storeCells (a'.add (sLen*i.size)) news.toList).run P w = .ok () w') (hst0:ad=none→w'=w) :
  (Builtin.append_ #[t,t] ty #[.slice ad sLen sCap, .slice ad2 k c2]).run P w = .ok (.slice ad (sLen+k) sCap) w':=by
 cases ad with
 | none=>rw [hst0 rfl]; simp [Builtin.append_,run_underlying ht,sizeOf,typeInfo,hi,Builtin.lenOf,hroom,hf]
 | some a'=>simp [Builtin.append_,run_underlying ht,sizeOf,typeInfo,hi,Builtin.lenOf,hroom,hf,hst a' rfl]
theorem Zm {t ty e:TypeId} {i:TypeInfo} {z:Value} (ht:P.underlying t=some (.slice e)) (hi:P.info? e=some i) (hz:i.zero=some z) (ad ad2:Option Addr) (sLen sCap k c2:Nat) (olds news:Array Value)
  (hf:(Builtin.firstCells i.size k (.slice ad2 k c2)).run P w.drew = .ok news w.drew) (hfo:(Builtin.firstCells i.size sLen (.slice ad sLen sCap)).run P w.drew = .ok olds w.drew)
  (hg:sCap<sLen+k) (h63:sLen+k≤140737488355328) (hb:(sLen+k)*i.bytes≤140737488355328) :
  (Builtin.append_ #[t,t] ty #[.slice ad sLen sCap, .slice ad2 k c2]).run P w =
   .ok (.slice (some ⟨w.heap.size,0,none⟩) (sLen+k) (grownCap w (sLen+k) sCap e)) (w.drew.alloc (.cells (olds++news++Builtin.zeroCells z.cells (grownCap w (sLen+k) sCap e-(sLen+k))) e)):=by
 have hn : ¬ (sLen+k≤sCap):=by omega
 have h63' : ¬ (9223372036854775807<((sLen:Int)+(k:Int))):=by omega
 have h48:=growslice_fits hg hb;have h48' : ¬ (281474976710656<Builtin.nextslicecap (sLen+k) sCap*i.bytes):=by omega
 simp [Builtin.append_,run_underlying ht,sizeOf,typeInfo,zeroValue,hi,hz,Builtin.lenOf,hn,h63',h48',Question.forced,hf,hfo,newRow,grownCap]
end
end Go.Vw
/-
 Each operation over values without addresses is the model's: what makes memory.
-/
namespace Go.Vw
open Go.RowKit
section
variable {P:Program} {N:Nat} {S:Store} {m:Imm} {β:Objs} {w:World} {σ:Fr} {a:Act}
theorem Jo {t:TypeId} {z:List V} (h:Program.zeroV P t=some z) : ∃ i zv,P.info? t=some i∧i.zero=some zv∧zv.cells.size=i.size∧z.length=i.size ∧
  ∀ (j:Nat) x,z[j]? = some x → ∃ u,zv.cells[j]? = some u∧RepI m x u∧u.oneCell'=true∧x.one=true:=by
 unfold Program.zeroV at h;split at h
 ·rename_i i hi;split at h
  ·rename_i zv hz;split at h
   ·rename_i hs;obtain ⟨h1,h2⟩:=Zx h;refine ⟨i,zv,hi,hz,hs,by rw [←h1]; simpa using hs,fun j x hx => ?_⟩;have hlt:j<zv.cells.toList.length:=by rw [h1]; exact (List.getElem?_eq_some_iff.1 hx).1
    have hc:=h2 j _ x (List.getElem?_eq_getElem hlt) hx;have hlt':j<zv.cells.size:=by simpa using hlt
    exact ⟨_,by rw [←Array.getElem?_toList]; exact List.getElem?_eq_getElem hlt,Wn hc,(Wo hc).1,(Wo hc).2⟩
   ·cases h
  ·cases h
 ·cases h
theorem YK {S':Store} {m:Imm} {β:Objs} {w0 w:World} (hS:Holds S' m β w) (hw : ∀ k,k<w0.heap.size→w.heap[k]? = w0.heap[k]?) (hsz:w.heap.size=w0.heap.size)
  {s:Nat} {new:List V} {T:TypeId} (arr:Array Value) (len cap:Nat) (hle:new.length≤arr.size) (hlc:len≤cap) (hcm:cap≤maxLen) (harr:cap*s≤arr.size)
  (hr : ∀ (i:Nat) x,new[i]? = some x → ∃ v,arr[i]? = some v∧Rep m β x v∧v.oneCell'=true) :
  ∃ β',Rep m β' (.slice S'.nx 0 len) (.slice (some ⟨w.heap.size,0,none⟩) len cap)∧Holds (S'.add (s,new)) m β' (w.alloc (.cells arr T))∧Ext m β w m β' (w.alloc (.cells arr T)):=by
 obtain ⟨h1,h2,h3⟩:=hS.alloc arr T s new hle hr;refine ⟨_, ?_,h1,h2⟩;have:=Rep.slice (m:=m) (β:=β.set S'.nx (.lies w.heap.size 0 s arr.size)) S'.nx 0 len w.heap.size 0 s arr.size cap (some ⟨w.heap.size,0,none⟩) h3 hlc hcm (.inr ⟨rfl,by simpa using harr⟩);exact this
theorem Ext.drewl {m:Imm} {β:Objs} {w:World} {m':Imm} {β':Objs} {w':World} (h:Ext m β w.drew m' β' w'):Ext m β w m' β' w':=(Ext.drew m β w).trans h
theorem Ext.dropNew {m:Imm} {β β':Objs} {w w':World} {o:Nat} (h:Ext m (β.set o .dead) w m β' w') (hm : ∀ b,(β o).block? = some b→m b=none):Ext m β w m β' w':=by
 refine ⟨h.imm,(Step.kill β o).trans h.step,h.size,fun b hb h1 h2 => ?_,h.os,h.tape,h.output⟩;refine h.keep b hb h1 fun o' ho' => ?_
 by_cases e:o'=o
 ·subst e; rw [Objs.set_same] at ho'; cases ho'
 ·rw [Objs.set_other _ _ e] at ho'; exact h2 o' ho'
theorem does_append {o:Oper} {t e:TypeId} {i:TypeInfo} {zs:List V} {y u:Operand} {yz uz:Arg} {x:V} {S':Store} (ho:o.op = .call { callee := .builtin .append,args := #[y,u],argTypes := #[t,t] })
  (hs:Program.slc P t=some (e,i)) (hzv:Program.zeroV P e=some zs) (h0:0<i.size) (hy:jt y=some yz) (hu:jt u=some uz) (hS:Holds S m β w) (hF:FrameRep N m β σ a)
  (he:jY i.size i.bytes S (ev σ yz) (ev σ uz)=some (x,S')):Does P ((execOp a.eval o).run P w) x S' m β w:=by
 obtain ⟨hut,hi⟩:=JT hs;obtain ⟨i',z,hi',hz,hzs,_⟩:=Jo (m:=m) hzv;rw [hi] at hi'; cases hi';have hry:=jR hF hy;have hru:=jR hF hu;generalize ev σ yz=p at he hry;generalize ev σ uz=q at he hru;simp only [jY] at he
 cases hq:jU i.size S q with
 | none=>simp [hq] at he
 | some nk =>
  obtain ⟨new,k⟩:=nk;simp only [hq] at he;obtain ⟨ad2,c2,e2,hk2,hcm2,vs,hvl,hvr,hvo,hvc⟩:=src_spec hS hru hq;have hnl:new.length=k*i.size:=by rw [hvr.1,hvl]
  have hvc':vs=[] ∨ ∃ b off,ad2=some ⟨b,off,none⟩ ∧ ∀ (j:Nat) u,vs[j]? = some u→w.drew.cell? ⟨b,off+j,none⟩=some u:=hvc
  have hf:(Builtin.firstCells i.size k (.slice ad2 k c2)).run P w = .ok vs.toArray w:=by
   have:=JL (P:=P) (n:=k) (v := .slice ad2 k c2) rfl (Nat.le_refl k) hvl hvc
   rwa [List.take_of_length_le (by omega)] at this
  have hfd:(Builtin.firstCells i.size k (.slice ad2 k c2)).run P w.drew = .ok vs.toArray w.drew:=by
   have:=JL (P:=P) (n:=k) (v := .slice ad2 k c2) rfl (Nat.le_refl k) hvl hvc'
   rwa [List.take_of_length_le (by omega)] at this
  have run : ∀ ad (sl sc:Nat) v' w',a.eval y = .slice ad sl sc→(Builtin.append_ #[t,t] o.type #[.slice ad sl sc, .slice ad2 k c2]).run P w = .ok v' w'→(execOp a.eval o).run P w = .ok (.value v') w':=by
   intro ad sl sc v' w' h1 h2;simp [execOp,ho,resolve,invoke,builtin,h1,e2,h2]
  -- a new row
  have grow : ∀ ad (sl sc:Nat) (old:List V) (ovs:List Value) (S1:Store) (β1:Objs),a.eval y = .slice ad sl sc→old.length=sl*i.size→RepL m β old ovs→(∀ v∈ovs,v.oneCell'=true) →
    (Builtin.firstCells i.size sl (.slice ad sl sc)).run P w.drew = .ok ovs.toArray w.drew→sc<sl+k→(sl+k)*i.bytes≤140737488355328→sl+k≤140737488355328 →
    Holds S1 m β1 w→Step β β1→(∀ β' w',Ext m β1 w m β' w'→Ext m β w m β' w')→Does P ((execOp a.eval o).run P w) (.slice S1.nx 0 (sl+k)) (S1.add (i.size,old++new)) m β w:=by
   intro ad sl sc old ovs S1 β1 h1 h2 h3 h4 h5 h6 h7 h8 h9 h10 h11;have hr:=Zm (P:=P) (w:=w) (ty:=o.type) hut hi hz ad ad2 sl sc k c2 ovs.toArray vs.toArray hfd h5 h6 h8 h7;have hge:=grownCap_ge w (sl+k) sc e;have hcm:=grownCap_le_maxLen w (sl+k) sc e (by unfold maxLen; omega);generalize grownCap w (sl+k) sc e=gc at hr hge hcm;have h9d:Holds S1 m β1 w.drew:=h9.drew;have hzl:(Builtin.zeroCells z.cells (gc-(sl+k))).size=(gc-(sl+k))*i.size:=by rw [size_zeroCells,hzs]
   have hol:ovs.length=sl*i.size:=by rw [←h3.1,h2]
   have hsz:(ovs.toArray++vs.toArray++Builtin.zeroCells z.cells (gc-(sl+k))).size=gc*i.size:=by
    simp only [Array.size_append,List.size_toArray,hzl,hol,hvl, ←Nat.add_mul]
    congr 1; omega
   obtain ⟨β',g1,g2,g3⟩:=YK (S':=S1) (w0:=w.drew) h9d (fun _ _=>rfl) rfl (s:=i.size) (new:=old++new) (T:=e) (ovs.toArray++vs.toArray++Builtin.zeroCells z.cells (gc-(sl+k))) (sl+k) gc
    (by rw [hsz,List.length_append,h2,hnl, ←Nat.add_mul]; exact Nat.mul_le_mul_right _ hge) hge hcm (by rw [hsz]; exact Nat.le_refl _) (fun j x hx=>by
     have hxl:=(RepL.append h3 hvr)
     have hj:j<(old++new).length:=(List.getElem?_eq_some_iff.1 hx).1;have hj2:j<(ovs++vs).length:=by rw [←hxl.1]; exact hj
     refine ⟨(ovs++vs)[j], ?_,(hxl.2 j x _ hx (List.getElem?_eq_getElem hj2)).mono (fun _ _ h=>h) h10, ?_⟩
     ·rw [Array.getElem?_append,if_pos (by simpa using hj2)];simp [List.getElem?_append,List.getElem_append];split<;>simp_all
     ·have hmem:=List.getElem_mem hj2;rcases List.mem_append.1 hmem with h | h
      ·exact h4 _ h
      ·exact hvo _ h)
   exact ⟨_,_,m,β', .inl (run ad sl sc _ _ h1 hr),g1,g2,h11 _ _ (Ext.drewl g3)⟩
  -- an empty one
  have empty : ∀ ad (S1:Store) (β1:Objs),a.eval y = .slice ad 0 0→k=0→Holds S1 m β1 w→(∀ β' w',Ext m β1 w m β' w'→Ext m β w m β' w') →
    Does P ((execOp a.eval o).run P w) (.slice S1.nx 0 0) (S1.add (i.size,new)) m β w:=by
   intro ad S1 β1 h1 h2 h3 h4;subst h2;have hv0:vs=[]:=List.eq_nil_of_length_eq_zero (by simpa using hvl);have hn0:new=[]:=List.eq_nil_of_length_eq_zero (by simpa using hnl);subst hv0; subst hn0;have hr:=Kg (P:=P) (w:=w) (ty:=o.type) hut hi ad ad2 0 0 0 c2 #[] w hf (Nat.le_refl _) (fun a' _=>by simp [storeCells]) (fun _=>rfl);obtain ⟨g1,g2,g3⟩:=h3.addVoid i.size;exact ⟨_,_,m,_, .inl (run ad 0 0 _ _ h1 hr), .sliceVoid S1.nx 0 ad g3,g1,h4 _ _ g2⟩
  cases p with
  | nils =>
   simp only at he;split at he
   ·rename_i hb
    cases he
    obtain ⟨ad,e1⟩:=hry.inv_nils
    by_cases hk:k=0
    ·have:=empty ad S β e1 hk hS (fun _ _ h=>h);rw [hk]; exact this
    ·have hf0:(Builtin.firstCells i.size 0 (.slice ad 0 0)).run P w.drew = .ok ([]:List Value).toArray w.drew:=by
      have:=JL (P:=P) (w:=w.drew) (s:=i.size) (n:=0) (k:=0) (v := .slice ad 0 0) (vs:=[]) rfl (Nat.le_refl _) (by simp) (.inl rfl);simpa using this
     have:=grow ad 0 0 [] [] S β e1 (by simp) (RepL.nil _ _) (by simp) hf0 (by omega) (by rw [Nat.zero_add]; exact hb.1) (by omega) hS (Step.refl β) (fun _ _ h=>h);simpa using this
   ·cases he
  | slice o' off len =>
   simp only at he
   cases hc:S.get o' with
   | none=>simp [hc] at he
   | some c =>
    simp only [hc] at he;split at he
    ·rename_i hcond;obtain ⟨hc1,hc2,hc3,hc4⟩:=hcond
     cases he
     obtain ⟨ad,cap,e1,hlc,hcm,hcase⟩:=hry.inv_slice (hS.alive hc);have hlt:=hS.lt hc;have hdrop:=hS.drop o' hlt;have hext : ∀ β' w',Ext m (β.set o' .dead) w m β' w'→Ext m β w m β' w':=fun β' w' h=>h.dropNew fun b hb=>hS.apart o' b hb
     have hnone : ∀ ad,a.eval y = .slice ad 0 0→len=0→Does P ((execOp a.eval o).run P w) (.slice S.nx 0 (len+k)) ((S.del o').add (i.size,(c.2.drop off).take (len*i.size)++new)) m β w:=by
      intro ad h1e hl0;subst hl0;have e0:(c.2.drop off).take (0*i.size)=[]:=by simp
      rw [e0]
      by_cases hk:k=0
      ·have:=empty ad (S.del o') (β.set o' .dead) h1e hk hdrop hext;rw [hk]; exact this
      ·have hf0:(Builtin.firstCells i.size 0 (.slice ad 0 0)).run P w.drew = .ok ([]:List Value).toArray w.drew:=by
        have:=JL (P:=P) (w:=w.drew) (s:=i.size) (n:=0) (k:=0) (v := .slice ad 0 0) (vs:=[]) rfl (Nat.le_refl _) (by simp) (.inl rfl);simpa using this
       exact grow ad 0 0 [] [] (S.del o') (β.set o' .dead) h1e (by simp) (RepL.nil _ _) (by simp) hf0 (by omega) hc3 hc4 hdrop (Step.kill β o') hext
     rcases hcase with ⟨hv,h1,h2⟩ | ⟨b,base,s,n,hob,hcase⟩
     ·subst h2; subst h1; exact hnone ad e1 rfl
     ·rcases hcase with hcap | ⟨had,hroom⟩
      ·have hl0:len=0:=by omega
       subst hcap; subst hl0; exact hnone ad e1 rfl
      ·subst had;obtain ⟨hs',arr,T,h1,h2,h3,h4⟩:=hS.cells_at hc hob;have hss:s=i.size:=by rw [←hs',hc1]
       subst hss;obtain ⟨ovs,hl,hcs,hrl,hone⟩:=Jr h4 off (len*i.size) hc2;have holen:((c.2.drop off).take (len*i.size)).length=len*i.size:=by simp; omega
       by_cases hrm:len+k≤cap
       ·-- in place
        have hbk:(len+k)*i.size≤cap*i.size:=Nat.mul_le_mul_right _ hrm;rw [Nat.add_mul] at hbk;have hst:=run_storeCells_at P b (base+off+len*i.size) T vs 0 arr w h1 (by rw [hvl,h2]; omega) hvo;have hr:=Kg (P:=P) (w:=w) (ty:=o.type) hut hi (some ⟨b,base+off,none⟩) ad2 len cap k c2 vs.toArray _ hf hrm (fun a' ha'=>by cases ha'; rw [Kd]; simpa using hst) (fun h=>by cases h);have hbl:(β o').block? = some b:=by rw [hob]; rfl
        have hβn:β S.nx = .fresh:=hS.nx_fresh;have hnd:(β.set o' .dead) S.nx = .fresh:=by rw [Objs.set_other _ _ (by omega)]; exact hβn
        have hstp:Step β ((β.set o' .dead).set S.nx (.lies b (base+off) i.size n)):=(Step.kill β o').trans (Step.fresh hnd _);have hfreeb : ∀ o2,((β.set o' .dead) o2).block? ≠ some b:=by
         intro o2 h
         by_cases e3:o2=o'
         ·subst e3; rw [Objs.set_same] at h; cases h
         ·rw [Objs.set_other _ _ e3] at h; exact e3 (hS.inj _ _ b h hbl)
        have hmb:=hS.apart o' b hbl;have hcnt:((c.2.drop off).take (len*i.size)++new).length=(len+k)*i.size:=by rw [List.length_append,holen,hnl,Nat.add_mul]
        refine ⟨_,_,m,(β.set o' .dead).set S.nx (.lies b (base+off) i.size n), .inl (run _ len cap _ _ e1 hr), ?_, ?_, ?_⟩
        ·have:=Rep.slice (m:=m) (β:=(β.set o' .dead).set S.nx (.lies b (base+off) i.size n)) S.nx 0 (len+k) b (base+off) i.size n cap (some ⟨b,base+off,none⟩) (Objs.set_same _ _ _) hrm hcm (.inr ⟨rfl,by simpa using hroom⟩);exact this
        ·refine hdrop.new (S:=S.del o') (by intro h; cases h) (fun b' o2 hb'=>setRow_other w b b' _ (fun e3=>by subst e3; rw [hmb] at hb'; cases hb')) (fun o2 b' hb'=>setRow_other w b b' _ (fun e3=>by subst e3; exact hfreeb o2 hb')) ?_ ?_
         ·intro b' hb'
          cases hb'
          exact ⟨hmb,hfreeb⟩
         ·refine ⟨rfl,_,T,setRow_heap w b arr _ T (0,0) h1, ?_, ?_,fun j x hx => ?_⟩
          ·simp; omega
          ·rw [hcnt,Nat.add_mul]; omega
          ·have hxl:=RepL.append hrl hvr;have hj:j<((c.2.drop off).take (len*i.size)++new).length:=(List.getElem?_eq_some_iff.1 hx).1;have hj2:j<(ovs++vs).length:=by rw [←hxl.1]; exact hj
           refine ⟨(ovs++vs)[j], ?_,(hxl.2 j x _ hx (List.getElem?_eq_getElem hj2)).mono (fun _ _ h=>h) hstp, ?_⟩
           ·have hjb:j<len*i.size+k*i.size:=by rw [hcnt,Nat.add_mul] at hj; exact hj
            simp only [List.getElem?_toArray];rw [←List.append_assoc,Wd _ _ _ (by rw [hvl,Array.length_toList,h2]; omega)];simp only [List.getElem_append];split
            ·rename_i hlt2;rw [dif_pos (by omega)];have:=hcs j ovs[j] (List.getElem?_eq_getElem (by omega));simpa [Nat.add_assoc] using this
            ·rename_i hge2;rw [if_pos (by omega),dif_neg (by omega)];rw [List.getElem?_eq_getElem (by omega)]
             congr 2; omega
           ·rcases List.mem_append.1 (List.getElem_mem hj2) with h | h
            ·exact hone _ h
            ·exact hvo _ h
        ·refine ⟨fun _ _ h=>h,hstp,by simp,fun b' hb' hm' hn' => ?_,rfl,rfl,rfl⟩;have hne:b'≠b:=fun e3=>hn' o' (by rw [hbl,e3])
         refine ⟨setRow_other w b b' _ hne,hm',fun o2 ho2 => ?_⟩
         by_cases e4:o2=S.nx
         ·subst e4; rw [Objs.set_same] at ho2; cases ho2; exact hne rfl
         ·rw [Objs.set_other _ _ e4] at ho2
          by_cases e5:o2=o'
          ·subst e5; rw [Objs.set_same] at ho2; cases ho2
          ·rw [Objs.set_other _ _ e5] at ho2; exact hn' o2 ho2
       ·-- a new row
        have hfo:(Builtin.firstCells i.size len (.slice (some ⟨b,base+off,none⟩) len cap)).run P w.drew = .ok ovs.toArray w.drew:=by
         have hl':ovs.length=len*i.size:=hl;have:=JL (P:=P) (w:=w.drew) (s:=i.size) (n:=len) (k:=len) (v := .slice (some ⟨b,base+off,none⟩) len cap) (vs:=ovs) rfl (Nat.le_refl _) hl' (.inr ⟨b,base+off,rfl,fun j u hj=>by
          rw [World.cell?_drew,jaP h1]; exact hcs j u hj⟩)
         rwa [List.take_of_length_le (by omega)] at this
        exact grow _ len cap _ ovs (S.del o') (β.set o' .dead) e1 holen hrl hone hfo (by omega) hc3 hc4 hdrop (Step.kill β o') hext
    ·cases he
  | _=>simp at he
end
end Go.Vw
/-
 Each operation over values without addresses is the model's: copy, slices, make, variables, and all together.
-/
namespace Go.Vw
open Go.RowKit
section
variable {P:Program} {N:Nat} {S:Store} {m:Imm} {β:Objs} {w:World} {σ:Fr} {a:Act}
theorem RepL.take {xs:List V} {vs:List Value} (h:RepL m β xs vs) (n:Nat):RepL m β (xs.take n) (vs.take n):=by
 refine ⟨by simp [h.1],fun i x v hx hv => ?_⟩;rw [List.getElem?_take] at hx hv;split at hx
 ·rename_i hi; rw [if_pos hi] at hv; exact h.2 i x v hx hv
 ·cases hx
theorem does_copy {o:Oper} {t e:TypeId} {i:TypeInfo} {y u:Operand} {yz uz:Arg} {x:V} {S':Store} (ho:o.op = .call { callee := .builtin .copy,args := #[y,u],argTypes := #[t,t] })
  (hs:Program.slc P t=some (e,i)) (hy:jt y=some yz) (hu:jt u=some uz) (hS:Holds S m β w) (hF:FrameRep N m β σ a)
  (he:jan i.size S (ev σ yz) (ev σ uz)=some (x,S')):Does P ((execOp a.eval o).run P w) x S' m β w:=by
 obtain ⟨hut,hi⟩:=JT hs;have hry:=jR hF hy;have hru:=jR hF hu;generalize ev σ yz=p at he hry;generalize ev σ uz=q at he hru;simp only [jan] at he
 cases hq:jU i.size S q with
 | none=>simp [hq] at he
 | some nk =>
  obtain ⟨new,k⟩:=nk;simp only [hq] at he;obtain ⟨ad2,c2,e2,hk2,hcm2,vs,hvl,hvr,hvo,hvc⟩:=src_spec hS hru hq;have hf : ∀ n,n≤k→(Builtin.firstCells i.size n (.slice ad2 k c2)).run P w = .ok (vs.take (n*i.size)).toArray w:=fun n hn=>JL rfl hn hvl hvc
  have run : ∀ ad (dl dc:Nat) w',a.eval y = .slice ad dl dc→(∀ a',ad=some a'→(storeCells a' (vs.take (Nat.min k dl*i.size)) 0).run P w = .ok () w')→(ad=none→w'=w) →
    (execOp a.eval o).run P w = .ok (.value (.int .i64 (min k dl:Nat))) w':=by
   intro ad dl dc w' h1 h2 h3;have hf':=hf (Nat.min k dl) (Nat.min_le_left _ _)
   cases ad with
   | none=>rw [h3 rfl]; simp [execOp,ho,resolve,invoke,builtin,Builtin.copy_,h1,e2,run_underlying hut,Builtin.lenOf,sizeOf,typeInfo,hi,hf',goInt]
   | some a'=>simp [execOp,ho,resolve,invoke,builtin,Builtin.copy_,h1,e2,run_underlying hut,Builtin.lenOf,sizeOf,typeInfo,hi,hf',goInt,h2 a' rfl]
  have zero : ∀ ad dc,a.eval y = .slice ad 0 dc→Does P ((execOp a.eval o).run P w) (.int .i64 (min k 0:Nat)) S m β w:=by
   intro ad dc h1;exact Does.same hS (run ad 0 dc w h1 (fun a' _=>by simp [storeCells]) (fun _=>rfl)) (.imm (.int _ _))
  cases p with
  | nils =>
   simp only at he
   cases he
   obtain ⟨ad,e1⟩:=hry.inv_nils;have:=zero ad 0 e1;simpa using this
  | slice o' off len =>
   simp only at he
   cases hc:S.get o' with
   | none=>simp [hc] at he
   | some c =>
    simp only [hc] at he;split at he
    ·rename_i hle
     cases he
     obtain ⟨ad,cap,e1,hlc,hcm,hcase⟩:=hry.inv_slice (hS.alive hc);have triv:len=0→Does P ((execOp a.eval o).run P w) (.int .i64 (min k len:Nat)) (S.upd o' (c.1,qr c.2 off (new.take (min k len*i.size)))) m β w:=by
      intro h0;subst h0;have e3:S.upd o' (c.1,qr c.2 off (new.take (min k 0*i.size)))=S:=by
       refine Store.ext' (funext fun o2 => ?_) rfl;simp only [Store.upd,qr,Nat.min_zero,Nat.zero_mul,List.take_zero,List.append_nil,List.length_nil,Nat.add_zero,List.take_append_drop];split
       ·rename_i e4; subst e4; rw [hc]
       ·rfl
      rw [e3];exact zero ad cap e1
     rcases hcase with ⟨hv,h1,h2⟩ | ⟨b,base,s,n,hob,hcase⟩
     ·exact triv h1
     ·rcases hcase with hcap | ⟨had,hroom⟩
      ·exact triv (by omega)
      ·subst had;have hmin:min k len*i.size≤len*i.size:=Nat.mul_le_mul_right _ (Nat.min_le_right _ _);have hmin2:min k len*i.size≤k*i.size:=Nat.mul_le_mul_right _ (Nat.min_le_left _ _);have hnl:new.length=k*i.size:=by rw [hvr.1,hvl]
       obtain ⟨w',g1,g2,g3⟩:=hS.store (P:=P) hc hob off (new.take (min k len*i.size)) (vs.take (min k len*i.size)) (hvr.take _) (fun v hv=>hvo v (List.mem_of_mem_take hv)) (by simp; omega);exact ⟨_,w',m,β, .inl (run _ len cap w' e1 (fun a' ha'=>by cases ha'; exact g1) (fun h=>by cases h)), .imm (.int _ _),g2,g3⟩
    ·cases he
  | _=>simp at he
theorem jaQ {d:Nat} {x:Option V} {v:Option Value} {n:Nat} (hx:qQ d x=some n) (h:(x=none∧v=none) ∨ ∃ y u,x=some y∧v=some u∧Rep m β y u) :
  (v=none∧n=d) ∨ ∃ k i,v=some (.int k i)∧0≤i∧i.toNat=n:=by
 rcases h with ⟨rfl,rfl⟩ | ⟨y,u,rfl,rfl,hr⟩
 ·simp only [qQ] at hx; cases hx; exact .inl ⟨rfl,rfl⟩
 ·cases y with
  | int k i =>
   simp only [qQ] at hx;split at hx
   ·rename_i h0
    cases hx
    rw [hr.inv_int];exact .inr ⟨k,i,rfl,h0,rfl⟩
   ·cases hx
  | _=>simp [qQ] at hx
theorem jbq {isS:Bool} {len cap l h q:Nat} {lo hi mx:Option Value} (hl:(lo=none∧l=0) ∨ ∃ k i,lo=some (.int k i)∧0≤i∧i.toNat=l) (hh:(hi=none∧h=len) ∨ ∃ k i,hi=some (.int k i)∧0≤i∧i.toNat=h)
  (hm:(mx=none∧q=cap) ∨ ∃ k i,mx=some (.int k i)∧0≤i∧i.toNat=q) (h1:l≤h) (h2:h≤q) (h3:q≤cap) (h4:mx.isSome=true→hi.isSome=true) :
  (Instr.sliceBounds isS len cap lo hi mx).run P w = .ok (l,h,q) w:=by
 have b : ∀ (k:IntKind) (i:Int) (y:Nat) (code:BoundsCode),0≤i→i.toNat≤y→(Instr.sliceBound (.int k i) y code).run P w = .ok i.toNat w:=fun k i y code e1 e2=>run_sliceBound w k i y code e1 (by omega)
 rcases hl with ⟨rfl,rfl⟩ | ⟨k1,i1,rfl,e1,rfl⟩<;>rcases hh with ⟨rfl,rfl⟩ | ⟨k2,i2,rfl,e2,rfl⟩<;>rcases hm with ⟨rfl,rfl⟩ | ⟨k3,i3,rfl,e3,rfl⟩ <;>
  first
  | (simp at h4; done)
  | simp [Instr.sliceBounds, *]
theorem opt_rep (hF:FrameRep N m β σ a) {x:Option Operand} {y:Option Arg} (h:x.mapM jt=some y):(y.map (ev σ)=none∧x.map a.eval=none) ∨ ∃ z u,y.map (ev σ)=some z∧x.map a.eval=some u∧Rep m β z u:=by
 cases x with
 | none=>simp at h; subst h; exact .inl ⟨rfl,rfl⟩
 | some x =>
  simp at h;obtain ⟨z,hz,rfl⟩:=h;exact .inr ⟨_,_,rfl,rfl,jR hF hz⟩
theorem opt_some {x:Option V} {v:Option Value} (h:(x=none∧v=none) ∨ ∃ z u,x=some z∧v=some u∧Rep m β z u):x.isSome=v.isSome:=by
 rcases h with ⟨rfl,rfl⟩ | ⟨z,u,rfl,rfl,_⟩<;>rfl
theorem does_slice {o:Oper} {t e:TypeId} {i:TypeInfo} {y:Operand} {lo hi mx:Option Operand} {yz:Arg} {loz hiz mxz:Option Arg} {x:V} (ho:o.op = .slice t y lo hi mx)
  (hs:Program.slc P t=some (e,i)) (hy:jt y=some yz) (hlo:lo.mapM jt=some loz) (hhi:hi.mapM jt=some hiz) (hmx:mx.mapM jt=some mxz) (hS:Holds S m β w) (hF:FrameRep N m β σ a)
  (he:qD i.size S (ev σ yz) (loz.map (ev σ)) (hiz.map (ev σ)) (mxz.map (ev σ))=some x):Does P ((execOp a.eval o).run P w) x S m β w:=by
 obtain ⟨hut,hi'⟩:=JT hs;have hry:=jR hF hy;have r1:=opt_rep hF hlo;have r2:=opt_rep hF hhi;have r3:=opt_rep hF hmx;have s2:=opt_some r2;have s3:=opt_some r3;generalize ev σ yz=p at he hry;generalize loz.map (ev σ)=lv at he r1;generalize hiz.map (ev σ)=hv at he r2 s2;generalize mxz.map (ev σ)=mv at he r3 s3;generalize hlo':lo.map a.eval=lo' at r1;generalize hhi':hi.map a.eval=hi'' at r2 s2;generalize hmx':mx.map a.eval=mx' at r3 s3;have run : ∀ ad (len cap l h q:Nat),a.eval y = .slice ad len cap→(Instr.sliceBounds true len cap lo' hi'' mx').run P w = .ok (l,h,q) w →
   (execOp a.eval o).run P w = .ok (.value (.slice (if q=l then ad else ad.map (·.add (l*i.size))) (h-l) (q-l))) w:=by
  intro ad len cap l h q h1 h2;simp [execOp,ho,hlo',hhi',hmx',h1,Instr.sliceAt,Instr.slice,run_underlying hut,h2,sizeOf,typeInfo,hi']
 -- the bounds, with the capacity that is there
 have bounds : ∀ (len cap l h q:Nat),len≤cap→qQ 0 lv=some l→qQ len hv=some h→qQ len mv=some q→l≤h→h≤q→q≤len→(mv.isSome=true→hv.isSome=true) →
   ∃ q',q≤q'∧q'≤cap∧(mv.isSome=true→q'=q)∧(Instr.sliceBounds true len cap lo' hi'' mx').run P w = .ok (l,h,q') w:=by
  intro len cap l h q hlc e1 e2 e3 h1 h2 h3 h4;have b1:=jaQ e1 r1;have b2:=jaQ e2 r2;have b3:=jaQ e3 r3;rw [s2,s3] at h4;rcases b3 with ⟨b31,b32⟩ | b3
  ·exact ⟨cap,by omega,Nat.le_refl _,(fun hm=>by rw [s3,b31] at hm; cases hm),jbq b1 b2 (.inl ⟨b31,rfl⟩) h1 (by omega) (Nat.le_refl _) h4⟩
  ·exact ⟨q,Nat.le_refl _,by omega,fun _=>rfl,jbq b1 b2 (.inr b3) h1 h2 (by omega) h4⟩
 cases p with
 | list xs =>
  simp only [qD] at he;split at he
  ·rename_i l h q e1 e2 e3;split at he
   ·rename_i hc;obtain ⟨c1,c2,c3,c4,c5⟩:=hc
    cases hq:a.eval y with
    | slice ad len cap =>
     have hl:=hry.inv_list;rw [hq] at hl;have hlen:len=xs.length∧xs.length≤cap∧cap≤maxLen:=by
      cases hl with
      | list0 _ _ hc=>exact ⟨rfl,Nat.zero_le _,hc⟩
      | list _ _ _ _ _ _ _ _ _ _ _ hc hcm=>exact ⟨rfl,hc,hcm⟩
     obtain ⟨hlen,hle,hcm⟩:=hlen;subst hlen;obtain ⟨q',f1,f2,f3,f4⟩:=bounds xs.length cap l h q hle e1 e2 e3 c1 c2 c3 c4;have hr:=run ad xs.length cap l h q' hq f4;split at he
     ·rename_i h0
      cases he
      have:=f3 h0.2;have hq0:q'=0:=by omega
      subst hq0;have hl0:l=0:=by omega
      subst hl0;have hh0:h=0:=by omega
      subst hh0;exact Does.same hS hr (.imm (.nils _))
     ·cases he
      refine Does.same hS hr ?_;have hlen2:((xs.take h).drop l).length=h-l:=by simp; omega
      by_cases hemp:h-l=0
      ·have e0:(xs.take h).drop l=[]:=List.eq_nil_of_length_eq_zero (by omega);rw [e0,hemp];exact .imm (.list0 _ _ (by omega))
      ·cases hl with
       | list0=>simp at c3 c2 c1 hemp; omega
       | list _ vs b off _ s' arr T fz hm hl' hc' hcm' hs' hr' hcells =>
        have hpos:0<xs.length:=by omega
        have hv0:0<vs.length:=by omega
        have hss:l*s'=l*i.size:=by
         rcases c5 with c5 | c5
         ·rw [c5,Nat.zero_mul,Nat.zero_mul]
         ·have hall : ∀ x∈xs,x.ncells=i.size:=by simpa using c5
          have h1:=hr' 0 xs[0] vs[0] (List.getElem?_eq_getElem hpos) (List.getElem?_eq_getElem hv0);rw [←hs' vs[0] (List.getElem_mem hv0),h1.cells_size,hall _ (List.getElem_mem hpos)]
        have hvlen:((vs.take h).drop l).length=h-l:=by simp; omega
        have hq'l:q'≠l:=by omega
        rw [if_neg hq'l];simp only [Option.map_some,Kd, ←hss];have:=RepI.list (m:=m) ((xs.take h).drop l) ((vs.take h).drop l) b (off+l*s') (q'-l) s' arr T fz hm (by omega) (by omega) (by omega)
         (fun v hv=>hs' v (List.mem_of_mem_take (List.mem_of_mem_drop hv)))
         (fun j x v hx hv=>by
          rw [List.getElem?_drop,List.getElem?_take] at hx hv;split at hx
          ·rename_i hj; rw [if_pos hj] at hv; exact hr' _ x v hx hv
          ·cases hx)
         (fun j v jj c hv hc=>by
          rw [List.getElem?_drop,List.getElem?_take] at hv;split at hv
          ·have:=hcells _ v jj c hv hc;rw [Nat.add_mul] at this;rw [←this]
           congr 1; omega
          ·cases hv)
        rw [hlen2] at this;exact .imm this
    | _=>have hl:=hry.inv_list; rw [hq] at hl; cases hl
   ·cases he
  ·cases he
 | slice o' off len =>
  simp only [qD] at he;split at he
  ·rename_i l h q e1 e2 e3;split at he
   ·rename_i hc;obtain ⟨c0,c1,c2,c3,c4⟩:=hc
    cases he
    obtain ⟨c,hc,hcs⟩:=Option.map_eq_some_iff.1 c0;obtain ⟨ad,cap,ev',hlc,hcm,hcase⟩:=hry.inv_slice (hS.alive hc);obtain ⟨q',f1,f2,f3,f4⟩:=bounds len cap l h q hlc e1 e2 e3 c1 c2 c3 c4;have hr:=run ad len cap l h q' ev' f4;refine Does.same hS hr ?_;rcases hcase with ⟨hv',h1,h2⟩ | ⟨b,base,s,n,hob,hcase⟩
    ·subst h1; subst h2;have hq0:q'=0:=by omega
     subst hq0;have hl0:l=0:=by omega
     subst hl0;have hh0:h=0:=by omega
     subst hh0;exact .sliceVoid _ _ _ hv'
    ·obtain ⟨hs',_⟩:=hS.cells_at hc hob;have hss:s=i.size:=by rw [←hs',hcs]
     subst hss
     by_cases hql:q'=l
     ·rw [if_pos hql];exact .slice o' _ (h-l) b base i.size n (q'-l) ad hob (by omega) (by omega) (.inl (by omega))
     ·rw [if_neg hql];rcases hcase with hcap | ⟨had,hroom⟩
      ·omega
      ·subst had;simp only [Option.map_some,Kd];have e5:l*i.size+(q'-l)*i.size=q'*i.size:=by rw [←Nat.add_mul]; congr 1; omega
       have e6:q'*i.size≤cap*i.size:=Nat.mul_le_mul_right _ f2;have:=Rep.slice (m:=m) (β:=β) o' (off+l*i.size) (h-l) b base i.size n (q'-l) (some ⟨b,base+(off+l*i.size),none⟩) hob (by omega) (by omega) (.inr ⟨rfl,by omega⟩)
       rwa [←Nat.add_assoc] at this
   ·cases he
  ·cases he
 | nils =>
  simp only [qD] at he;split at he
  ·rename_i e1 e2 e3;split at he
   ·rename_i c4
    cases he
    obtain ⟨ad,ev'⟩:=hry.inv_nils;obtain ⟨q',f1,f2,f3,f4⟩:=bounds 0 0 0 0 0 (Nat.le_refl _) e1 e2 e3 (Nat.le_refl _) (Nat.le_refl _) (Nat.le_refl _) c4;have hq0:q'=0:=by omega
    subst hq0;exact Does.same hS (run ad 0 0 0 0 0 ev' f4) (.imm (.nils _))
   ·cases he
  ·cases he
 | _=>simp [qD] at he
end
end Go.Vw
