import Derived.Test.YtenhhokhkkfgbaaGreatC3
/-
  Part of the proof (texts VSound6).
-/
set_option linter.unusedVariables false
set_option linter.unusedSimpArgs false
/-
 Each operation over values without addresses is the model's: all of them.
-/
namespace Go.Vw
open Go.RowKit
section
variable {P : Program} {N : Nat} {S : Store} {m : Imm} {β : Objs} {w : World} {σ : Fr} {a : Act}
theorem flds_spec {t : TypeId} {fs : List (Nat × Nat)} (h : Program.flds P t = some fs) : ∃ fds, P.underlying t = some (.struct fds) ∧
  (fds.mapM fun f => do pure (f.offset, ← sizeOf f.type) : Sem (Array (Nat × Nat))).run P w = .ok fs.toArray w := by
 unfold Program.flds at h
 split at h
 ·rename_i fds hu
  refine ⟨fds, hu, ?_⟩
  rw [Array.mapM_eq_mapM_toList]
  have gstep : ∀ (f : Field) j, P.info? f.type = some j → (do pure (f.offset, ← sizeOf f.type) : Sem (Nat × Nat)).run P w = .ok (f.offset, j.size) w := by
   intro f j hj; simp [sizeOf, typeInfo, hj]
  have gen : ∀ (l : List Field) (r : List (Nat × Nat)), (l.mapM fun f => match P.info? f.type with | some j => some (f.offset, j.size) | none => none) = some r →
    (l.mapM fun f => do pure (f.offset, ← sizeOf f.type) : Sem (List (Nat × Nat))).run P w = .ok r w := by
   intro l
   induction l with
   | nil => intro r h; simp at h; subst h; rfl
   | cons f l ih =>
    intro r h
    simp only [List.mapM_cons, Option.bind_eq_bind, Option.bind_eq_some_iff] at h
    obtain ⟨b, hb, r', hr', h⟩ := h
    simp at h; subst h
    split at hb
    ·rename_i j hj
     cases hb
     rw [List.mapM_cons, Sem.run_bind, gstep f j hj, Result.andThen_ok, Sem.run_bind, ih r' hr']
     rfl
    ·cases hb
  rw [Sem.run_map, gen fds.toList fs h]
  rfl
 ·cases h
theorem zero_list {t : TypeId} {zs : List V} (hz : Program.zeroV P t = some zs) : ∃ z, (zeroValue t).run P w = .ok z w ∧ RepL m β zs z.cells.toList ∧ (∀ v ∈ z.cells.toList, v.oneCell' = true) ∧ zs.length = z.cells.size := by
 obtain ⟨i, z, hi, hz', hzs, hzl, hzr⟩ := zeroV_spec (m := m) hz
 refine ⟨z, by simp [zeroValue, typeInfo, hi, hz'], ⟨by simp; omega, fun j x v hx hv => ?_⟩, fun v hv => ?_, by omega⟩
 ·obtain ⟨u, h1, h2, _⟩ := hzr j x hx
  rw [← Array.getElem?_toList, hv] at h1
  cases h1; exact .imm h2
 ·obtain ⟨j, hj, rfl⟩ := List.getElem_of_mem hv
  have hj' : j < zs.length := by simp at hj; omega
  obtain ⟨u, h1, _, h3, _⟩ := hzr j _ (List.getElem?_eq_getElem hj')
  rw [← Array.getElem?_toList, List.getElem?_eq_getElem hj] at h1
  cases h1; exact h3
theorem does_build {o : Oper} {t : TypeId} {parts : Array (Nat × Operand)} {fs : List (Nat × Nat)} {zs : List V} {ps : List (Nat × Nat × Arg)} {cs : List V} (ho : o.op = .build t parts) (hf : Program.flds P t = some fs) (hz : Program.zeroV P t = some zs)
  (hp : (parts.toList.mapM fun (p : Nat × Operand) => match fs[p.1]?, argOf p.2 with | some f, some x => some ((f.1, f.2, x) : Nat × Nat × Arg) | _, _ => none) = some ps) (hS : Holds S m β w) (hF : FrameRep N m β σ a)
  (he : opBuild (ev σ) zs ps = some cs) : Does P ((execOp a.eval o).run P w) (.agg cs) S m β w := by
 obtain ⟨fds, hu, hpl⟩ := flds_spec (w := w) hf
 obtain ⟨z, hz1, hz2, hz3, hz4⟩ := zero_list (w := w) (m := m) (β := β) hz
 obtain ⟨us, g1, g2, g3, _⟩ := fill_spec (fs.toArray[·]?) _ (fun p f hpf => by
  split at hpf
  ·rename_i f' x' h1 h2; cases hpf; exact ⟨by simpa using h1, h2⟩
  ·cases hpf) hF parts.toList ps zs z.cells cs hp hz2 hz3 he
 refine Does.same hS (v := .agg us) ?_ ?_
 ·have e : (parts.map fun (x : Nat × Operand) => (x.1, a.eval x.2)).toList = parts.toList.map fun p => (p.1, a.eval p.2) := by simp
  simp only [execOp, ho, Instr.build, Sem.run_bind, hz1, run_underlying hu, Result.andThen_ok, hpl, e, g1, Sem.run_pure]
 ·have := Rep.agg (m := m) (β := β) cs us.toList g2.1 g2.2 g3
  simpa using this
theorem does_buildSlice {o : Oper} {t e : TypeId} {i : TypeInfo} {len : Nat} {parts : Array (Nat × Operand)} {zs : List V} {ps : List (Nat × Nat × Arg)} {cs : List V} (ho : o.op = .buildSlice t len parts) (hs : Program.slc P t = some (e, i)) (hz : Program.zeroV P e = some zs)
  (hle : len * i.size ≤ 65536 ∧ 0 < i.size)
  (hp : (parts.toList.mapM fun (p : Nat × Operand) => match argOf p.2 with | some x => some ((p.1 * i.size, i.size, x) : Nat × Nat × Arg) | none => none) = some ps) (hS : Holds S m β w) (hF : FrameRep N m β σ a)
  (he : opBuild (ev σ) (rep0 zs len) ps = some cs) : Does P ((execOp a.eval o).run P w) (.slice S.nx 0 len) (S.add (i.size, cs)) m β w := by
 obtain ⟨hut, hi⟩ := slc_spec hs
 obtain ⟨z, hz1, hz2, hz3, hz4⟩ := zero_list (w := w) (m := m) (β := β) hz
 obtain ⟨i', z', hi', hz', hzs', hzl, hzr⟩ := zeroV_spec (m := m) hz
 rw [hi] at hi'; cases hi'
 have hz'' : z' = z := by
  have : (zeroValue e).run P w = .ok z' w := by simp [zeroValue, typeInfo, hi, hz']
  rw [this] at hz1; cases hz1; rfl
 subst hz''
 have hcell : ∀ q, q < len * i.size → (madeCells z'.cells (len * i.size))[q]? = some (z'.cells[q % z'.cells.size]!) := by
  intro q hq
  simp [madeCells, hq]
 have hsz := size_madeCells z'.cells (len * i.size)
 have h0 : 0 < zs.length := by omega
 have hrl : RepL m β (rep0 zs len) (madeCells z'.cells (len * i.size)).toList := by
  refine ⟨by rw [rep0_length, hzl]; simp [hsz], fun q x v hx hv => ?_⟩
  rw [rep0_get _ _ h0, hzl] at hx
  split at hx
  ·rename_i hq
   rw [Array.getElem?_toList, hcell q hq] at hv
   cases hv
   obtain ⟨u, hu, hr', _⟩ := hzr _ x hx
   rw [← hzs'] at hu
   rw [Array.getElem!_eq_getD, Array.getD_eq_getD_getElem?, hu]
   exact .imm hr'
  ·cases hx
 have hone : ∀ v ∈ (madeCells z'.cells (len * i.size)).toList, v.oneCell' = true := by
  intro v hv
  obtain ⟨q, hq, rfl⟩ := List.getElem_of_mem hv
  have hq' : q < len * i.size := by simpa [hsz] using hq
  have h1 := hcell q hq'
  rw [← Array.getElem?_toList, List.getElem?_eq_getElem hq] at h1
  have hlt : q % i.size < zs.length := by rw [hzl]; exact Nat.mod_lt _ hle.2
  obtain ⟨u, hu, _, h3, _⟩ := hzr _ _ (List.getElem?_eq_getElem hlt)
  rw [Option.some.inj h1, Array.getElem!_eq_getD, Array.getD_eq_getD_getElem?, hzs', hu]
  exact h3
 obtain ⟨us, g1, g2, g3, g4⟩ := fill_spec (fun j => some (j * i.size, i.size)) _ (fun p f hpf => by
  split at hpf
  ·rename_i x' h2; cases hpf; exact ⟨rfl, h2⟩
  ·cases hpf) hF parts.toList ps (rep0 zs len) (madeCells z'.cells (len * i.size)) cs hp hrl hone he
 have hul : us.size = len * i.size := by
  have := g2.1; rw [g4, rep0_length, hzl] at this; simpa using this.symm
 obtain ⟨β', k1, k2, k3⟩ := append_new (S' := S) (w0 := w) hS (fun _ _ => rfl) rfl (s := i.size) (new := cs) (T := e) us len len (by rw [g4, rep0_length, hzl, hul]; exact Nat.le_refl _) (Nat.le_refl _)
  (by have : len * 1 ≤ len * i.size := Nat.mul_le_mul_left _ hle.2; unfold maxLen; omega) (by rw [hul]; exact Nat.le_refl _) (fun j x hx => by
   have hj : j < us.toList.length := by rw [← g2.1]; exact (List.getElem?_eq_some_iff.1 hx).1
   exact ⟨us.toList[j], by rw [← Array.getElem?_toList]; exact List.getElem?_eq_getElem hj, g2.2 j x _ hx (List.getElem?_eq_getElem hj), g3 _ (List.getElem_mem hj)⟩)
 refine ⟨_, _, m, β', .inl ?_, k1, k2, k3⟩
 have hlim : ¬ (2 ^ 24 < len * i.size) := by omega
 by_cases hn : len * i.size = 0
 ·have hmc : madeCells z'.cells 0 = #[] := by simp [madeCells]
  have hr0 : ∀ f : Nat → Value, (Array.range 0).map f = #[] := fun f => by simp
  rw [hn, hmc] at g1
  simp [execOp, ho, Instr.buildSlice, run_underlying hut, sizeOf, typeInfo, hi, hn, hr0, g1, newRow]
 ·simp only [madeCells] at g1
  simp [execOp, ho, Instr.buildSlice, run_underlying hut, sizeOf, typeInfo, hi, hlim, hn, hz1, g1, newRow]
theorem does_bin {o : Oper} {op : BinOp} {t t' : TypeId} {y u : Operand} {yz uz : Arg} {x : V} (ho : o.op = .binOp op t y u t') (hy : argOf y = some yz) (hu : argOf u = some uz) (hS : Holds S m β w) (hF : FrameRep N m β σ a)
  (he : opBin op (ev σ yz) (ev σ uz) = some x) : Does P ((execOp a.eval o).run P w) x S m β w := by
 have r1 := ev_rep hF hy
 have r2 := ev_rep hF hu
 generalize ev σ yz = p at he r1
 generalize ev σ uz = q at he r2
 have run : ∀ (k1 k2 : IntKind) (x1 x2 : Int) (v : Value), a.eval y = .int k1 x1 → a.eval u = .int k2 x2 → (binOp op t (.int k1 x1) (.int k2 x2)).run P w = .ok v w → (execOp a.eval o).run P w = .ok (.value v) w := by
  intro k1 k2 x1 x2 v h1 h2 h3
  have hg : (eqGuard op t y u (.int k1 x1) (.int k2 x2)).run P w = .ok () w := by
   unfold eqGuard
   cases op <;> rfl
  simp [execOp, ho, h1, h2, hg, h3]
 cases p with
 | int k1 x1 =>
  cases q with
  | int k2 x2 =>
   have e1 := r1.inv_int
   have e2 := r2.inv_int
   cases op <;> simp only [opBin] at he <;> first | (cases he; done) | (split at he <;> first | (cases he; done) | skip)
   all_goals
    rename_i hc
    first
    | (subst hc; cases he; refine Does.same hS (run _ _ _ _ _ e1 e2 ?_) (.imm (by first | exact .int _ _ | exact .bool _)); simp [binOp, Op.intArith, Op.intCmp, Op.intBits]; done)
    | (obtain ⟨hc, hc2⟩ := hc; subst hc; cases he; refine Does.same hS (run _ _ _ _ _ e1 e2 ?_) (.imm (by first | exact .int _ _ | exact .bool _)); simp [binOp, Op.intDiv, hc2]; done)
    | (cases he; refine Does.same hS (run _ _ _ _ _ e1 e2 ?_) (.imm (by first | exact .int _ _ | exact .bool _)); simp [binOp, Op.shift, Int.not_lt.2 hc]; done)
  | _ => cases op <;> simp [opBin] at he
 | _ => cases op <;> simp [opBin] at he
theorem does_beq {o : Oper} {op : BinOp} {neg : Bool} {t t' : TypeId} {y u : Operand} {yz uz : Arg} {x : V} (ho : o.op = .binOp op t y u t') (hop : op = if neg then .neq else .eql) (ht : P.underlying t = some .bool) (hy : argOf y = some yz) (hu : argOf u = some uz) (hS : Holds S m β w) (hF : FrameRep N m β σ a)
  (he : opBeq neg (ev σ yz) (ev σ uz) = some x) : Does P ((execOp a.eval o).run P w) x S m β w := by
 have r1 := ev_rep hF hy
 have r2 := ev_rep hF hu
 generalize ev σ yz = p at he r1
 generalize ev σ uz = q at he r2
 cases p with
 | bool b1 =>
  cases q with
  | bool b2 =>
   have e1 := r1.inv_bool
   have e2 := r2.inv_bool
   have hg : (eqGuard op t y u (.bool b1) (.bool b2)).run P w = .ok () w := by
    unfold eqGuard
    cases op <;> rfl
   have heq : (Op.equal t (.bool b1) (.bool b2)).run P w = .ok (b1 == b2) w := by
    have hd : Op.maxDepth = 9999 + 1 := rfl
    unfold Op.equal
    rw [hd]
    unfold Op.equalIn
    simp [run_underlying ht]
   cases he
   cases neg with
   | false =>
    simp only [Bool.false_eq_true, if_false] at hop ⊢
    subst hop
    refine Does.same hS (v := .bool (b1 == b2)) ?_ (.imm (.bool _))
    simp [execOp, ho, e1, e2, hg, binOp, heq]
   | true =>
    simp only [if_true] at hop ⊢
    subst hop
    refine Does.same hS (v := .bool (b1 != b2)) ?_ (.imm (.bool _))
    simp [execOp, ho, e1, e2, hg, binOp, heq, bne]
  | _ => simp [opBeq] at he
 | _ => simp [opBeq] at he
end
end Go.Vw
