import Derived.Test.YtgnoiaekmmfnmaaGNearTh2
/-
  The nodes of a loop, found from a list of nodes to do.
-/
set_option linter.unusedVariables false
set_option linter.unusedSimpArgs false
namespace Go.Vw.G
open Go.Vw

/-- Back from some nodes, as far as the head. -/
inductive Bk (fr : List (List Nat)) (h : Nat) (ts : List Nat) : Nat → Prop
  | start {n : Nat} (hn : n ∈ ts) : Bk fr h ts n
  | step {n p : Nat} (hb : Bk fr h ts n) (hn : n ≠ h) (hp : p ∈ fr.getD n []) : Bk fr h ts p

/-- Where the search is. -/
structure Srch (fr : List (List Nat)) (h : Nat) (ts : List Nat) (N : Nat) (inn : List Bool) (todo : List Nat) : Prop where
  len : inn.length = N
  head : inn.getD h false = true
  sound : ∀ n, inn.getD n false = true → n = h ∨ Bk fr h ts n
  work : ∀ t ∈ todo, Bk fr h ts t
  closed : ∀ n, inn.getD n false = true → n ≠ h → ∀ p ∈ fr.getD n [], inn.getD p false = true ∨ p ∈ todo
  all : ∀ t ∈ ts, inn.getD t false = true ∨ t ∈ todo
  lt : ∀ t ∈ todo, t < N

theorem Srch.start {fr : List (List Nat)} {h : Nat} {ts : List Nat} {N : Nat} (hh : h < N) (ht : ∀ t ∈ ts, t < N) : Srch fr h ts N ((List.replicate N false).set h true) ts := by
  have hl : h < (List.replicate N false).length := by simpa using hh
  have hset : ∀ n, ((List.replicate N false).set h true).getD n false = true ↔ n = h := by
    intro n
    have := met_set hl n
    unfold Met at this
    rw [this]
    constructor
    · rintro (h1 | h1)
      · exact h1
      · rw [rep_getD] at h1; cases h1
    · exact .inl
  refine ⟨by simp, (hset h).2 rfl, fun n hn => .inl ((hset n).1 hn), fun t h1 => .start h1, fun n hn hne => absurd ((hset n).1 hn) hne, fun t h1 => .inr h1, ht⟩

section
variable {fr : List (List Nat)} {h : Nat} {ts : List Nat} {N : Nat} {inn : List Bool} {n : Nat}

/-- One that is in already. -/
theorem Srch.seen {todo todo' : List Nat} (hS : Srch fr h ts N inn todo) (hn : inn.getD n false = true) (hsub : ∀ t ∈ todo', t ∈ todo) (hre : ∀ t ∈ todo, t = n ∨ t ∈ todo') : Srch fr h ts N inn todo' := by
  refine ⟨hS.len, hS.head, hS.sound, fun t ht => hS.work t (hsub t ht), fun m hm hne p hp => ?_, fun t ht => ?_, fun t ht => hS.lt t (hsub t ht)⟩
  · rcases hS.closed m hm hne p hp with h1 | h1
    · exact .inl h1
    · rcases hre p h1 with h2 | h2
      · subst h2; exact .inl hn
      · exact .inr h2
  · rcases hS.all t ht with h1 | h1
    · exact .inl h1
    · rcases hre t h1 with h2 | h2
      · subst h2; exact .inl hn
      · exact .inr h2

/-- One that comes in. -/
theorem Srch.take {todo todo' : List Nat} (hS : Srch fr h ts N inn todo) (hn : n ∈ todo) (hfl : ∀ p ∈ fr.getD n [], p < N) (hni : inn.getD n false = false) (hsub : ∀ t ∈ todo', t ∈ todo ∨ t ∈ fr.getD n []) (hre : ∀ t ∈ todo, t = n ∨ t ∈ todo') (hfr : ∀ t ∈ fr.getD n [], t ∈ todo') : Srch fr h ts N (inn.set n true) todo' := by
  have hnl : n < inn.length := by rw [hS.len]; exact hS.lt n hn
  have hset : ∀ m, (inn.set n true).getD m false = true ↔ m = n ∨ inn.getD m false = true := fun m => met_set hnl m
  have hnh : n ≠ h := by intro e; subst e; rw [hS.head] at hni; cases hni
  refine ⟨by simpa using hS.len, (hset h).2 (.inr hS.head), fun m hm => ?_, fun t ht => ?_, fun m hm hne p hp => ?_, fun t ht => ?_, fun t ht => ?_⟩
  · rcases (hset m).1 hm with e | h1
    · subst e; exact .inr (hS.work m hn)
    · exact hS.sound m h1
  · rcases hsub t ht with h1 | h1
    · exact hS.work t h1
    · exact .step (hS.work n hn) hnh h1
  · rcases (hset m).1 hm with e | h1
    · subst e; exact .inr (hfr p hp)
    · rcases hS.closed m h1 hne p hp with h2 | h2
      · exact .inl ((hset p).2 (.inr h2))
      · rcases hre p h2 with h3 | h3
        · exact .inl ((hset p).2 (.inl h3))
        · exact .inr h3
  · rcases hS.all t ht with h1 | h1
    · exact .inl ((hset t).2 (.inr h1))
    · rcases hre t h1 with h3 | h3
      · exact .inl ((hset t).2 (.inl h3))
      · exact .inr h3
  · rcases hsub t ht with h1 | h1
    · exact hS.lt t h1
    · exact hfl t h1

theorem Srch.done (hS : Srch fr h ts N inn []) (n : Nat) : inn.getD n false = true ↔ n = h ∨ Bk fr h ts n := by
  refine ⟨hS.sound n, ?_⟩
  rintro (e | hb)
  · subst e; exact hS.head
  · induction hb with
    | start hn =>
      rcases hS.all _ hn with h1 | h1
      · exact h1
      · simp at h1
    | step _ hne hp ih =>
      rcases hS.closed _ ih hne _ hp with h1 | h1
      · exact h1
      · simp at h1
end

/-- The nodes that are told, in order. -/
def picked (inn : List Bool) : Nat → List Nat
  | 0 => []
  | k + 1 => if inn.getD k false then picked inn k ++ [k] else picked inn k
theorem picked_len (inn : List Bool) : ∀ k, (picked inn k).length ≤ k
  | 0 => Nat.le_refl _
  | k + 1 => by have := picked_len inn k; simp only [picked]; split <;> simp <;> omega

open Classical in
/-- Whether each node is of a loop. -/
noncomputable def loopIn (fr : List (List Nat)) (h : Nat) (ts : List Nat) (N : Nat) : List Bool := (List.range N).map fun n => decide (n = h ∨ Bk fr h ts n)
theorem loopIn_eq {fr : List (List Nat)} {h : Nat} {ts : List Nat} {N : Nat} {inn : List Bool} (hS : Srch fr h ts N inn []) : inn = loopIn fr h ts N := by
  refine List.ext_getElem (by simp [loopIn, hS.len]) fun i h1 h2 => ?_
  have := hS.done i
  have e : inn.getD i false = inn[i] := by simp [h1]
  rw [e] at this
  simp only [loopIn, List.getElem_map, List.getElem_range]
  cases hx : inn[i] with
  | false => rw [hx] at this; simp only [Bool.false_eq_true, false_iff] at this; simp [this]
  | true => rw [hx] at this; simp only [true_iff] at this; simp [this]

/-- What goes back to a head. -/
def backs (near : List Int) (h : Nat) (row : List Nat) : List Nat := row.filter fun p => dominates near h p
/-- Loops of the first k nodes. -/
noncomputable def loopsTo (near : List Int) (fr : List (List Nat)) (N : Nat) : Nat → List (Nat × List Nat)
  | 0 => []
  | h + 1 => if (0 < h ∧ near.getD h 0 < 0) ∨ backs near h (fr.getD h []) = [] then loopsTo near fr N h
    else loopsTo near fr N h ++ [(h, picked (loopIn fr h (backs near h (fr.getD h [])) N) N)]
theorem loopsTo_len (near : List Int) (fr : List (List Nat)) (N : Nat) : ∀ k, (loopsTo near fr N k).length ≤ k
  | 0 => Nat.le_refl _
  | k + 1 => by have := loopsTo_len near fr N k; simp only [loopsTo]; split <;> simp <;> omega

/-- By the table. -/
def rbacks (t : List (List Bool)) (h : Nat) (row : List Nat) : List Nat := row.filter fun p => tabAt t h p
noncomputable def rloopsTo (t : List (List Bool)) (fr : List (List Nat)) (N : Nat) : Nat → List (Nat × List Nat)
  | 0 => []
  | h + 1 => if rbacks t h (fr.getD h []) = [] then rloopsTo t fr N h
    else rloopsTo t fr N h ++ [(h, picked (loopIn fr h (rbacks t h (fr.getD h [])) N) N)]
theorem rloopsTo_len (t : List (List Bool)) (fr : List (List Nat)) (N : Nat) : ∀ k, (rloopsTo t fr N k).length ≤ k
  | 0 => Nat.le_refl _
  | k + 1 => by have := rloopsTo_len t fr N k; simp only [rloopsTo]; split <;> simp <;> omega

theorem backs_eq {g : List (List Nat)} (hg : Ok g) {h : Nat} (hh : h ∈ order g) (row : List Nat) (hr : ∀ p ∈ row, p < g.length) : rbacks (table g) h row = backs (rNear g) h row := by
  refine List.filter_congr fun p hp => ?_
  have h1 := tab_iff hg h p
  have h2 := dominates_iff hg (rNear_ok hg) ((order_ok hg).lt h hh) (hr p hp)
  rw [Bool.eq_iff_iff, h1, h2]
  constructor
  · exact .inl
  · rintro (h | h)
    · exact h
    · subst h; exact ⟨hh, hh, Dom.self _⟩
theorem backs_none {g : List (List Nat)} (hg : Ok g) {h : Nat} (hh : h ∉ order g) (row : List Nat) : rbacks (table g) h row = [] := by
  rw [rbacks, List.filter_eq_nil_iff]
  intro p _ hp
  exact hh ((tab_iff hg h p).1 hp).1
/-- Both find the same loops. -/
theorem loops_eq {g : List (List Nat)} (hg : Ok g) : ∀ k, k ≤ g.length → rloopsTo (table g) (froms g) g.length k = loopsTo (rNear g) (froms g) g.length k
  | 0, _ => rfl
  | h + 1, hk => by
    have ih := loops_eq hg h (by omega)
    have hN := rNear_ok hg
    simp only [rloopsTo, loopsTo, ih]
    by_cases hh : h ∈ order g
    · have hr : ∀ p ∈ (froms g).getD h [], p < g.length := fun p hp => ((mem_froms hg h p (by omega)).1 hp).1
      rw [backs_eq hg hh _ hr]
      have hno : ¬ (0 < h ∧ (rNear g).getD h 0 < 0) := by
        rintro ⟨h0, hn⟩
        obtain ⟨p, e, _⟩ := hN.near h hh (by omega)
        have : nd (rNear g) h < 0 := hn
        omega
      by_cases he : backs (rNear g) h ((froms g).getD h []) = []
      · rw [if_pos he, if_pos (.inr he)]
      · rw [if_neg he, if_neg (by rintro (h1 | h1); exact hno h1; exact he h1)]
    · rw [if_pos (backs_none hg hh _)]
      have h0 : 0 < h := by
        rcases Nat.eq_zero_or_pos h with e | e
        · subst e; exact absurd (zero_mem (order_ok hg)) hh
        · exact e
      have hn : (rNear g).getD h 0 < 0 := by
        have := hN.out h (by omega) hh
        have e : (rNear g).getD h 0 = nd (rNear g) h := rfl
        omega
      rw [if_pos (.inl ⟨h0, hn⟩)]

/-- The measure of the search. -/
def todoM (M : Nat) (inn : List Bool) (todo : List Nat) : Nat := unmet inn * (M + 1) + todo.length
theorem todoM_take {M : Nat} {inn : List Bool} {n : Nat} {todo todo' : List Nat} {k : Nat} (hn : n < inn.length) (hf : inn[n] = false) (hk : k ≤ M) (hl : todo'.length + 1 = todo.length + k) : todoM M (inn.set n true) todo' < todoM M inn todo := by
  have := unmet_set hn hf
  simp only [todoM, ← this, Nat.add_mul, Nat.one_mul]
  omega
end Go.Vw.G
