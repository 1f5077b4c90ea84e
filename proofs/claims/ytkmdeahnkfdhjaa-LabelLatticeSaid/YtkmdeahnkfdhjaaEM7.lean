/-
  Labels as lists of pairs: the document's answer. In plain Lean. No condition.
-/
import Derived.Test.YtkmdeahnkfdhjaaEM6
namespace Go.Proofs.YtkmdeahnkfdhjaaW.E
open Go Go.RowKit
set_option linter.unusedVariables false
set_option linter.unusedSimpArgs false

theorem okN_iff (d m : Int) (l : List Pr) : ∀ n, okN d m l n = true ↔ ∀ i, i < n → okAt d m l i = true
  | 0 => by simp [okN]
  | n + 1 => by
    rw [okN_succ, Bool.and_eq_true, okN_iff d m l n]
    constructor
    · rintro ⟨h1, h2⟩ i hi
      by_cases e : i = n
      · subst e; exact h2
      · exact h1 i (by omega)
    · exact fun h => ⟨fun i hi => h i (by omega), h n (by omega)⟩
/-- The levels of the first n are at most 4. -/
def lv4 (l : List Pr) (n : Nat) : Bool := (l.take n).all fun p => decide (p.l ≤ 4)
theorem lv4_succ (l : List Pr) (n : Nat) (h : n < l.length) : lv4 l (n + 1) = (lv4 l n && decide (l[n].l ≤ 4)) := by
  unfold lv4; rw [take_snoc l n h, List.all_append]; simp only [List.all_cons, List.all_nil, Bool.and_true]
theorem lv4_false (l : List Pr) (n : Nat) (h : lv4 l n = false) : lv4 l l.length = false := by
  unfold lv4 at h ⊢
  rw [List.take_length]
  rw [List.all_eq_false] at h ⊢
  obtain ⟨x, hx, h⟩ := h
  exact ⟨x, List.mem_of_mem_take hx, h⟩
def canon (d : Int) (l : List Pr) : Bool := decide (d ≤ 5) && okN d 5 l l.length
theorem mayL_canon (d : Int) (l : List Pr) : mayL d l = (canon d l && decide (1 ≤ d) && decide (d ≤ 4) && decide (l.length ≤ 16) && lv4 l l.length) := by
  rw [Bool.eq_iff_iff]
  simp only [mayL, canon, Bool.and_eq_true, decide_eq_true_eq, okN_iff, lv4, List.take_length, List.all_eq_true]
  constructor
  · rintro ⟨⟨⟨h1, h2⟩, h3⟩, h4⟩
    refine ⟨⟨⟨⟨⟨by omega, fun i hi => ?_⟩, h1⟩, h2⟩, h3⟩, fun p hp => ?_⟩
    · have := h4 i hi
      rw [okAt_lt hi] at this ⊢
      simp only [Bool.and_eq_true, decide_eq_true_eq] at this ⊢
      exact ⟨⟨by omega, this.1.2⟩, this.2⟩
    · obtain ⟨i, hi, rfl⟩ := List.mem_iff_getElem.1 hp
      have := h4 i hi
      rw [okAt_lt hi] at this
      simp only [Bool.and_eq_true, decide_eq_true_eq] at this
      exact this.1.1
  · rintro ⟨⟨⟨⟨⟨_, h4⟩, h1⟩, h2⟩, h3⟩, h5⟩
    refine ⟨⟨⟨h1, h2⟩, h3⟩, fun i hi => ?_⟩
    have := h4 i hi
    have h6 := h5 _ (List.getElem_mem hi)
    rw [okAt_lt hi] at this ⊢
    simp only [Bool.and_eq_true, decide_eq_true_eq] at this ⊢
    exact ⟨⟨h6, this.1.2⟩, this.2⟩
end Go.Proofs.YtkmdeahnkfdhjaaW.E
