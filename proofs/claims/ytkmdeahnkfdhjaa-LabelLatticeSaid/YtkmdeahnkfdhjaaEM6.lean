/-
  Labels as lists of pairs, in plain Lean. No condition.
-/
import Derived.Test.YtkmdeahnkfdhjaaEM5
namespace Go.Proofs.YtkmdeahnkfdhjaaW.E
open Go Go.RowKit
set_option linter.unusedVariables false
set_option linter.unusedSimpArgs false

@[reducible] def lps (l : List Pr) : AV := .list 2 (l.map prA) .no
/-- The i-th pair stands well: its level is at most m and not the default; the categories rise. -/
def okAt (d m : Int) (l : List Pr) (i : Nat) : Bool :=
  match l[i]? with
  | some p => decide (p.l ≤ m) && !decide (p.l = d) && (decide (i = 0) || decide ((l.getD (i - 1) ⟨0, 0⟩).c < p.c))
  | none => true
def okN (d m : Int) (l : List Pr) (n : Nat) : Bool := (List.range n).all (okAt d m l)
theorem okN_succ (d m : Int) (l : List Pr) (n : Nat) : okN d m l (n + 1) = (okN d m l n && okAt d m l n) := by
  simp [okN, List.range_succ]
theorem okN_false (d m : Int) (l : List Pr) : ∀ (n k : Nat), n ≤ k → okN d m l n = false → okN d m l k = false := fun n k h h2 => by
  induction k with
  | zero => have : n = 0 := by omega
            subst this; exact h2
  | succ k ih =>
    rw [okN_succ]
    by_cases e : n = k + 1
    · subst e; rw [← okN_succ]; exact h2
    · rw [ih (by omega)]; rfl
theorem okAt_lt {d m : Int} {l : List Pr} {i : Nat} (h : i < l.length) : okAt d m l i = (decide (l[i].l ≤ m) && !decide (l[i].l = d) && (decide (i = 0) || decide ((l[i - 1]'(by omega)).c < l[i].c))) := by
  unfold okAt
  rw [List.getElem?_eq_getElem h]
  simp [List.getD_eq_getElem?_getD, show i - 1 < l.length by omega]
def mayL (d : Int) (l : List Pr) : Bool := decide (1 ≤ d) && decide (d ≤ 4) && decide (l.length ≤ 16) && okN d 4 l l.length
end Go.Proofs.YtkmdeahnkfdhjaaW.E
