/-
  Owned secrets' sets, in plain Lean. No condition.
-/
import Derived.Test.YtkmdeahnkfdhjaaEM1
namespace Go.Proofs.YtkmdeahnkfdhjaaW.E
open Go Go.RowKit
set_option linter.unusedVariables false
set_option linter.unusedSimpArgs false

def eqL (a b : List Int) : Bool := decide (a = b)
def mayC (l : List Int) : Bool := asc l && decide (l.length ≤ 16)
theorem mayC_len {l : List Int} (h : mayC l = true) : l.length ≤ 16 := by
  simp only [mayC, Bool.and_eq_true, decide_eq_true_eq] at h
  exact h.2
def orr (a b : List Int) : List Int := mk (a ++ b)
theorem orr_len (a b : List Int) : (orr a b).length ≤ a.length + b.length := by
  have := mk_len (a ++ b)
  simpa [orr] using this
def may8 (s i o : List Int) : Bool := mayC s && mayC i && mayC o && (decide ((orr (orr s i) o).length = s.length + i.length + o.length) && decide ((orr (orr s i) o).length ≤ 16))
def maySets (s i o : List Int) : Bool := mayC s && mayC i && mayC o && (decide (s.length + i.length + o.length ≤ 16) && decide ((un s (un i o)).length = s.length + i.length + o.length))
def same3 (s i o s' i' o' : List Int) : Bool := eqL s s' && eqL i i' && eqL o o'
def flows2 (s i s' i' : List Int) : Bool := sub s s' && sub i' i
end Go.Proofs.YtkmdeahnkfdhjaaW.E
