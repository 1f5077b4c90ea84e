/-
  Labels as bytes, in plain Lean. No condition.
-/
import Derived.Test.YtkmdeahnkfdhjaaEM7
namespace Go.Proofs.YtkmdeahnkfdhjaaW.E
open Go Go.RowKit
set_option linter.unusedVariables false
set_option linter.unusedSimpArgs false

/-- A pair's bytes; a label's. -/
def enp (p : Pr) : List Int := pb (IntKind.u64.wrap p.c) 2 ++ pb (IntKind.u64.wrap p.l) 1
def enc (d : Int) (l : List Pr) : List Int := pb (IntKind.u64.wrap d) 1 ++ pb (IntKind.u64.wrap l.length) 1 ++ l.flatMap enp
theorem enp_len (p : Pr) : (enp p).length = 3 := by simp [enp, pb_len]
theorem encs_len : ∀ l : List Pr, (l.flatMap enp).length = 3 * l.length
  | [] => rfl
  | p :: l => by rw [List.flatMap_cons, List.length_append, enp_len, encs_len l, List.length_cons]; omega
theorem enc_len (d : Int) (l : List Pr) : (enc d l).length = 2 + 3 * l.length := by
  simp only [enc, List.length_append, pb_len, encs_len]
end Go.Proofs.YtkmdeahnkfdhjaaW.E
