/-
  TopGates for every number: by its residue. No condition.
-/
import Derived.Test.YtmnpjaglgalobaaGreatEWTg0
import Derived.Test.YtmnpjaglgalobaaGreatEWTg1
import Derived.Test.YtmnpjaglgalobaaGreatEWTg2
import Derived.Test.YtmnpjaglgalobaaGreatEWTg3
import Derived.Test.YtmnpjaglgalobaaGreatEWTg4
import Derived.Test.YtmnpjaglgalobaaGreatEWTg5
import Derived.Test.YtmnpjaglgalobaaGreatEWTg6
import Derived.Test.YtmnpjaglgalobaaGreatEWTg7
import Derived.Test.YtmnpjaglgalobaaGreatEWTg8
import Derived.Test.YtmnpjaglgalobaaGreatEWTg9
namespace Go.Proofs.YtmnpjaglgalobaaGreat.K
open Go Go.RowKit Go.Proofs.YtmnpjaglgalobaaGreatW.C Go.Proofs.YtmnpjaglgalobaaGreatW.D
set_option linter.unusedVariables false
theorem tg_run (r : Nat) (h : r < 10) (b : Bool) : run 7 [.res .u8 10 r, .val (.bool b)] = .yes := by
  match r, h, b with
  | 0, _, true => exact tg0_t
  | 0, _, false => exact tg0_f
  | 1, _, true => exact tg1_t
  | 1, _, false => exact tg1_f
  | 2, _, true => exact tg2_t
  | 2, _, false => exact tg2_f
  | 3, _, true => exact tg3_t
  | 3, _, false => exact tg3_f
  | 4, _, true => exact tg4_t
  | 4, _, false => exact tg4_f
  | 5, _, true => exact tg5_t
  | 5, _, false => exact tg5_f
  | 6, _, true => exact tg6_t
  | 6, _, false => exact tg6_f
  | 7, _, true => exact tg7_t
  | 7, _, false => exact tg7_f
  | 8, _, true => exact tg8_t
  | 8, _, false => exact tg8_f
  | 9, _, true => exact tg9_t
  | 9, _, false => exact tg9_f
theorem topGates_calls {x : Int} (h0 : 0 ≤ x) (h1 : x < 256) (b : Bool) (w : World) : Calls Tryz.prog 7 #[.int .u8 x, .bool b] w fun e w' => e = .returned (.bool true) ∧ Below w.heap.size w w' := by
  refine run_ok (tg_run (x.toNat % 10) (Nat.mod_lt _ (by omega)) b) rfl ?_
  rintro (_ | _ | _) a v e1 e2 <;> simp at e1 e2 <;> subst e1 <;> subst e2
  · exact rv_u8 10 (by omega) h0 h1
  · exact .val _
end Go.Proofs.YtmnpjaglgalobaaGreat.K
