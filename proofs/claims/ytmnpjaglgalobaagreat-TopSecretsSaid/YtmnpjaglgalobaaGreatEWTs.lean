/-
  TopSecrets for every number: by its residue. No condition.
-/
import Derived.Test.YtmnpjaglgalobaaGreatEWTs0
import Derived.Test.YtmnpjaglgalobaaGreatEWTs1
import Derived.Test.YtmnpjaglgalobaaGreatEWTs2
import Derived.Test.YtmnpjaglgalobaaGreatEWTs3
import Derived.Test.YtmnpjaglgalobaaGreatEWTs4
import Derived.Test.YtmnpjaglgalobaaGreatEWTs5
import Derived.Test.YtmnpjaglgalobaaGreatEWTs6
import Derived.Test.YtmnpjaglgalobaaGreatEWTs7
import Derived.Test.YtmnpjaglgalobaaGreatEWTs8
import Derived.Test.YtmnpjaglgalobaaGreatEWTs9
import Derived.Test.YtmnpjaglgalobaaGreatEWTs10
namespace Go.Proofs.YtmnpjaglgalobaaGreat.K
open Go Go.RowKit Go.Proofs.YtmnpjaglgalobaaGreatW.C Go.Proofs.YtmnpjaglgalobaaGreatW.D
set_option linter.unusedVariables false
theorem ts_run (r : Nat) (h : r < 11) (b : Bool) : run 5 [.res .u8 11 r, .val (.bool b)] = .yes := by
  match r, h, b with
  | 0, _, true => exact ts0_t
  | 0, _, false => exact ts0_f
  | 1, _, true => exact ts1_t
  | 1, _, false => exact ts1_f
  | 2, _, true => exact ts2_t
  | 2, _, false => exact ts2_f
  | 3, _, true => exact ts3_t
  | 3, _, false => exact ts3_f
  | 4, _, true => exact ts4_t
  | 4, _, false => exact ts4_f
  | 5, _, true => exact ts5_t
  | 5, _, false => exact ts5_f
  | 6, _, true => exact ts6_t
  | 6, _, false => exact ts6_f
  | 7, _, true => exact ts7_t
  | 7, _, false => exact ts7_f
  | 8, _, true => exact ts8_t
  | 8, _, false => exact ts8_f
  | 9, _, true => exact ts9_t
  | 9, _, false => exact ts9_f
  | 10, _, true => exact ts10_t
  | 10, _, false => exact ts10_f
theorem topSecrets_calls {x : Int} (h0 : 0 ≤ x) (h1 : x < 256) (b : Bool) (w : World) : Calls Tryz.prog 5 #[.int .u8 x, .bool b] w fun e w' => e = .returned (.bool true) ∧ Below w.heap.size w w' := by
  refine run_ok (ts_run (x.toNat % 11) (Nat.mod_lt _ (by omega)) b) rfl ?_
  rintro (_ | _ | _) a v e1 e2 <;> simp at e1 e2 <;> subst e1 <;> subst e2
  · exact rv_u8 11 (by omega) h0 h1
  · exact .val _
end Go.Proofs.YtmnpjaglgalobaaGreat.K
