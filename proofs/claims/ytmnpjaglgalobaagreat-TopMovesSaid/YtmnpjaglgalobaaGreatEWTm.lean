/-
  TopMoves for every number: by its residue. No condition.
-/
import Derived.Test.YtmnpjaglgalobaaGreatEWTm0
import Derived.Test.YtmnpjaglgalobaaGreatEWTm1
import Derived.Test.YtmnpjaglgalobaaGreatEWTm2
import Derived.Test.YtmnpjaglgalobaaGreatEWTm3
import Derived.Test.YtmnpjaglgalobaaGreatEWTm4
import Derived.Test.YtmnpjaglgalobaaGreatEWTm5
import Derived.Test.YtmnpjaglgalobaaGreatEWTm6
import Derived.Test.YtmnpjaglgalobaaGreatEWTm7
import Derived.Test.YtmnpjaglgalobaaGreatEWTm8
import Derived.Test.YtmnpjaglgalobaaGreatEWTm9
import Derived.Test.YtmnpjaglgalobaaGreatEWTm10
import Derived.Test.YtmnpjaglgalobaaGreatEWTm11
import Derived.Test.YtmnpjaglgalobaaGreatEWTm12
import Derived.Test.YtmnpjaglgalobaaGreatEWTm13
import Derived.Test.YtmnpjaglgalobaaGreatEWTm14
import Derived.Test.YtmnpjaglgalobaaGreatEWTm15
import Derived.Test.YtmnpjaglgalobaaGreatEWTm16
import Derived.Test.YtmnpjaglgalobaaGreatEWTm17
import Derived.Test.YtmnpjaglgalobaaGreatEWTm18
import Derived.Test.YtmnpjaglgalobaaGreatEWTm19
import Derived.Test.YtmnpjaglgalobaaGreatEWTm20
namespace Go.Proofs.YtmnpjaglgalobaaGreat.Km
open Go Go.RowKit Go.Proofs.YtmnpjaglgalobaaGreatW.C Go.Proofs.YtmnpjaglgalobaaGreatW.D
set_option linter.unusedVariables false
def picks (n : Nat) : Nat := max ((n + 3) / 4) 1
theorem tm_run (n : Nat) (h : n < 21) (a : Nat) (h2 : a < picks n) : run 6 [.res .u8 21 n, .res .u8 (picks n) a] = .yes := by
  match n, h, a, h2 with
  | 0, _, 0, _ => exact tm0_0
  | 0, _, a + 1, h => exact absurd (show a + 1 < 1 from h) (by omega)
  | 1, _, 0, _ => exact tm1_0
  | 1, _, a + 1, h => exact absurd (show a + 1 < 1 from h) (by omega)
  | 2, _, 0, _ => exact tm2_0
  | 2, _, a + 1, h => exact absurd (show a + 1 < 1 from h) (by omega)
  | 3, _, 0, _ => exact tm3_0
  | 3, _, a + 1, h => exact absurd (show a + 1 < 1 from h) (by omega)
  | 4, _, 0, _ => exact tm4_0
  | 4, _, a + 1, h => exact absurd (show a + 1 < 1 from h) (by omega)
  | 5, _, 0, _ => exact tm5_0
  | 5, _, 1, _ => exact tm5_1
  | 5, _, a + 2, h => exact absurd (show a + 2 < 2 from h) (by omega)
  | 6, _, 0, _ => exact tm6_0
  | 6, _, 1, _ => exact tm6_1
  | 6, _, a + 2, h => exact absurd (show a + 2 < 2 from h) (by omega)
  | 7, _, 0, _ => exact tm7_0
  | 7, _, 1, _ => exact tm7_1
  | 7, _, a + 2, h => exact absurd (show a + 2 < 2 from h) (by omega)
  | 8, _, 0, _ => exact tm8_0
  | 8, _, 1, _ => exact tm8_1
  | 8, _, a + 2, h => exact absurd (show a + 2 < 2 from h) (by omega)
  | 9, _, 0, _ => exact tm9_0
  | 9, _, 1, _ => exact tm9_1
  | 9, _, 2, _ => exact tm9_2
  | 9, _, a + 3, h => exact absurd (show a + 3 < 3 from h) (by omega)
  | 10, _, 0, _ => exact tm10_0
  | 10, _, 1, _ => exact tm10_1
  | 10, _, 2, _ => exact tm10_2
  | 10, _, a + 3, h => exact absurd (show a + 3 < 3 from h) (by omega)
  | 11, _, 0, _ => exact tm11_0
  | 11, _, 1, _ => exact tm11_1
  | 11, _, 2, _ => exact tm11_2
  | 11, _, a + 3, h => exact absurd (show a + 3 < 3 from h) (by omega)
  | 12, _, 0, _ => exact tm12_0
  | 12, _, 1, _ => exact tm12_1
  | 12, _, 2, _ => exact tm12_2
  | 12, _, a + 3, h => exact absurd (show a + 3 < 3 from h) (by omega)
  | 13, _, 0, _ => exact tm13_0
  | 13, _, 1, _ => exact tm13_1
  | 13, _, 2, _ => exact tm13_2
  | 13, _, 3, _ => exact tm13_3
  | 13, _, a + 4, h => exact absurd (show a + 4 < 4 from h) (by omega)
  | 14, _, 0, _ => exact tm14_0
  | 14, _, 1, _ => exact tm14_1
  | 14, _, 2, _ => exact tm14_2
  | 14, _, 3, _ => exact tm14_3
  | 14, _, a + 4, h => exact absurd (show a + 4 < 4 from h) (by omega)
  | 15, _, 0, _ => exact tm15_0
  | 15, _, 1, _ => exact tm15_1
  | 15, _, 2, _ => exact tm15_2
  | 15, _, 3, _ => exact tm15_3
  | 15, _, a + 4, h => exact absurd (show a + 4 < 4 from h) (by omega)
  | 16, _, 0, _ => exact tm16_0
  | 16, _, 1, _ => exact tm16_1
  | 16, _, 2, _ => exact tm16_2
  | 16, _, 3, _ => exact tm16_3
  | 16, _, a + 4, h => exact absurd (show a + 4 < 4 from h) (by omega)
  | 17, _, 0, _ => exact tm17_0
  | 17, _, 1, _ => exact tm17_1
  | 17, _, 2, _ => exact tm17_2
  | 17, _, 3, _ => exact tm17_3
  | 17, _, 4, _ => exact tm17_4
  | 17, _, a + 5, h => exact absurd (show a + 5 < 5 from h) (by omega)
  | 18, _, 0, _ => exact tm18_0
  | 18, _, 1, _ => exact tm18_1
  | 18, _, 2, _ => exact tm18_2
  | 18, _, 3, _ => exact tm18_3
  | 18, _, 4, _ => exact tm18_4
  | 18, _, a + 5, h => exact absurd (show a + 5 < 5 from h) (by omega)
  | 19, _, 0, _ => exact tm19_0
  | 19, _, 1, _ => exact tm19_1
  | 19, _, 2, _ => exact tm19_2
  | 19, _, 3, _ => exact tm19_3
  | 19, _, 4, _ => exact tm19_4
  | 19, _, a + 5, h => exact absurd (show a + 5 < 5 from h) (by omega)
  | 20, _, 0, _ => exact tm20_0
  | 20, _, 1, _ => exact tm20_1
  | 20, _, 2, _ => exact tm20_2
  | 20, _, 3, _ => exact tm20_3
  | 20, _, 4, _ => exact tm20_4
  | 20, _, a + 5, h => exact absurd (show a + 5 < 5 from h) (by omega)
  | n + 21, h, _, _ => exact absurd h (by omega)
theorem topMoves_calls {x y : Int} (h0 : 0 ≤ x) (h1 : x < 256) (g0 : 0 ≤ y) (g1 : y < 256) (w : World) : Calls Tryz.prog 6 #[.int .u8 x, .int .u8 y] w fun e w' => e = .returned (.bool true) ∧ Below w.heap.size w w' := by
  refine run_ok (tm_run (x.toNat % 21) (Nat.mod_lt _ (by omega)) (y.toNat % picks (x.toNat % 21)) (Nat.mod_lt _ (by unfold picks; omega))) rfl ?_
  rintro (_ | _ | _) a v e1 e2 <;> simp at e1 e2 <;> subst e1 <;> subst e2
  · exact rv_u8 21 (by omega) h0 h1
  · exact rv_u8 _ (by unfold picks; omega) g0 g1
end Go.Proofs.YtmnpjaglgalobaaGreat.Km
