/-
  TopMoves, run by the kernel at numbers with residue 10. No condition.
-/
import Derived.Test.YtmnpjaglgalobaaGreatEKHm
namespace Go.Proofs.YtmnpjaglgalobaaGreat.Km
open Go Go.Proofs.YtmnpjaglgalobaaGreatW.C Go.Proofs.YtmnpjaglgalobaaGreatW.D
set_option maxRecDepth 100000
theorem tm10_0 : run 6 [.res .u8 21 10, .res .u8 3 0] = .yes := by kernel_rfl
theorem tm10_1 : run 6 [.res .u8 21 10, .res .u8 3 1] = .yes := by kernel_rfl
theorem tm10_2 : run 6 [.res .u8 21 10, .res .u8 3 2] = .yes := by kernel_rfl
end Go.Proofs.YtmnpjaglgalobaaGreat.Km
