/-
  TopMoves, run by the kernel at numbers with residue 16. No condition.
-/
import Derived.Test.YtmnpjaglgalobaaGreatEKHm
namespace Go.Proofs.YtmnpjaglgalobaaGreat.Km
open Go Go.Proofs.YtmnpjaglgalobaaGreatW.C Go.Proofs.YtmnpjaglgalobaaGreatW.D
set_option maxRecDepth 100000
theorem tm16_0 : run 6 [.res .u8 21 16, .res .u8 4 0] = .yes := by kernel_rfl
theorem tm16_1 : run 6 [.res .u8 21 16, .res .u8 4 1] = .yes := by kernel_rfl
theorem tm16_2 : run 6 [.res .u8 21 16, .res .u8 4 2] = .yes := by kernel_rfl
theorem tm16_3 : run 6 [.res .u8 21 16, .res .u8 4 3] = .yes := by kernel_rfl
end Go.Proofs.YtmnpjaglgalobaaGreat.Km
