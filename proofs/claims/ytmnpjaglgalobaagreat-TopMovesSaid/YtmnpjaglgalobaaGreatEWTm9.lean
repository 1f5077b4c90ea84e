/-
  TopMoves, run by the kernel at numbers with residue 9. No condition.
-/
import Derived.Test.YtmnpjaglgalobaaGreatEKHm
namespace Go.Proofs.YtmnpjaglgalobaaGreat.Km
open Go Go.Proofs.YtmnpjaglgalobaaGreatW.C Go.Proofs.YtmnpjaglgalobaaGreatW.D
set_option maxRecDepth 100000
theorem tm9_0 : run 6 [.res .u8 21 9, .res .u8 3 0] = .yes := by kernel_rfl
theorem tm9_1 : run 6 [.res .u8 21 9, .res .u8 3 1] = .yes := by kernel_rfl
theorem tm9_2 : run 6 [.res .u8 21 9, .res .u8 3 2] = .yes := by kernel_rfl
end Go.Proofs.YtmnpjaglgalobaaGreat.Km
