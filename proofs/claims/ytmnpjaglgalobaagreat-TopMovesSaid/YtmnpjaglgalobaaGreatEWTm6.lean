/-
  TopMoves, run by the kernel at numbers with residue 6. No condition.
-/
import Derived.Test.YtmnpjaglgalobaaGreatEKHm
namespace Go.Proofs.YtmnpjaglgalobaaGreat.Km
open Go Go.Proofs.YtmnpjaglgalobaaGreatW.C Go.Proofs.YtmnpjaglgalobaaGreatW.D
set_option maxRecDepth 100000
theorem tm6_0 : run 6 [.res .u8 21 6, .res .u8 2 0] = .yes := by kernel_rfl
theorem tm6_1 : run 6 [.res .u8 21 6, .res .u8 2 1] = .yes := by kernel_rfl
end Go.Proofs.YtmnpjaglgalobaaGreat.Km
