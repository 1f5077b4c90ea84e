/-
  TopMoves, run by the kernel at numbers with residue 0. No condition.
-/
import Derived.Test.YtmnpjaglgalobaaGreatEKHm
namespace Go.Proofs.YtmnpjaglgalobaaGreat.Km
open Go Go.Proofs.YtmnpjaglgalobaaGreatW.C Go.Proofs.YtmnpjaglgalobaaGreatW.D
set_option maxRecDepth 100000
theorem tm0_0 : run 6 [.res .u8 21 0, .res .u8 1 0] = .yes := by kernel_rfl
end Go.Proofs.YtmnpjaglgalobaaGreat.Km
