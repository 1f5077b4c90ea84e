/-
  TopMoves, run by the kernel at numbers with residue 2. No condition.
-/
import Derived.Test.YtmnpjaglgalobaaGreatEKHm
namespace Go.Proofs.YtmnpjaglgalobaaGreat.Km
open Go Go.Proofs.YtmnpjaglgalobaaGreatW.C Go.Proofs.YtmnpjaglgalobaaGreatW.D
set_option maxRecDepth 100000
theorem tm2_0 : run 6 [.res .u8 21 2, .res .u8 1 0] = .yes := by kernel_rfl
end Go.Proofs.YtmnpjaglgalobaaGreat.Km
