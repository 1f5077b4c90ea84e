/-
  TopMixed, run by the kernel at numbers with residue 9. No condition.
-/
import Derived.Test.YtmnpjaglgalobaaGreatEKH
namespace Go.Proofs.YtmnpjaglgalobaaGreat.K
open Go Go.Proofs.YtmnpjaglgalobaaGreatW.C Go.Proofs.YtmnpjaglgalobaaGreatW.D
set_option maxRecDepth 100000
theorem tx_17 : run 3 [.res .u8 1004 17, .res .u16 1001 100] = .yes := by kernel_rfl
theorem tx_18 : run 3 [.res .u8 1004 18, .res .u16 1001 100] = .yes := by kernel_rfl
end Go.Proofs.YtmnpjaglgalobaaGreat.K
