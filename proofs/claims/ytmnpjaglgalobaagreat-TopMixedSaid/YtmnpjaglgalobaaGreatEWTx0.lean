/-
  TopMixed, run by the kernel at numbers with residue 0. No condition.
-/
import Derived.Test.YtmnpjaglgalobaaGreatEKH
namespace Go.Proofs.YtmnpjaglgalobaaGreat.K
open Go Go.Proofs.YtmnpjaglgalobaaGreatW.C Go.Proofs.YtmnpjaglgalobaaGreatW.D
set_option maxRecDepth 100000
theorem tx_nil : run 3 [.val (.slice none 0 0), .res .u16 1001 100] = .yes := by kernel_rfl
theorem tx_emp : run 3 [.sle, .res .u16 1001 100] = .yes := by kernel_rfl
theorem tx_long : run 3 [.res .u8 1005 0, .res .u16 1001 100] = .yes := by kernel_rfl
end Go.Proofs.YtmnpjaglgalobaaGreat.K
