/-
  TopMoves, run by the kernel at numbers with residue 20. No condition.
-/
import Derived.Test.YtmnpjaglgalobaaGreatEKHm
namespace Go.Proofs.YtmnpjaglgalobaaGreat.Km
open Go Go.Proofs.YtmnpjaglgalobaaGreatW.C Go.Proofs.YtmnpjaglgalobaaGreatW.D
set_option maxRecDepth 100000
theorem tm20_0 : run 6 [.res .u8 21 20, .res .u8 5 0] = .yes := by kernel_rfl
theorem tm20_1 : run 6 [.res .u8 21 20, .res .u8 5 1] = .yes := by kernel_rfl
theorem tm20_2 : run 6 [.res .u8 21 20, .res .u8 5 2] = .yes := by kernel_rfl
theorem tm20_3 : run 6 [.res .u8 21 20, .res .u8 5 3] = .yes := by kernel_rfl
theorem tm20_4 : run 6 [.res .u8 21 20, .res .u8 5 4] = .yes := by kernel_rfl
end Go.Proofs.YtmnpjaglgalobaaGreat.Km
