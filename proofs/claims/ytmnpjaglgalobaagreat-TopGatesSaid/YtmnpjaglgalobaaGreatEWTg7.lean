/-
  TopGates, run by the kernel at numbers with residue 7. No condition.
-/
import Derived.Test.YtmnpjaglgalobaaGreatEKH
namespace Go.Proofs.YtmnpjaglgalobaaGreat.K
open Go Go.Proofs.YtmnpjaglgalobaaGreatW.C Go.Proofs.YtmnpjaglgalobaaGreatW.D
set_option maxRecDepth 100000
theorem tg7_t : run 7 [.res .u8 10 7, .val (.bool true)] = .yes := by kernel_rfl
theorem tg7_f : run 7 [.res .u8 10 7, .val (.bool false)] = .yes := by kernel_rfl
end Go.Proofs.YtmnpjaglgalobaaGreat.K
