/-
  TopSecrets, run by the kernel at numbers with residue 4. No condition.
-/
import Derived.Test.YtmnpjaglgalobaaGreatEKH
namespace Go.Proofs.YtmnpjaglgalobaaGreat.K
open Go Go.Proofs.YtmnpjaglgalobaaGreatW.C Go.Proofs.YtmnpjaglgalobaaGreatW.D
set_option maxRecDepth 100000
theorem ts4_t : run 5 [.res .u8 11 4, .val (.bool true)] = .yes := by kernel_rfl
theorem ts4_f : run 5 [.res .u8 11 4, .val (.bool false)] = .yes := by kernel_rfl
end Go.Proofs.YtmnpjaglgalobaaGreat.K
