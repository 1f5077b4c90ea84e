/-
  TopSecrets, run by the kernel at numbers with residue 3. No condition.
-/
import Derived.Test.YtmnpjaglgalobaaGreatEKH
namespace Go.Proofs.YtmnpjaglgalobaaGreat.K
open Go Go.Proofs.YtmnpjaglgalobaaGreatW.C Go.Proofs.YtmnpjaglgalobaaGreatW.D
set_option maxRecDepth 100000
theorem ts3_t : run 5 [.res .u8 11 3, .val (.bool true)] = .yes := by kernel_rfl
theorem ts3_f : run 5 [.res .u8 11 3, .val (.bool false)] = .yes := by kernel_rfl
end Go.Proofs.YtmnpjaglgalobaaGreat.K
