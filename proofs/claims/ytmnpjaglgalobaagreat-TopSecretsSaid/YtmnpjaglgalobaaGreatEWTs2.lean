/-
  TopSecrets, run by the kernel at numbers with residue 2. No condition.
-/
import Derived.Test.YtmnpjaglgalobaaGreatEKH
namespace Go.Proofs.YtmnpjaglgalobaaGreat.K
open Go Go.Proofs.YtmnpjaglgalobaaGreatW.C Go.Proofs.YtmnpjaglgalobaaGreatW.D
set_option maxRecDepth 100000
theorem ts2_t : run 5 [.res .u8 11 2, .val (.bool true)] = .yes := by kernel_rfl
theorem ts2_f : run 5 [.res .u8 11 2, .val (.bool false)] = .yes := by kernel_rfl
end Go.Proofs.YtmnpjaglgalobaaGreat.K
