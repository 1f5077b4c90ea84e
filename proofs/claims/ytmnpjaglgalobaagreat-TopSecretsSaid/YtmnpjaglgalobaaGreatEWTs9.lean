/-
  TopSecrets, run by the kernel at numbers with residue 9. No condition.
-/
import Derived.Test.YtmnpjaglgalobaaGreatEKH
namespace Go.Proofs.YtmnpjaglgalobaaGreat.K
open Go Go.Proofs.YtmnpjaglgalobaaGreatW.C Go.Proofs.YtmnpjaglgalobaaGreatW.D
set_option maxRecDepth 100000
theorem ts9_t : run 5 [.res .u8 11 9, .val (.bool true)] = .yes := by kernel_rfl
theorem ts9_f : run 5 [.res .u8 11 9, .val (.bool false)] = .yes := by kernel_rfl
end Go.Proofs.YtmnpjaglgalobaaGreat.K
