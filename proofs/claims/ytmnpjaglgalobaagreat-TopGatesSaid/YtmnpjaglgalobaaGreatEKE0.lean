/-
  What walk.Reach is called with and answers, each run in all orders: what is run. No condition.
-/
import Derived.Test.YtmnpjaglgalobaaGreatEKT
import Derived.Test.YtmnpjaglgalobaaGreatED18
namespace Go.Proofs.YtmnpjaglgalobaaGreat.K
open Go Go.Proofs.YtmnpjaglgalobaaGreat.K Go.Proofs.YtmnpjaglgalobaaGreatW.C Go.Proofs.YtmnpjaglgalobaaGreatW.D
set_option linter.unusedVariables false
set_option maxRecDepth 100000
noncomputable def codeR : Code := (Tryz.f97.body).getD .skip
def fuelR : Nat := 100000
end Go.Proofs.YtmnpjaglgalobaaGreat.K
