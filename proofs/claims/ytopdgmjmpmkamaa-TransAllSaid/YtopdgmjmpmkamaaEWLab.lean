/-
  Which labels may be, walked in abstract values. Conditions: lengths.
-/
import Derived.Test.YtopdgmjmpmkamaaETab
import Derived.Test.YtopdgmjmpmkamaaEM14
namespace Go.Proofs.Ytopdgmjmpmkamaa.E
open Go Go.RowKit Go.Proofs.YtopdgmjmpmkamaaW.E
set_option linter.unusedVariables false
set_option linter.unusedSimpArgs false
set_option maxRecDepth 100000
set_option maxHeartbeats 4000000


end Go.Proofs.Ytopdgmjmpmkamaa.E
