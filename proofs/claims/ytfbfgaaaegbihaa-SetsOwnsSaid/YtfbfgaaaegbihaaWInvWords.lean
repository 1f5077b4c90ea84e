/-
  Words for the printed walks: laws over any program; what no text of this claim names is struck. No condition beyond what each law says.
-/
import Derived.Test.YtfbfgaaaegbihaaWInv
import Derived.Test.YtfbfgaaaegbihaaWFootNe
namespace Go.Proofs.YtfbfgaaaegbihaaW.PrintWords
open Go.RowKit
end Go.Proofs.YtfbfgaaaegbihaaW.PrintWords
namespace Go.Proofs.YtfbfgaaaegbihaaW.PrintLast
section
variable {ops : Array Oper} {a : Act} {o og : Oper} {g : Nat} {t : Tmp} {u : Bool}
end
end Go.Proofs.YtfbfgaaaegbihaaW.PrintLast
