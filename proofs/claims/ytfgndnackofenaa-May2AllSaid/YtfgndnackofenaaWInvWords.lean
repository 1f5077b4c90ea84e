/-
  Words for the printed walks: laws over any program; what no text of this claim names is struck. No condition beyond what each law says.
-/
import Derived.Test.YtfgndnackofenaaWInv
import Derived.Test.YtfgndnackofenaaWFootNe
namespace Go.Proofs.YtfgndnackofenaaW.PrintWords
open Go.RowKit
end Go.Proofs.YtfgndnackofenaaW.PrintWords
namespace Go.Proofs.YtfgndnackofenaaW.PrintLast
section
variable {ops : Array Oper} {a : Act} {o og : Oper} {g : Nat} {t : Tmp} {u : Bool}
end
end Go.Proofs.YtfgndnackofenaaW.PrintLast
