/-
  Words for the printed walks: laws over any program; what no text of this claim names is struck. No condition beyond what each law says.
-/
import Derived.Test.YtfbfgaaaegbihaaWWords
import Derived.Laws.StructEq
namespace Go.Proofs.YtfbfgaaaegbihaaW.PrintWords
open Go.RowKit
section
variable {P : Program} {d : Nat} {xs ys : Array Value} {f : Field} {fs : List Field} {a b : Value} {r s : Bool} {w : World}
end
end Go.Proofs.YtfbfgaaaegbihaaW.PrintWords
