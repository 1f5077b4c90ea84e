/-
  Words for the printed walks: laws over any program; what no text of this claim names is struck. No condition beyond what each law says.
-/
import Derived.Test.YtfbfgaaaegbihaaWTab
namespace Go.Proofs.YtfbfgaaaegbihaaW.PrintLast
section
variable {P : Program} {ops : Array Oper} {Q : Exit → Act → World → Prop} {md : Region.Mode} {T : Bool × List (List Nat × List Nat)} {B : List Nat} {O : List Nat} {b : Nat → Bool} {i j n : Nat}
end
end Go.Proofs.YtfbfgaaaegbihaaW.PrintLast
