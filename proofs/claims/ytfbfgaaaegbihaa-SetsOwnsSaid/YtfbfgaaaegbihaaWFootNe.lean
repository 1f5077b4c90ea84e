/-
  Words for the printed walks: laws over any program; what no text of this claim names is struck. No condition beyond what each law says.
-/
import Derived.Test.YtfbfgaaaegbihaaWN
namespace Go.Proofs.YtfbfgaaaegbihaaW.PrintWords
open Go.RowKit
namespace Kd
section
variable {α : Type} {d : Kd α} {W : World} {g n : Nat} {S ok : Nat → Prop} {A : Option Addr} {ad : Addr} {xs : List α}
end
end Kd
end Go.Proofs.YtfbfgaaaegbihaaW.PrintWords
