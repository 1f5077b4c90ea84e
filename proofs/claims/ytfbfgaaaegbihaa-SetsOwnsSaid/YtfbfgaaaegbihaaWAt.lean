/-
  Words for the printed walks: laws over any program; what no text of this claim names is struck. No condition beyond what each law says.
-/
import Derived.Test.YtfbfgaaaegbihaaWFootNe
namespace Go.Proofs.YtfbfgaaaegbihaaW.PrintWords
open Go.RowKit
section
variable {w w' u : World} {m B g : Nat} {o : Obj} {row : Option Nat} {S : Nat → Prop} {a : Addr} {v : Value}
end
namespace Kd
section
variable {α : Type} {d : Kd α} {e base n m : Nat} {ok : Nat → Prop} {w w' : World} {v : Value} {A : Option Addr} {xs : List α}
end
end Kd
end Go.Proofs.YtfbfgaaaegbihaaW.PrintWords
