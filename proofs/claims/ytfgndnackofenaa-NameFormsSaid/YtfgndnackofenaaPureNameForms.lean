/-
  NameForms, in plain Lean: it is run. No condition.
-/
import Derived.Test.YtfgndnackofenaaQNames
import Derived.Test.YtfgndnackofenaaPNx5
namespace Go.Proofs.Ytfgndnackofenaa.Pure
open Go Go.RowKit Go.Proofs.Ytfgndnackofenaa.PN Go.Proofs.YtfgndnackofenaaW.PrintWords Go.Proofs.YtfgndnackofenaaW.PJ

theorem NameForms : transomlaw14_NameForms.Pure := ⟨60, by decide +kernel⟩
end Go.Proofs.Ytfgndnackofenaa.Pure
