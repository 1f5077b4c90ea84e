/-
  SetsForms, in plain Lean: it is run. No condition.
-/
import Derived.Test.YtfbfgaaaegbihaaPSx8
namespace Go.Proofs.Ytfbfgaaaegbihaa.Pure
open Go Go.RowKit Go.Proofs.Ytfbfgaaaegbihaa.PS Go.Proofs.YtfbfgaaaegbihaaW.PrintWords

theorem SetsForms : transomlaw8_SetsForms.Pure := ⟨60, by decide +kernel⟩
end Go.Proofs.Ytfbfgaaaegbihaa.Pure
