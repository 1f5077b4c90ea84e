/-
  What walk.Reach is called with and answers, each run in all orders. No condition.
-/
import Derived.Test.YtmnpjaglgalobaaGreatEKM1
import Derived.Test.YtmnpjaglgalobaaGreatEKM2
import Derived.Test.YtmnpjaglgalobaaGreatEKM3
import Derived.Test.YtmnpjaglgalobaaGreatEKM4
namespace Go.Proofs.YtmnpjaglgalobaaGreat.Km
open Go Go.Proofs.YtmnpjaglgalobaaGreat.K Go.Proofs.YtmnpjaglgalobaaGreatW.C Go.Proofs.YtmnpjaglgalobaaGreatW.D
set_option linter.unusedVariables false
set_option maxRecDepth 100000
def es : List En := [en0, en1, en2, en3, en4, en5, en6, en7, en8, en9, en10, en11, en12, en13, en14, en15, en16, en17, en18, en19, en20, en21]
theorem es_ok : ∀ e ∈ es, coreOK Tryz.prog (tabOf L) Tryz.f97 codeR fuelR e = true := by
  intro e he
  simp only [es, List.mem_cons, List.not_mem_nil, or_false] at he
  rcases he with rfl | rfl | rfl | rfl | rfl | rfl | rfl | rfl | rfl | rfl | rfl | rfl | rfl | rfl | rfl | rfl | rfl | rfl | rfl | rfl | rfl | rfl
  · exact en0_ok
  · exact en1_ok
  · exact en2_ok
  · exact en3_ok
  · exact en4_ok
  · exact en5_ok
  · exact en6_ok
  · exact en7_ok
  · exact en8_ok
  · exact en9_ok
  · exact en10_ok
  · exact en11_ok
  · exact en12_ok
  · exact en13_ok
  · exact en14_ok
  · exact en15_ok
  · exact en16_ok
  · exact en17_ok
  · exact en18_ok
  · exact en19_ok
  · exact en20_ok
  · exact en21_ok
end Go.Proofs.YtmnpjaglgalobaaGreat.Km
