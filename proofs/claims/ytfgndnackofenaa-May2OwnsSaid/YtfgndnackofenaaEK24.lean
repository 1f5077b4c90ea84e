/-
  The kind of a label of sets: three slices. No condition. (Printed by the turned print.)
-/
import Derived.Test.YtfgndnackofenaaWWords
namespace Go.Proofs.Ytfgndnackofenaa.EK
open Go Go.RowKit Go.Proofs.YtfgndnackofenaaW.PrintWords
structure S24 where
  f0 : (List Int)
  f1 : (List Int)
  f2 : (List Int)
def z24 : S24 := ⟨([] : List Int), ([] : List Int), ([] : List Int)⟩
def k24 : Kd S24 := Kd.iso (Kd.pair (Kd.slice 33 (Kd.int .u16)) (Kd.pair (Kd.slice 33 (Kd.int .u16)) (Kd.slice 33 (Kd.int .u16)))) (fun x : S24 => (x.f0, x.f1, x.f2))
theorem k24_open {w : World} {x : S24} {cs : List Value} (h : k24.K w x cs) : ∃ A0 c0 A1 c1 A2 c2, cs = [.slice A0 x.f0.length c0, .slice A1 x.f1.length c1, .slice A2 x.f2.length c2] ∧ x.f0.length ≤ c0 ∧ (Kd.int .u16).C w A0 x.f0.length x.f0 ∧ x.f1.length ≤ c1 ∧ (Kd.int .u16).C w A1 x.f1.length x.f1 ∧ x.f2.length ≤ c2 ∧ (Kd.int .u16).C w A2 x.f2.length x.f2 := by
  obtain ⟨_, _, rfl, ⟨A0, c0, rfl, l0, g0⟩, ⟨_, _, rfl, ⟨A1, c1, rfl, l1, g1⟩, ⟨A2, c2, rfl, l2, g2⟩⟩⟩ := h
  exact ⟨A0, c0, A1, c1, A2, c2, rfl, l0, g0, l1, g1, l2, g2⟩
end Go.Proofs.Ytfgndnackofenaa.EK
