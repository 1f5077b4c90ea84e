/-
  The walks of plane's statements: begun, PlaneLattice. Conditions: levels are bytes.
-/
import Derived.Test.YtennaclkbpngfaaTab
namespace Go.Proofs.Ytennaclkbpngfaa.Pl
open Go.RowKit

theorem bth {w w1 w2 : World} (h : Below w.heap.size w w1) (k : Below w1.heap.size w1 w2) : Below w.heap.size w w2 :=
  h.trans ⟨k.os, k.tape, k.output, k.size, fun i hi => k.block i (Nat.lt_of_lt_of_le hi h.size)⟩

theorem of_1 (w : World) : Calls Try.prog 15 #[.complex .f64 4607182418800017408 0] w fun e w' => e = .returned (.tuple #[.int .u8 4, .int .i64 0]) ∧ Below w.heap.size w w' := of_any_pt (a := 4) (by decide) (by decide) w
theorem point_4 (w : World) : Calls Try.prog 10 #[.int .u8 4] w fun e w' => e = .returned (.complex .f64 4607182418800017408 0) ∧ Below w.heap.size w w' := point_any 4 (by decide) (by decide) w
theorem flows_i1 (w : World) : Calls Try.prog 11 #[.complex .f64 0 4607182418800017408, .complex .f64 4607182418800017408 0] w fun e w' => e = .returned (.bool true) ∧ w = w' := flows_pt (a := 1) (b := 4) (by decide) (by decide) (by decide) (by decide) w
theorem join_i1 (w : World) : Calls Try.prog 12 #[.complex .f64 0 4607182418800017408, .complex .f64 4607182418800017408 0] w fun e w' => e = .returned (.complex .f64 4607182418800017408 0) ∧ w = w' := join_pt (a := 1) (b := 4) (by decide) (by decide) (by decide) (by decide) w
theorem meet_i1 (w : World) : Calls Try.prog 14 #[.complex .f64 0 4607182418800017408, .complex .f64 4607182418800017408 0] w fun e w' => e = .returned (.complex .f64 0 4607182418800017408) ∧ w = w' := meet_pt (a := 1) (b := 4) (by decide) (by decide) (by decide) (by decide) w

set_option maxHeartbeats 4000000 in
theorem begun_yes (w : World) : Calls Try.prog 9 #[] w fun e w' => e = .returned (.bool true) ∧ Below w.heap.size w w' := by
  have o1 : FloatKind.f64.format.order 4607182418800017408 4607182418800017408 = some .eq := by decide +kernel
  have o2 : FloatKind.f64.format.order 0 0 = some .eq := by decide +kernel
  go_enter Try.func9, Try.ntmps9
  go_wp2_with fail
  refine (of_1 _).mono ?_
  rintro e w1 ⟨rfl, hb1⟩
  go_wp2_with fail
  refine (point_4 _).mono ?_
  rintro e w2 ⟨rfl, hb2⟩
  go_wp2_with fail
  refine (flows_i1 _).mono ?_
  rintro e w3 ⟨rfl, rfl⟩
  go_wp2_with fail
  refine (join_i1 _).mono ?_
  rintro e w3 ⟨rfl, rfl⟩
  go_wp2_with fail
  refine (meet_i1 _).mono ?_
  rintro e w3 ⟨rfl, rfl⟩
  go_wp2
  go_ret
  exact ⟨rfl, bth hb1 hb2⟩

end Go.Proofs.Ytennaclkbpngfaa.Pl
