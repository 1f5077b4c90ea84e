/-
  The functions of the package level, as contracts. Conditions: levels are bytes; Max and Min at levels 0 to 5.
-/
import Derived.Test.YtennaclkbpngfaaLi
namespace Go.Proofs.Ytennaclkbpngfaa.Pl
open Go.RowKit

theorem may_any (a : Int) (w : World) : Calls Try.prog 20 #[.int .u8 a] w fun e w' => e = .returned (.bool (decide (a ≤ 4))) ∧ w = w' := by
  go_enter Try.func20, Try.ntmps20
  go_wp2
  go_ret
  exact ⟨rfl, rfl⟩

theorem rise_any (a : Int) (w : World) : Calls Try.prog 24 #[.int .u8 a] w fun e w' => e = .returned (.int .u8 (if a = 0 then 5 else a)) ∧ w = w' := by
  by_cases h : a = 0
  · subst h
    go_enter Try.func24, Try.ntmps24
    go_wp2
    go_ret
    exact ⟨rfl, rfl⟩
  · have c : (a == 0) = false := by simp [h]
    rw [if_neg h]
    go_enter Try.func24, Try.ntmps24
    go_wp2
    go_ret
    exact ⟨rfl, rfl⟩

theorem lof_pt {a : Int} (a0 : 0 ≤ a) (a5 : a ≤ 5) (w : World) : Calls Try.prog 28 #[PT a] w fun e w' => e = .returned (.int .u8 a) ∧ Below w.heap.size w w' := by
  go_enter Try.func28, Try.ntmps28
  go_wp2_with fail
  refine (of_any_pt a0 a5 _).mono ?_
  rintro e w1 ⟨rfl, hb⟩
  go_wp2
  go_ret
  exact ⟨rfl, hb⟩

theorem lmax {a b : Int} (a0 : 0 ≤ a) (a5 : a ≤ 5) (b0 : 0 ≤ b) (b5 : b ≤ 5) (w : World) :
    Calls Try.prog 22 #[.int .u8 a, .int .u8 b] w fun e w' => e = .returned (.int .u8 (mx a b)) ∧ Below w.heap.size w w' := by
  have j := mx_le a0 a5 b0 b5
  go_enter Try.func22, Try.ntmps22
  go_wp2_with fail
  refine (point_any a a0 (by omega) _).mono ?_
  rintro e w2 ⟨rfl, hb2⟩
  go_wp2_with fail
  refine (point_any b b0 (by omega) _).mono ?_
  rintro e w3 ⟨rfl, hb3⟩
  go_wp2_with fail
  refine (join_mx a0 a5 b0 b5 _).mono ?_
  rintro e w5 ⟨rfl, rfl⟩
  go_wp2_with fail
  refine (lof_pt j.1 j.2 _).mono ?_
  rintro e w5 ⟨rfl, hb5⟩
  go_wp2
  go_ret
  exact ⟨rfl, bth (bth hb2 hb3) hb5⟩

theorem lmin {a b : Int} (a0 : 0 ≤ a) (a5 : a ≤ 5) (b0 : 0 ≤ b) (b5 : b ≤ 5) (w : World) :
    Calls Try.prog 23 #[.int .u8 a, .int .u8 b] w fun e w' => e = .returned (.int .u8 (mn a b)) ∧ Below w.heap.size w w' := by
  have j := mn_le a0 a5 b0 b5
  go_enter Try.func23, Try.ntmps23
  go_wp2_with fail
  refine (point_any a a0 (by omega) _).mono ?_
  rintro e w2 ⟨rfl, hb2⟩
  go_wp2_with fail
  refine (point_any b b0 (by omega) _).mono ?_
  rintro e w3 ⟨rfl, hb3⟩
  go_wp2_with fail
  refine (meet_mn a0 a5 b0 b5 _).mono ?_
  rintro e w5 ⟨rfl, rfl⟩
  go_wp2_with fail
  refine (lof_pt j.1 j.2 _).mono ?_
  rintro e w5 ⟨rfl, hb5⟩
  go_wp2
  go_ret
  exact ⟨rfl, bth (bth hb2 hb3) hb5⟩

theorem lflows {a b : Int} (a0 : 0 ≤ a) (a5 : a ≤ 5) (b0 : 0 ≤ b) (b5 : b ≤ 5) (w : World) :
    Calls Try.prog 21 #[.int .u8 a, .int .u8 b] w fun e w' => e = .returned (.bool (decide (a ≤ b))) ∧ Below w.heap.size w w' := by
  have c1 : decide (5 < a) = false := by simp; omega
  have c2 : decide (5 < b) = false := by simp; omega
  go_enter Try.func21, Try.ntmps21
  go_wp2_with fail
  refine (point_any a a0 (by omega) _).mono ?_
  rintro e w2 ⟨rfl, hb2⟩
  go_wp2_with fail
  refine (point_any b b0 (by omega) _).mono ?_
  rintro e w3 ⟨rfl, hb3⟩
  go_wp2_with fail
  refine (flows_pt a0 a5 b0 b5 _).mono ?_
  rintro e w5 ⟨rfl, rfl⟩
  go_wp2
  go_ret
  exact ⟨rfl, bth hb2 hb3⟩

theorem lbegun (w : World) : Calls Try.prog 19 #[] w fun e w' => e = .returned (.bool true) ∧ Below w.heap.size w w' := by
  go_enter Try.func19, Try.ntmps19
  go_wp2_with fail
  refine (may_any 0 _).mono ?_
  rintro e w1 ⟨rfl, rfl⟩
  go_wp2_with fail
  refine (may_any 5 _).mono ?_
  rintro e w1 ⟨rfl, rfl⟩
  go_wp2_with fail
  refine (lflows (a := 1) (b := 4) (by decide) (by decide) (by decide) (by decide) _).mono ?_
  rintro e w1 ⟨rfl, hb1⟩
  go_wp2_with fail
  refine (lflows (a := 4) (b := 1) (by decide) (by decide) (by decide) (by decide) _).mono ?_
  rintro e w2 ⟨rfl, hb2⟩
  go_wp2_with fail
  refine (lmax (a := 1) (b := 2) (by decide) (by decide) (by decide) (by decide) _).mono ?_
  rintro e w3 ⟨rfl, hb3⟩
  go_wp2_with fail
  refine (lmin (a := 1) (b := 2) (by decide) (by decide) (by decide) (by decide) _).mono ?_
  rintro e w4 ⟨rfl, hb4⟩
  go_wp2_with fail
  refine (rise_any 0 _).mono ?_
  rintro e w5 ⟨rfl, rfl⟩
  go_wp2_with fail
  refine (rise_any 3 _).mono ?_
  rintro e w5 ⟨rfl, rfl⟩
  go_wp2
  go_ret
  exact ⟨rfl, bth (bth (bth hb1 hb2) hb3) hb4⟩

end Go.Proofs.Ytennaclkbpngfaa.Pl
