/-
  The walk of PlaneLine, and of the reference's Point. Conditions: none.
-/
import Derived.Test.YtennaclkbpngfaaLn
namespace Go.Proofs.Ytennaclkbpngfaa.Pl
open Go.RowKit

set_option maxHeartbeats 1000000 in
theorem ref_any (l : Int) (h0 : 0 ≤ l) (h255 : l ≤ 255) (w : World) :
    Calls Try.prog 13 #[.int .u8 l] w fun e w' => e = .returned (PT l) ∧ w = w' := by
  by_cases h : 5 < l
  · rw [pt_high l h]
    have c0 : (l == 0) = false := by simp; omega
    have c1 : (l == 1) = false := by simp; omega
    have c3 : (l == 3) = false := by simp; omega
    have c4 : (l == 4) = false := by simp; omega
    have c5 : (l == 5) = false := by simp; omega
    go_enter Try.func13, Try.ntmps13
    go_wp2
    go_ret
    exact ⟨rfl, rfl⟩
  · have hl : l = 0 ∨ l = 1 ∨ l = 2 ∨ l = 3 ∨ l = 4 ∨ l = 5 := by omega
    rcases hl with rfl | rfl | rfl | rfl | rfl | rfl
    all_goals
      go_enter Try.func13, Try.ntmps13
      go_wp2
      go_ret
      exact ⟨rfl, rfl⟩

theorem run_maxi {P : Program} (ts : Array TypeId) (t : TypeId) (a b : Int) (w : World) : (Builtin.max_ ts t #[.int .u8 a, .int .u8 b]).run P w = .ok (.int .u8 (mx a b)) w := by
  simp [Builtin.max_, Builtin.max2, mx]
theorem run_mini {P : Program} (ts : Array TypeId) (t : TypeId) (a b : Int) (w : World) : (Builtin.min_ ts t #[.int .u8 a, .int .u8 b]).run P w = .ok (.int .u8 (mn a b)) w := by
  simp [Builtin.min_, Builtin.min2, mn]
theorem beq_refl_pt (a : Int) : (a == a) = true := by simp

set_option maxRecDepth 100000 in
set_option maxHeartbeats 8000000 in
theorem line_walk (w : World) : Calls Try.prog 3 #[] w fun e w' => e = .returned (.bool true) ∧ Below w.heap.size w w' := by
  have o2 : FloatKind.f64.format.order 0 0 = some .eq := by decide +kernel
  have q6 : PT 6 = .complex .f64 0 0 := pt_high 6 (by decide)
  have q255 : PT 255 = .complex .f64 0 0 := pt_high 255 (by decide)
  have Q6 : Aside (PT 6 = .complex .f64 0 0) := q6
  have Q255 : Aside (PT 255 = .complex .f64 0 0) := q255
  clear q6 q255
  go_enter Try.func3, Try.ntmps3
  go_wp2_with fail
  refine (begun_yes _).mono ?_
  rintro e w1 ⟨rfl, hb1⟩
  go_wp2_with fail
  go_loopg [1] 6 (fun k v wr => ∃ a : Int, 0 ≤ a ∧ a ≤ 6 ∧ v = .int .u8 a ∧ Aside ((k : Int) + a = 6) ∧ Below w.heap.size w wr)
  case atStart => exact ⟨0, by omega, by omega, rfl, (show (6 : Int) + 0 = 6 by omega), hb1⟩
  case round =>
    clear hb1
    obtain ⟨a, a0, a6, rfl, ha, hb⟩ := hrel
    obtain ⟨go, rfl⟩ : ∃ g : Nat, g = gk := ⟨_, rfl⟩
    by_cases a5 : a ≤ 5
    · go_wp2_with fail
      go_loopg [2] 6 (fun k v wr => ∃ b : Int, 0 ≤ b ∧ b ≤ 6 ∧ v = .int .u8 b ∧ Aside ((k : Int) + b = 6) ∧ Below w.heap.size w wr)
      case atStart => exact ⟨0, by omega, by omega, rfl, (show (6 : Int) + 0 = 6 by omega), hb⟩
      case round =>
        clear hb
        obtain ⟨b, b0, b6, rfl, hbk, hb⟩ := hrel
        by_cases b5 : b ≤ 5
        · have j := mx_le a0 a5 b0 b5
          have m := mn_le a0 a5 b0 b5
          have e1 := neq_pt j.1 j.2 j.1 j.2
          have e2 := neq_pt m.1 m.2 m.1 m.2
          rw [beq_refl_pt] at e1 e2
          have m1 := run_maxi (P := Try.prog) #[5, 5] 5 a b
          have m2 := run_mini (P := Try.prog) #[5, 5] 5 a b
          go_wp2_with fail
          refine (point_any a a0 (by omega) _).mono ?_
          rintro e w2 ⟨rfl, hb2⟩
          go_wp2_with fail
          refine (point_any b b0 (by omega) _).mono ?_
          rintro e w3 ⟨rfl, hb3⟩
          have hbb := bth (bth hb hb2) hb3
          clear hb hb2 hb3
          have hc : (decide (a ≤ b) != decide (a ≤ b)) = false := by simp
          go_wp2_with fail
          refine (flows_pt a0 a5 b0 b5 _).mono ?_
          rintro e w5 ⟨rfl, rfl⟩
          go_wp2_with fail
          refine (join_mx a0 a5 b0 b5 _).mono ?_
          rintro e w5 ⟨rfl, rfl⟩
          go_wp2_with fail
          refine (ref_any (mx a b) j.1 (by omega) _).mono ?_
          rintro e w5 ⟨rfl, rfl⟩
          go_wp2_with fail
          refine (meet_mn a0 a5 b0 b5 _).mono ?_
          rintro e w5 ⟨rfl, rfl⟩
          go_wp2_with fail
          refine (ref_any (mn a b) m.1 (by omega) _).mono ?_
          rintro e w5 ⟨rfl, rfl⟩
          go_wp2
          go_roundg (gk - 1)
          case measure => have := hbk.out; omega
          case rel => exact ⟨b + 1, by omega, by omega, by first | rfl | (congr 1; omega) | (simp; omega), (show ((_ : Nat) : Int) + (b + 1) = 6 by have := hbk.out; omega), hbb⟩
        · obtain rfl : b = 6 := by omega
          go_wp2_with fail
          refine (point_any a a0 (by omega) _).mono ?_
          rintro e w2 ⟨rfl, hb2⟩
          go_wp2_with fail
          refine (of_any_pt a0 a5 _).mono ?_
          rintro e w3 ⟨rfl, hb3⟩
          have hbb := bth (bth hb hb2) hb3
          clear hb hb2 hb3
          have hne : (a != a) = false := by simp
          go_wp2
          go_roundg (go - 1)
          case measure => have := ha.out; omega
          case rel => exact ⟨a + 1, by omega, by omega, by first | rfl | (congr 1; omega) | (simp; omega), (show ((_ : Nat) : Int) + (a + 1) = 6 by have := ha.out; omega), hbb⟩
    · obtain rfl : a = 6 := by omega
      go_wp2_with fail
      refine (point_any 6 (by omega) (by omega) _).mono ?_
      rintro e w2 ⟨rfl, hb2⟩
      rw [Q6.out]
      go_wp2_with fail
      refine (point_any 255 (by omega) (by omega) _).mono ?_
      rintro e w3 ⟨rfl, hb3⟩
      rw [Q255.out]
      go_wp2
      go_ret
      exact ⟨rfl, bth (bth hb hb2) hb3⟩

end Go.Proofs.Ytennaclkbpngfaa.Pl
