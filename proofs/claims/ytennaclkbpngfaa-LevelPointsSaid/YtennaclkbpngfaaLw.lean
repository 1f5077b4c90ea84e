/-
  The walks of LevelAll, LevelPoints, LevelRises. Conditions: levels are bytes.
-/
import Derived.Test.YtennaclkbpngfaaLe
namespace Go.Proofs.Ytennaclkbpngfaa.Pl
open Go.RowKit

theorem mx_mx (a b : Int) : (mx a b == mx a b) = true := by simp
theorem mn_mn (a b : Int) : (mn a b == mn a b) = true := by simp
set_option maxHeartbeats 4000000 in
theorem levelall_walk (a b : Int) (w : World) (wa : (Lit.int .u8 a).wf = true) (wb : (Lit.int .u8 b).wf = true) : Calls Try.prog 6 #[.int .u8 a, .int .u8 b] w fun e w' => e = .returned (.bool true) ∧ Below w.heap.size w w' := by
  obtain ⟨a0, a255⟩ := bounds_u8 wa
  obtain ⟨b0, b255⟩ := bounds_u8 wb
  clear wa wb
  have hne : ∀ x : Bool, (x != x) = false := by simp
  by_cases a5 : 5 < a
  · have c1 : (decide (a ≤ 4) != decide (a ≤ 4)) = false := by simp
    go_enter Try.func6, Try.ntmps6
    go_wp2_with fail
    refine (lbegun _).mono ?_
    rintro e w1 ⟨rfl, hb1⟩
    go_wp2_with fail
    refine (may_any a _).mono ?_
    rintro e w2 ⟨rfl, rfl⟩
    go_wp2
    go_ret
    exact ⟨rfl, hb1⟩
  · by_cases b5 : 5 < b
    · have c1 : (decide (a ≤ 4) != decide (a ≤ 4)) = false := by simp
      go_enter Try.func6, Try.ntmps6
      go_wp2_with fail
      refine (lbegun _).mono ?_
      rintro e w1 ⟨rfl, hb1⟩
      go_wp2_with fail
      refine (may_any a _).mono ?_
      rintro e w2 ⟨rfl, rfl⟩
      go_wp2
      go_ret
      exact ⟨rfl, hb1⟩
    · have a5' : a ≤ 5 := by omega
      have b5' : b ≤ 5 := by omega
      have c1 : (decide (a ≤ 4) != decide (a ≤ 4)) = false := by simp
      have c2 : (decide (a ≤ b) == decide (a ≤ b)) = true := by simp
      have c3 := mx_mx a b
      have c4 := mn_mn a b
      have m1 := run_maxi (P := Try.prog) #[5, 5] 5 a b
      have m2 := run_mini (P := Try.prog) #[5, 5] 5 a b
      by_cases az : a = 0
      · subst az
        go_enter Try.func6, Try.ntmps6
        go_wp2_with fail
        refine (lbegun _).mono ?_
        rintro e w1 ⟨rfl, hb1⟩
        go_wp2_with fail
        refine (may_any 0 _).mono ?_
        rintro e w2 ⟨rfl, rfl⟩
        go_wp2_with fail
        refine (lflows a0 a5' b0 b5' _).mono ?_
        rintro e w3 ⟨rfl, hb3⟩
        go_wp2_with fail
        refine (lmax a0 a5' b0 b5' _).mono ?_
        rintro e w4 ⟨rfl, hb4⟩
        go_wp2_with fail
        refine (lmin a0 a5' b0 b5' _).mono ?_
        rintro e w5 ⟨rfl, hb5⟩
        go_wp2_with fail
        refine (rise_any 0 _).mono ?_
        rintro e w6 ⟨rfl, rfl⟩
        go_wp2
        go_ret
        exact ⟨rfl, bth (bth (bth hb1 hb3) hb4) hb5⟩
      · have z1 : (a == 0) = false := by simp [az]
        have z2 : (if a = 0 then 5 else a) = a := if_neg az
        have z3 : (a == a) = true := by simp
        go_enter Try.func6, Try.ntmps6
        go_wp2_with fail
        refine (lbegun _).mono ?_
        rintro e w1 ⟨rfl, hb1⟩
        go_wp2_with fail
        refine (may_any a _).mono ?_
        rintro e w2 ⟨rfl, rfl⟩
        go_wp2_with fail
        refine (lflows a0 a5' b0 b5' _).mono ?_
        rintro e w3 ⟨rfl, hb3⟩
        go_wp2_with fail
        refine (lmax a0 a5' b0 b5' _).mono ?_
        rintro e w4 ⟨rfl, hb4⟩
        go_wp2_with fail
        refine (lmin a0 a5' b0 b5' _).mono ?_
        rintro e w5 ⟨rfl, hb5⟩
        go_wp2_with fail
        refine (rise_any a _).mono ?_
        rw [z2]
        rintro e w6 ⟨rfl, rfl⟩
        go_wp2
        go_ret
        exact ⟨rfl, bth (bth (bth hb1 hb3) hb4) hb5⟩

set_option maxRecDepth 100000 in
set_option maxHeartbeats 8000000 in
theorem levelpoints_walk (w : World) : Calls Try.prog 7 #[] w fun e w' => e = .returned (.bool true) ∧ Below w.heap.size w w' := by
  go_enter Try.func7, Try.ntmps7
  go_wp2_with fail
  refine (lbegun _).mono ?_
  rintro e w1 ⟨rfl, hb1⟩
  go_wp2_with fail
  go_loopg [1] 6 (fun k v wr => ∃ a : Int, 0 ≤ a ∧ a ≤ 6 ∧ v = .int .u8 a ∧ Aside ((k : Int) + a = 6) ∧ Below w.heap.size w wr)
  case atStart => exact ⟨0, by omega, by omega, rfl, (show (6 : Int) + 0 = 6 by omega), hb1⟩
  case round =>
    clear hb1
    obtain ⟨a, a0, a6, rfl, ha, hb⟩ := hrel
    obtain ⟨go, rfl⟩ : ∃ g : Nat, g = gk := ⟨_, rfl⟩
    by_cases a5 : a ≤ 5
    · go_wp2_with fail
      go_loopg [2] 6 (fun k v wr => ∃ b : Int, 0 ≤ b ∧ b ≤ 6 ∧ v = .int .u8 b ∧ Aside ((k : Int) + b = 6) ∧ Below w.heap.size w wr)
      case atStart => exact ⟨0, by omega, by omega, rfl, (show (6 : Int) + 0 = 6 by omega), hb⟩
      case round =>
        clear hb
        obtain ⟨b, b0, b6, rfl, hbk, hb⟩ := hrel
        by_cases b5 : b ≤ 5
        · have j := mx_le a0 a5 b0 b5
          have e1 := neq_pt j.1 j.2 j.1 j.2
          rw [beq_refl_pt] at e1
          have hc : (decide (a ≤ b) != decide (a ≤ b)) = false := by simp
          go_wp2_with fail
          refine (lflows a0 a5 b0 b5 _).mono ?_
          rintro e w2 ⟨rfl, hb2⟩
          go_wp2_with fail
          refine (point_any a a0 (by omega) _).mono ?_
          rintro e w3 ⟨rfl, hb3⟩
          go_wp2_with fail
          refine (point_any b b0 (by omega) _).mono ?_
          rintro e w4 ⟨rfl, hb4⟩
          have hbb := bth (bth (bth hb hb2) hb3) hb4
          clear hb hb2 hb3 hb4
          go_wp2_with fail
          refine (flows_pt a0 a5 b0 b5 _).mono ?_
          rintro e w5 ⟨rfl, rfl⟩
          go_wp2_with fail
          refine (lmax a0 a5 b0 b5 _).mono ?_
          rintro e w5 ⟨rfl, hb5⟩
          go_wp2_with fail
          refine (point_any (mx a b) j.1 (by omega) _).mono ?_
          rintro e w6 ⟨rfl, hb6⟩
          have hbc := bth (bth hbb hb5) hb6
          clear hbb hb5 hb6
          go_wp2_with fail
          refine (point_any a a0 (by omega) _).mono ?_
          rintro e w3 ⟨rfl, hb3⟩
          go_wp2_with fail
          refine (point_any b b0 (by omega) _).mono ?_
          rintro e w4 ⟨rfl, hb4⟩
          have hbd := bth (bth hbc hb3) hb4
          clear hbc hb3 hb4
          go_wp2_with fail
          refine (join_mx a0 a5 b0 b5 _).mono ?_
          rintro e w5 ⟨rfl, rfl⟩
          go_wp2
          go_roundg (gk - 1)
          case measure => have := hbk.out; omega
          case rel => exact ⟨b + 1, by omega, by omega, by first | rfl | (congr 1; omega) | (simp; omega), (show ((_ : Nat) : Int) + (b + 1) = 6 by have := hbk.out; omega), hbd⟩
        · obtain rfl : b = 6 := by omega
          go_wp2
          go_roundg (go - 1)
          case measure => have := ha.out; omega
          case rel => exact ⟨a + 1, by omega, by omega, by first | rfl | (congr 1; omega) | (simp; omega), (show ((_ : Nat) : Int) + (a + 1) = 6 by have := ha.out; omega), hb⟩
    · obtain rfl : a = 6 := by omega
      go_wp2
      go_ret
      exact ⟨rfl, hb⟩

set_option maxRecDepth 100000 in
set_option maxHeartbeats 8000000 in
theorem levelrises_walk (w : World) : Calls Try.prog 8 #[] w fun e w' => e = .returned (.bool true) ∧ Below w.heap.size w w' := by
  go_enter Try.func8, Try.ntmps8
  go_wp2_with fail
  refine (lbegun _).mono ?_
  rintro e w1 ⟨rfl, hb1⟩
  go_wp2_with fail
  go_loopg [1] 6 (fun k v wr => ∃ a : Int, 0 ≤ a ∧ a ≤ 6 ∧ v = .int .u8 a ∧ Aside ((k : Int) + a = 6) ∧ Below w.heap.size w wr)
  case atStart => exact ⟨0, by omega, by omega, rfl, (show (6 : Int) + 0 = 6 by omega), hb1⟩
  case round =>
    clear hb1
    obtain ⟨a, a0, a6, rfl, ha, hb⟩ := hrel
    by_cases a5 : a ≤ 5
    · rcases lev6 a0 a5 with rfl | rfl | rfl | rfl | rfl | rfl
      case inr.inr.inr.inr.inr =>
        go_wp2_with fail
        refine (rise_any 5 _).mono ?_
        rintro e w2 ⟨rfl, rfl⟩
        go_wp2_with fail
        refine (lflows (a := 5) (b := 5) (by decide) (by decide) (by decide) (by decide) _).mono ?_
        rintro e w2 ⟨rfl, hb2⟩
        go_wp2_with fail
        refine (rise_any 5 _).mono ?_
        rintro e w3 ⟨rfl, rfl⟩
        go_wp2
        go_roundg (gk - 1)
        case measure => have := ha.out; omega
        case rel => exact ⟨6, by omega, by omega, rfl, (show ((_ : Nat) : Int) + 6 = 6 by have := ha.out; omega), bth hb hb2⟩
      case inl =>
        go_wp2_with fail
        refine (rise_any 0 _).mono ?_
        rintro e w2 ⟨rfl, rfl⟩
        go_wp2_with fail
        refine (lflows (a := 0) (b := 5) (by decide) (by decide) (by decide) (by decide) _).mono ?_
        rintro e w2 ⟨rfl, hb2⟩
        go_wp2_with fail
        refine (rise_any 5 _).mono ?_
        rintro e w3 ⟨rfl, rfl⟩
        go_wp2_with fail
        refine (rise_any 0 _).mono ?_
        rintro e w3 ⟨rfl, rfl⟩
        go_wp2_with fail
        refine (lflows (a := 0) (b := 5) (by decide) (by decide) (by decide) (by decide) _).mono ?_
        rintro e w4 ⟨rfl, hb4⟩
        go_wp2
        go_roundg (gk - 1)
        case measure => have := ha.out; omega
        case rel => exact ⟨1, by omega, by omega, rfl, (show ((_ : Nat) : Int) + 1 = 6 by have := ha.out; omega), bth (bth hb hb2) hb4⟩
      case inr.inl =>
        go_wp2_with fail
        refine (rise_any 1 _).mono ?_
        rintro e w2 ⟨rfl, rfl⟩
        go_wp2_with fail
        refine (lflows (a := 1) (b := 1) (by decide) (by decide) (by decide) (by decide) _).mono ?_
        rintro e w2 ⟨rfl, hb2⟩
        go_wp2_with fail
        refine (rise_any 1 _).mono ?_
        rintro e w3 ⟨rfl, rfl⟩
        go_wp2_with fail
        refine (rise_any 0 _).mono ?_
        rintro e w3 ⟨rfl, rfl⟩
        go_wp2_with fail
        refine (lflows (a := 1) (b := 5) (by decide) (by decide) (by decide) (by decide) _).mono ?_
        rintro e w4 ⟨rfl, hb4⟩
        go_wp2
        go_roundg (gk - 1)
        case measure => have := ha.out; omega
        case rel => exact ⟨2, by omega, by omega, rfl, (show ((_ : Nat) : Int) + 2 = 6 by have := ha.out; omega), bth (bth hb hb2) hb4⟩
      case inr.inr.inl =>
        go_wp2_with fail
        refine (rise_any 2 _).mono ?_
        rintro e w2 ⟨rfl, rfl⟩
        go_wp2_with fail
        refine (lflows (a := 2) (b := 2) (by decide) (by decide) (by decide) (by decide) _).mono ?_
        rintro e w2 ⟨rfl, hb2⟩
        go_wp2_with fail
        refine (rise_any 2 _).mono ?_
        rintro e w3 ⟨rfl, rfl⟩
        go_wp2_with fail
        refine (rise_any 0 _).mono ?_
        rintro e w3 ⟨rfl, rfl⟩
        go_wp2_with fail
        refine (lflows (a := 2) (b := 5) (by decide) (by decide) (by decide) (by decide) _).mono ?_
        rintro e w4 ⟨rfl, hb4⟩
        go_wp2
        go_roundg (gk - 1)
        case measure => have := ha.out; omega
        case rel => exact ⟨3, by omega, by omega, rfl, (show ((_ : Nat) : Int) + 3 = 6 by have := ha.out; omega), bth (bth hb hb2) hb4⟩
      case inr.inr.inr.inl =>
        go_wp2_with fail
        refine (rise_any 3 _).mono ?_
        rintro e w2 ⟨rfl, rfl⟩
        go_wp2_with fail
        refine (lflows (a := 3) (b := 3) (by decide) (by decide) (by decide) (by decide) _).mono ?_
        rintro e w2 ⟨rfl, hb2⟩
        go_wp2_with fail
        refine (rise_any 3 _).mono ?_
        rintro e w3 ⟨rfl, rfl⟩
        go_wp2_with fail
        refine (rise_any 0 _).mono ?_
        rintro e w3 ⟨rfl, rfl⟩
        go_wp2_with fail
        refine (lflows (a := 3) (b := 5) (by decide) (by decide) (by decide) (by decide) _).mono ?_
        rintro e w4 ⟨rfl, hb4⟩
        go_wp2
        go_roundg (gk - 1)
        case measure => have := ha.out; omega
        case rel => exact ⟨4, by omega, by omega, rfl, (show ((_ : Nat) : Int) + 4 = 6 by have := ha.out; omega), bth (bth hb hb2) hb4⟩
      case inr.inr.inr.inr.inl =>
        go_wp2_with fail
        refine (rise_any 4 _).mono ?_
        rintro e w2 ⟨rfl, rfl⟩
        go_wp2_with fail
        refine (lflows (a := 4) (b := 4) (by decide) (by decide) (by decide) (by decide) _).mono ?_
        rintro e w2 ⟨rfl, hb2⟩
        go_wp2_with fail
        refine (rise_any 4 _).mono ?_
        rintro e w3 ⟨rfl, rfl⟩
        go_wp2_with fail
        refine (rise_any 0 _).mono ?_
        rintro e w3 ⟨rfl, rfl⟩
        go_wp2_with fail
        refine (lflows (a := 4) (b := 5) (by decide) (by decide) (by decide) (by decide) _).mono ?_
        rintro e w4 ⟨rfl, hb4⟩
        go_wp2
        go_roundg (gk - 1)
        case measure => have := ha.out; omega
        case rel => exact ⟨5, by omega, by omega, rfl, (show ((_ : Nat) : Int) + 5 = 6 by have := ha.out; omega), bth (bth hb hb2) hb4⟩
    · obtain rfl : a = 6 := by omega
      go_wp2_with fail
      refine (may_any 200 _).mono ?_
      rintro e w2 ⟨rfl, rfl⟩
      go_wp2_with fail
      refine (may_any 4 _).mono ?_
      rintro e w2 ⟨rfl, rfl⟩
      go_wp2_with fail
      refine (may_any 5 _).mono ?_
      rintro e w2 ⟨rfl, rfl⟩
      go_wp2
      go_ret
      exact ⟨rfl, hb⟩

end Go.Proofs.Ytennaclkbpngfaa.Pl
