/-
  The walk of PlaneStrange. Conditions: none.
-/
import Derived.Test.YtennaclkbpngfaaSt
namespace Go.Proofs.Ytennaclkbpngfaa.Pl
open Go.RowKit

def bad (k : Nat) : Nat × Nat := match k with
  | 0 => (4607182418800017408, 4607182418800017408)
  | 1 => (4602678819172646912, 4607182418800017408)
  | 2 => (4611686018427387904, 0)
  | 3 => (13830554455654793216, 0)
  | 4 => (9221120237041090561, 0)
  | 5 => (0, 9218868437227405312)
  | _ => (4598175219545276416, 0)
theorem bad_of (k : Nat) (h : k < 7) : ofL (bad k).1 (bad k).2 = (0, 1) := by
  have : k = 0 ∨ k = 1 ∨ k = 2 ∨ k = 3 ∨ k = 4 ∨ k = 5 ∨ k = 6 := by omega
  rcases this with rfl | rfl | rfl | rfl | rfl | rfl | rfl <;> decide +kernel
theorem of_bad (k : Nat) (h : k < 7) (w : World) :
    Calls Try.prog 15 #[.complex .f64 (bad k).1 (bad k).2] w fun e w' => e = .returned (.tuple #[.int .u8 0, .int .i64 1]) ∧ Below w.heap.size w w' := by
  have := of_any (bad k).1 (bad k).2 w
  rw [bad_of k h] at this
  exact this
theorem of_nn (w : World) :
    Calls Try.prog 15 #[.complex .f64 9223372036854775808 9223372036854775808] w fun e w' => e = .returned (.tuple #[.int .u8 2, .int .i64 0]) ∧ Below w.heap.size w w' := by
  have := of_any 9223372036854775808 9223372036854775808 w
  rw [show ofL 9223372036854775808 9223372036854775808 = (2, 0) by decide +kernel] at this
  exact this
theorem of_n1 (w : World) :
    Calls Try.prog 15 #[.complex .f64 9223372036854775808 4607182418800017408] w fun e w' => e = .returned (.tuple #[.int .u8 1, .int .i64 0]) ∧ Below w.heap.size w w' := by
  have := of_any 9223372036854775808 4607182418800017408 w
  rw [show ofL 9223372036854775808 4607182418800017408 = (1, 0) by decide +kernel] at this
  exact this

set_option maxRecDepth 100000 in
set_option maxHeartbeats 8000000 in
theorem strange_walk (w : World) : Calls Try.prog 5 #[] w fun e w' => e = .returned (.bool true) ∧ Below w.heap.size w w' := by
  go_enter Try.func5, Try.ntmps5
  go_wp2_with fail
  refine (begun_yes _).mono ?_
  rintro e w1 ⟨rfl, hb1⟩
  go_wp2_with fail
  refine (nan_any _).mono ?_
  rintro e w2 ⟨rfl, rfl⟩
  go_wp2_with fail
  refine (inf_any _).mono ?_
  rintro e w2 ⟨rfl, rfl⟩
  go_wp2_with fail
  generalize hB : w1.heap.size = B
  have hw1 : w.heap.size ≤ B := hB ▸ hb1.size
  go_loopg [2] 7 (fun k v wr => ∃ i : Nat, i ≤ 7 ∧ v = .int .i64 (i : Int) ∧ Aside (k + i = 7) ∧ Below w.heap.size w wr ∧ B < wr.heap.size ∧ Aside (∀ j, j < 7 → wr.cell? ⟨B, j, none⟩ = some (.complex .f64 (bad j).1 (bad j).2)))
  case atStart =>
    subst hB
    refine ⟨0, by omega, rfl, (show 7 + 0 = 7 by omega), hb1.alloc hb1.size _, (by show w1.heap.size < (w1.heap.push _).size; rw [Array.size_push]; omega), ?_⟩
    intro j hj
    rw [World.cell?_alloc_new]
    have : j = 0 ∨ j = 1 ∨ j = 2 ∨ j = 3 ∨ j = 4 ∨ j = 5 ∨ j = 6 := by omega
    rcases this with rfl | rfl | rfl | rfl | rfl | rfl | rfl <;> rfl
  case round =>
    obtain ⟨i, i7, rfl, hk, hb, hB', hc⟩ := hrel
    by_cases h : i < 7
    · have hci := hc.out i h
      have hz : (i : Int) < 7 := by omega
      go_wp2_with fail
      refine (of_bad i h _).mono ?_
      rintro e w2 ⟨rfl, hb2⟩
      go_wp2
      go_roundg (gk - 1)
      case measure => have := hk.out; omega
      case rel =>
        refine ⟨i + 1, by omega, by first | rfl | (congr 1; omega) | (simp; omega), (show _ + (i + 1) = 7 by have := hk.out; omega), bth hb hb2, by have := hb2.size; omega, ?_⟩
        intro j hj
        rw [hb2.cell (p := ⟨B, j, none⟩) hB']
        exact hc.out j hj
    · obtain rfl : i = 7 := by omega
      go_wp2_with fail
      refine (neg_any _).mono ?_
      rintro e w2 ⟨rfl, rfl⟩
      go_wp2_with fail
      refine (neg_any _).mono ?_
      rintro e w2 ⟨rfl, rfl⟩
      go_wp2_with fail
      refine (of_nn _).mono ?_
      rintro e w2 ⟨rfl, hb2⟩
      go_wp2_with fail
      refine (neg_any _).mono ?_
      rintro e w2 ⟨rfl, rfl⟩
      go_wp2_with fail
      refine (of_n1 _).mono ?_
      rintro e w3 ⟨rfl, hb3⟩
      go_wp2
      go_ret
      exact ⟨rfl, bth (bth hb hb2) hb3⟩

end Go.Proofs.Ytennaclkbpngfaa.Pl
