/-
  The contract of plane.Of: the first level whose point it is, told by the six comparisons. No condition.
-/
import Derived.Test.YtennaclkbpngfaaPl
import Derived.LoopN
namespace Go.Proofs.Ytennaclkbpngfaa.Pl
open Go.RowKit

def oq (a b x y : Nat) : Bool := (FloatKind.f64.format.order a x == some .eq) && (FloatKind.f64.format.order b y == some .eq)
def ofL (x y : Nat) : Int × Int :=
  if oq 13830554455654793216 4611686018427387904 x y then (0, 0) else if oq 0 4607182418800017408 x y then (1, 0) else if oq 0 0 x y then (2, 0) else
  if oq 4602678819172646912 0 x y then (3, 0) else if oq 4607182418800017408 0 x y then (4, 0) else if oq 4611686018427387904 13830554455654793216 x y then (5, 0) else (0, 1)

set_option maxHeartbeats 4000000 in
theorem of_any (x y : Nat) (w : World) :
    Calls Try.prog 15 #[.complex .f64 x y] w fun e w' => e = .returned (.tuple #[.int .u8 (ofL x y).1, .int .i64 (ofL x y).2]) ∧ Below w.heap.size w w' := by
  cases h0 : oq 13830554455654793216 4611686018427387904 x y
  case true =>
    have hr : ofL x y = (0, 0) := by simp [ofL, h0]
    rw [hr]
    unfold oq at h0
    go_enter Try.func15, Try.ntmps15
    go_wp2
    refine wp_loop_rounds 7 ?_
    rw [rounds_succ]
    go_wp2
    go_ret2
    exact ⟨rfl, (Below.refl _ _).alloc (Nat.le_refl _) _⟩
  case false =>
  cases h1 : oq 0 4607182418800017408 x y
  case true =>
    have hr : ofL x y = (1, 0) := by simp [ofL, h0, h1]
    rw [hr]
    unfold oq at h0 h1
    go_enter Try.func15, Try.ntmps15
    go_wp2
    refine wp_loop_rounds 7 ?_
    rw [rounds_succ]
    go_wp2
    rw [rounds_succ]
    go_wp2
    go_ret2
    exact ⟨rfl, (Below.refl _ _).alloc (Nat.le_refl _) _⟩
  case false =>
  cases h2 : oq 0 0 x y
  case true =>
    have hr : ofL x y = (2, 0) := by simp [ofL, h0, h1, h2]
    rw [hr]
    unfold oq at h0 h1 h2
    go_enter Try.func15, Try.ntmps15
    go_wp2
    refine wp_loop_rounds 7 ?_
    rw [rounds_succ]
    go_wp2
    rw [rounds_succ]
    go_wp2
    rw [rounds_succ]
    go_wp2
    go_ret2
    exact ⟨rfl, (Below.refl _ _).alloc (Nat.le_refl _) _⟩
  case false =>
  cases h3 : oq 4602678819172646912 0 x y
  case true =>
    have hr : ofL x y = (3, 0) := by simp [ofL, h0, h1, h2, h3]
    rw [hr]
    unfold oq at h0 h1 h2 h3
    go_enter Try.func15, Try.ntmps15
    go_wp2
    refine wp_loop_rounds 7 ?_
    rw [rounds_succ]
    go_wp2
    rw [rounds_succ]
    go_wp2
    rw [rounds_succ]
    go_wp2
    rw [rounds_succ]
    go_wp2
    go_ret2
    exact ⟨rfl, (Below.refl _ _).alloc (Nat.le_refl _) _⟩
  case false =>
  cases h4 : oq 4607182418800017408 0 x y
  case true =>
    have hr : ofL x y = (4, 0) := by simp [ofL, h0, h1, h2, h3, h4]
    rw [hr]
    unfold oq at h0 h1 h2 h3 h4
    go_enter Try.func15, Try.ntmps15
    go_wp2
    refine wp_loop_rounds 7 ?_
    rw [rounds_succ]
    go_wp2
    rw [rounds_succ]
    go_wp2
    rw [rounds_succ]
    go_wp2
    rw [rounds_succ]
    go_wp2
    rw [rounds_succ]
    go_wp2
    go_ret2
    exact ⟨rfl, (Below.refl _ _).alloc (Nat.le_refl _) _⟩
  case false =>
  cases h5 : oq 4611686018427387904 13830554455654793216 x y
  case true =>
    have hr : ofL x y = (5, 0) := by simp [ofL, h0, h1, h2, h3, h4, h5]
    rw [hr]
    unfold oq at h0 h1 h2 h3 h4 h5
    go_enter Try.func15, Try.ntmps15
    go_wp2
    refine wp_loop_rounds 7 ?_
    rw [rounds_succ]
    go_wp2
    rw [rounds_succ]
    go_wp2
    rw [rounds_succ]
    go_wp2
    rw [rounds_succ]
    go_wp2
    rw [rounds_succ]
    go_wp2
    rw [rounds_succ]
    go_wp2
    go_ret2
    exact ⟨rfl, (Below.refl _ _).alloc (Nat.le_refl _) _⟩
  case false =>
  have hr : ofL x y = (0, 1) := by simp [ofL, h0, h1, h2, h3, h4, h5]
  rw [hr]
  unfold oq at h0 h1 h2 h3 h4 h5
  go_enter Try.func15, Try.ntmps15
  go_wp2
  refine wp_loop_rounds 7 ?_
  rw [rounds_succ]
  go_wp2
  rw [rounds_succ]
  go_wp2
  rw [rounds_succ]
  go_wp2
  rw [rounds_succ]
  go_wp2
  rw [rounds_succ]
  go_wp2
  rw [rounds_succ]
  go_wp2
  rw [rounds_succ]
  go_wp2
  go_ret2
  exact ⟨rfl, (Below.refl _ _).alloc (Nat.le_refl _) _⟩

end Go.Proofs.Ytennaclkbpngfaa.Pl
