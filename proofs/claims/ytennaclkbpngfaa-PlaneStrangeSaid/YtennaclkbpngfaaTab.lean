/-
  What joining and meeting two complex numbers come to, and the tables at the levels' points. Conditions: the parts compare (they are at the levels' points).
-/
import Derived.Test.YtennaclkbpngfaaOf
namespace Go.Proofs.Ytennaclkbpngfaa.Pl
open Go.RowKit

def fmax (a b : Nat) : Nat := match FloatKind.f64.format.order a b with | some .lt => b | some .gt => a | some .eq => (if (FloatKind.f64.decode a).neg then b else a) | none => 0
def fmin (a b : Nat) : Nat := match FloatKind.f64.format.order a b with | some .lt => a | some .gt => b | some .eq => (if (FloatKind.f64.decode a).neg then a else b) | none => 0

theorem run_max2 {P : Program} (w : World) (a b : Nat) (h : FloatKind.f64.format.order a b ≠ none) : (Builtin.max2 (.float .f64 a) (.float .f64 b)).run P w = .ok (.float .f64 (fmax a b)) w := by
  unfold fmax
  simp only [Builtin.max2]
  cases ho : FloatKind.f64.format.order a b with
  | none => exact absurd ho h
  | some o => cases o <;> simp
theorem run_min2 {P : Program} (w : World) (a b : Nat) (h : FloatKind.f64.format.order a b ≠ none) : (Builtin.min2 (.float .f64 a) (.float .f64 b)).run P w = .ok (.float .f64 (fmin a b)) w := by
  unfold fmin
  simp only [Builtin.min2]
  cases ho : FloatKind.f64.format.order a b with
  | none => exact absurd ho h
  | some o => cases o <;> simp
theorem run_max_ {P : Program} (ts : Array TypeId) (t : TypeId) (a b : Nat) (h : FloatKind.f64.format.order a b ≠ none) (w : World) : (Builtin.max_ ts t #[.float .f64 a, .float .f64 b]).run P w = .ok (.float .f64 (fmax a b)) w := by
  simp [Builtin.max_, run_max2 w a b h]
theorem run_min_ {P : Program} (ts : Array TypeId) (t : TypeId) (a b : Nat) (h : FloatKind.f64.format.order a b ≠ none) (w : World) : (Builtin.min_ ts t #[.float .f64 a, .float .f64 b]).run P w = .ok (.float .f64 (fmin a b)) w := by
  simp [Builtin.min_, run_min2 w a b h]

theorem join_any (a b c d : Nat) (h1 : FloatKind.f64.format.order a c ≠ none) (h2 : FloatKind.f64.format.order b d ≠ none) (w : World) :
    Calls Try.prog 12 #[.complex .f64 a b, .complex .f64 c d] w fun e w' => e = .returned (.complex .f64 (fmax a c) (fmin b d)) ∧ w = w' := by
  have m1 := run_max_ (P := Try.prog) #[31, 31] 31 a c h1
  have m2 := run_min_ (P := Try.prog) #[31, 31] 31 b d h2
  clear h1 h2
  go_enter Try.func12, Try.ntmps12
  go_wp2
  go_ret
  exact ⟨rfl, rfl⟩
theorem meet_any (a b c d : Nat) (h1 : FloatKind.f64.format.order a c ≠ none) (h2 : FloatKind.f64.format.order b d ≠ none) (w : World) :
    Calls Try.prog 14 #[.complex .f64 a b, .complex .f64 c d] w fun e w' => e = .returned (.complex .f64 (fmin a c) (fmax b d)) ∧ w = w' := by
  have m1 := run_min_ (P := Try.prog) #[31, 31] 31 a c h1
  have m2 := run_max_ (P := Try.prog) #[31, 31] 31 b d h2
  clear h1 h2
  go_enter Try.func14, Try.ntmps14
  go_wp2
  go_ret
  exact ⟨rfl, rfl⟩

/-- All there is to know of two levels' points. -/
structure Two (a b : Int) : Prop where
  re : FloatKind.f64.format.order (pRe a) (pRe b) ≠ none
  im : FloatKind.f64.format.order (pIm a) (pIm b) ≠ none
  fl : (fle (pRe a) (pRe b) && fge (pIm a) (pIm b)) = decide (a ≤ b)
  eq : ((FloatKind.f64.format.order (pRe a) (pRe b) == some .eq) && (FloatKind.f64.format.order (pIm a) (pIm b) == some .eq)) = (a == b)
  jr : fmax (pRe a) (pRe b) = pRe (if a < b then b else a)
  ji : fmin (pIm a) (pIm b) = pIm (if a < b then b else a)
  mr : fmin (pRe a) (pRe b) = pRe (if b < a then b else a)
  mi : fmax (pIm a) (pIm b) = pIm (if b < a then b else a)

theorem lev6 {a : Int} (h0 : 0 ≤ a) (h5 : a ≤ 5) : a = 0 ∨ a = 1 ∨ a = 2 ∨ a = 3 ∨ a = 4 ∨ a = 5 := by omega

theorem two {a b : Int} (a0 : 0 ≤ a) (a5 : a ≤ 5) (b0 : 0 ≤ b) (b5 : b ≤ 5) : Two a b := by
  rcases lev6 a0 a5 with rfl | rfl | rfl | rfl | rfl | rfl <;> rcases lev6 b0 b5 with rfl | rfl | rfl | rfl | rfl | rfl <;>
    exact ⟨by decide +kernel, by decide +kernel, by decide +kernel, by decide +kernel, by decide +kernel, by decide +kernel, by decide +kernel, by decide +kernel⟩

theorem of_pt {a : Int} (a0 : 0 ≤ a) (a5 : a ≤ 5) : ofL (pRe a) (pIm a) = (a, 0) := by
  rcases lev6 a0 a5 with rfl | rfl | rfl | rfl | rfl | rfl <;> decide +kernel

theorem flows_pt {a b : Int} (a0 : 0 ≤ a) (a5 : a ≤ 5) (b0 : 0 ≤ b) (b5 : b ≤ 5) (w : World) :
    Calls Try.prog 11 #[PT a, PT b] w fun e w' => e = .returned (.bool (decide (a ≤ b))) ∧ w = w' := by
  rw [← (two a0 a5 b0 b5).fl]
  exact flows_any _ _ _ _ w
theorem join_pt {a b : Int} (a0 : 0 ≤ a) (a5 : a ≤ 5) (b0 : 0 ≤ b) (b5 : b ≤ 5) (w : World) :
    Calls Try.prog 12 #[PT a, PT b] w fun e w' => e = .returned (PT (if a < b then b else a)) ∧ w = w' := by
  have h := two a0 a5 b0 b5
  have := join_any (pRe a) (pIm a) (pRe b) (pIm b) h.re h.im w
  rw [h.jr, h.ji] at this
  exact this
theorem meet_pt {a b : Int} (a0 : 0 ≤ a) (a5 : a ≤ 5) (b0 : 0 ≤ b) (b5 : b ≤ 5) (w : World) :
    Calls Try.prog 14 #[PT a, PT b] w fun e w' => e = .returned (PT (if b < a then b else a)) ∧ w = w' := by
  have h := two a0 a5 b0 b5
  have := meet_any (pRe a) (pIm a) (pRe b) (pIm b) h.re h.im w
  rw [h.mr, h.mi] at this
  exact this
theorem of_any_pt {a : Int} (a0 : 0 ≤ a) (a5 : a ≤ 5) (w : World) :
    Calls Try.prog 15 #[PT a] w fun e w' => e = .returned (.tuple #[.int .u8 a, .int .i64 0]) ∧ Below w.heap.size w w' := by
  have := of_any (pRe a) (pIm a) w
  rw [of_pt a0 a5] at this
  exact this

end Go.Proofs.Ytennaclkbpngfaa.Pl
