/-
  The contracts of plane's functions: which complex number each level has, and what flowing, joining and meeting come to at the levels' points. Conditions: levels are bytes.
-/
import Derived.Test.YtennaclkbpngfaaProg
import Derived.WalkKit
import Derived.WalkSpells
import Derived.WalkLawsBesides
import Derived.Below
import Derived.KernelRfl
namespace Go.Proofs.Ytennaclkbpngfaa.Pl
open Go.RowKit

def pRe (l : Int) : Nat := if l = 0 then 13830554455654793216 else if l = 3 then 4602678819172646912 else if l = 4 then 4607182418800017408 else if l = 5 then 4611686018427387904 else 0
def pIm (l : Int) : Nat := if l = 0 then 4611686018427387904 else if l = 1 then 4607182418800017408 else if l = 5 then 13830554455654793216 else 0
def PT (l : Int) : Value := .complex .f64 (pRe l) (pIm l)

theorem pt_high (l : Int) (h : 5 < l) : PT l = .complex .f64 0 0 := by
  unfold PT pRe pIm
  rw [if_neg (by omega), if_neg (by omega), if_neg (by omega), if_neg (by omega), if_neg (by omega), if_neg (by omega), if_neg (by omega)]

set_option maxHeartbeats 1000000 in
theorem point_any (l : Int) (h0 : 0 ≤ l) (h255 : l ≤ 255) (w : World) :
    Calls Try.prog 10 #[.int .u8 l] w fun e w' => e = .returned (PT l) ∧ Below w.heap.size w w' := by
  by_cases h : 5 < l
  · rw [pt_high l h]
    go_enter Try.func10, Try.ntmps10
    go_wp2
    go_ret
    exact ⟨rfl, Below.refl _ _⟩
  · have hl : l = 0 ∨ l = 1 ∨ l = 2 ∨ l = 3 ∨ l = 4 ∨ l = 5 := by omega
    rcases hl with rfl | rfl | rfl | rfl | rfl | rfl
    all_goals
      go_enter Try.func10, Try.ntmps10
      go_wp2
      go_ret
      exact ⟨rfl, (Below.refl _ _).alloc (Nat.le_refl _) _⟩

/-- The comparisons of two floats. -/
def fle (a b : Nat) : Bool := FloatKind.f64.format.order a b == some .lt || FloatKind.f64.format.order a b == some .eq
def fge (a b : Nat) : Bool := FloatKind.f64.format.order a b == some .gt || FloatKind.f64.format.order a b == some .eq

theorem flows_any (a b c d : Nat) (w : World) :
    Calls Try.prog 11 #[.complex .f64 a b, .complex .f64 c d] w fun e w' => e = .returned (.bool (fle a c && fge b d)) ∧ w = w' := by
  cases h : fle a c
  · have h' := h
    unfold fle at h'
    go_enter Try.func11, Try.ntmps11
    go_wp2
    go_ret
    exact ⟨by simp, rfl⟩
  · have h' := h
    unfold fle at h'
    go_enter Try.func11, Try.ntmps11
    go_wp2
    go_ret
    exact ⟨by simp [fge], rfl⟩

end Go.Proofs.Ytennaclkbpngfaa.Pl
