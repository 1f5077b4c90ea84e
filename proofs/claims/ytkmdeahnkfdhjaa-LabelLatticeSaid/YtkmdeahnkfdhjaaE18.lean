/-
  Floats and complex numbers, and the levels' points. Laws over any program; no condition.
-/
import Derived.Test.YtkmdeahnkfdhjaaE15
namespace Go.Proofs.YtkmdeahnkfdhjaaW.E
open Go Go.RowKit
set_option linter.unusedVariables false
set_option linter.unusedSimpArgs false

def fle (a b : Nat) : Bool := FloatKind.f64.format.order a b == some .lt || FloatKind.f64.format.order a b == some .eq
def fge (a b : Nat) : Bool := FloatKind.f64.format.order a b == some .gt || FloatKind.f64.format.order a b == some .eq
def feq (a b : Nat) : Bool := FloatKind.f64.format.order a b == some .eq
def fmax (a b : Nat) : Nat := match FloatKind.f64.format.order a b with | some .lt => b | some .gt => a | some .eq => (if (FloatKind.f64.decode a).neg then b else a) | none => 0
def fmin (a b : Nat) : Nat := match FloatKind.f64.format.order a b with | some .lt => a | some .gt => b | some .eq => (if (FloatKind.f64.decode a).neg then a else b) | none => 0
section
variable {P : Program}
theorem abin_fle (t : TypeId) (x y : Operand) (a b : Nat) : abin P .leq t x y (.float .f64 a) (.float .f64 b) = some (.bool (fle a b)) := rfl
theorem abin_fge (t : TypeId) (x y : Operand) (a b : Nat) : abin P .geq t x y (.float .f64 a) (.float .f64 b) = some (.bool (fge a b)) := rfl
theorem abin_feq (t : TypeId) (x y : Operand) (a b : Nat) : abin P .eql t x y (.float .f64 a) (.float .f64 b) = some (.bool (feq a b)) := rfl
theorem ab_real (ts : Array TypeId) (t : TypeId) (cs : Array Bool) (a b : Nat) : abuiltin P .real ts t cs #[.complex .f64 a b] = some (.float .f64 a) := rfl
theorem ab_imag (ts : Array TypeId) (t : TypeId) (cs : Array Bool) (a b : Nat) : abuiltin P .imag ts t cs #[.complex .f64 a b] = some (.float .f64 b) := rfl
theorem ab_max (ts : Array TypeId) (t : TypeId) (cs : Array Bool) (a b : Nat) (h : FloatKind.f64.format.order a b ≠ none) : abuiltin P .max ts t cs #[.float .f64 a, .float .f64 b] = some (.float .f64 (fmax a b)) := by
  have e : pureRun P (Builtin.max2 (.float .f64 a) (.float .f64 b)) = some (.float .f64 (fmax a b)) := by
    unfold fmax
    simp only [Builtin.max2]
    cases ho : FloatKind.f64.format.order a b with
    | none => exact absurd ho h
    | some o => cases o <;> simp [pureRun_pure]
  unfold abuiltin
  have e0 : builtin .max ts t cs #[.float .f64 a, .float .f64 b] = (Next.value <$> Builtin.max2 (.float .f64 a) (.float .f64 b)) := by simp [builtin, Builtin.max_]
  have e2 : pureRun P (builtin .max ts t cs #[.float .f64 a, .float .f64 b]) = some (.value (.float .f64 (fmax a b))) := by
    rw [e0, map_eq_pure_bind, pureRun_bind, e]; rfl
  rw [e2]
theorem ab_min (ts : Array TypeId) (t : TypeId) (cs : Array Bool) (a b : Nat) (h : FloatKind.f64.format.order a b ≠ none) : abuiltin P .min ts t cs #[.float .f64 a, .float .f64 b] = some (.float .f64 (fmin a b)) := by
  have e : pureRun P (Builtin.min2 (.float .f64 a) (.float .f64 b)) = some (.float .f64 (fmin a b)) := by
    unfold fmin
    simp only [Builtin.min2]
    cases ho : FloatKind.f64.format.order a b with
    | none => exact absurd ho h
    | some o => cases o <;> simp [pureRun_pure]
  unfold abuiltin
  have e0 : builtin .min ts t cs #[.float .f64 a, .float .f64 b] = (Next.value <$> Builtin.min2 (.float .f64 a) (.float .f64 b)) := by simp [builtin, Builtin.min_]
  have e2 : pureRun P (builtin .min ts t cs #[.float .f64 a, .float .f64 b]) = some (.value (.float .f64 (fmin a b))) := by
    rw [e0, map_eq_pure_bind, pureRun_bind, e]; rfl
  rw [e2]
theorem ab_complex (ts : Array TypeId) (t : TypeId) (cs : Array Bool) (a b : Nat) : abuiltin P .complex ts t cs #[.float .f64 a, .float .f64 b] = some (.complex .f64 a b) := rfl
theorem mapM_1 {α β : Type} (f : α → Option β) (x : α) : [x].mapM f = (f x).bind fun a => some [a] := by
  simp [List.mapM_cons]
theorem mapM_2 {α β : Type} (f : α → Option β) (x y : α) : [x, y].mapM f = (f x).bind fun a => (f y).bind fun b => some [a, b] := by
  simp [List.mapM_cons]
  cases f x with
  | none => rfl
  | some a => cases f y <;> rfl
end
def pRe (l : Int) : Nat := if l = 0 then 13830554455654793216 else if l = 3 then 4602678819172646912 else if l = 4 then 4607182418800017408 else if l = 5 then 4611686018427387904 else 0
def pIm (l : Int) : Nat := if l = 0 then 4611686018427387904 else if l = 1 then 4607182418800017408 else if l = 5 then 13830554455654793216 else 0
@[reducible] def cpx (a b : Nat) : AV := .val (.complex .f64 a b)
theorem lev6 {a : Int} (h0 : 0 ≤ a) (h5 : a ≤ 5) : a = 0 ∨ a = 1 ∨ a = 2 ∨ a = 3 ∨ a = 4 ∨ a = 5 := by omega
def oq (a b x y : Nat) : Bool := (FloatKind.f64.format.order a x == some .eq) && (FloatKind.f64.format.order b y == some .eq)
/-- All there is to know of two levels' points. -/
structure Two (a b : Int) : Prop where
  re : FloatKind.f64.format.order (pRe a) (pRe b) ≠ none
  im : FloatKind.f64.format.order (pIm a) (pIm b) ≠ none
  fl : (fle (pRe a) (pRe b) && fge (pIm a) (pIm b)) = decide (a ≤ b)
  jr : fmax (pRe a) (pRe b) = pRe (if a < b then b else a)
  ji : fmin (pIm a) (pIm b) = pIm (if a < b then b else a)
  mr : fmin (pRe a) (pRe b) = pRe (if b < a then b else a)
  mi : fmax (pIm a) (pIm b) = pIm (if b < a then b else a)
theorem two {a b : Int} (a0 : 0 ≤ a) (a5 : a ≤ 5) (b0 : 0 ≤ b) (b5 : b ≤ 5) : Two a b := by
  rcases lev6 a0 a5 with rfl | rfl | rfl | rfl | rfl | rfl <;> rcases lev6 b0 b5 with rfl | rfl | rfl | rfl | rfl | rfl <;>
    exact ⟨by decide +kernel, by decide +kernel, by decide +kernel, by decide +kernel, by decide +kernel, by decide +kernel, by decide +kernel⟩
end Go.Proofs.YtkmdeahnkfdhjaaW.E
