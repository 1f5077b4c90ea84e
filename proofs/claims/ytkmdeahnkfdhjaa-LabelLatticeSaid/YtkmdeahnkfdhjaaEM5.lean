/-
  Bytes and numbers, in plain Lean. No condition.
-/
import Derived.Test.YtkmdeahnkfdhjaaEM2
namespace Go.Proofs.YtkmdeahnkfdhjaaW.E
open Go Go.RowKit
set_option linter.unusedVariables false
set_option linter.unusedSimpArgs false

@[reducible] def l8 (l : List Int) : AV := .list 1 (l.map u8) .no
@[reducible] def f8 (l : List Int) : AV := .list 1 (l.map u8) fresh
@[reducible] def u64 (c : Int) : AV := .val (.int .u64 c)
/-- A number out of the first bytes. -/
def tkv (b : List Int) : Nat → Int
  | 0 => 0
  | j + 1 => IntKind.u64.wrap ((BitVec.ofInt IntKind.u64.bits (IntKind.u64.wrap (tkv b j * 2 ^ (min (8 : Int).toNat IntKind.u64.bits)))) ||| BitVec.ofInt IntKind.u64.bits (IntKind.u64.wrap (b.getD j 0))).toNat
/-- A number's bytes, the highest first. -/
def byteAt (v : Int) (j : Nat) : Int := IntKind.u8.wrap (v.fdiv (2 ^ (min (8 * j) IntKind.u64.bits)))
def pb (v : Int) : Nat → List Int
  | 0 => []
  | j + 1 => byteAt v j :: pb v j
theorem pb_len (v : Int) : ∀ n, (pb v n).length = n
  | 0 => rfl
  | n + 1 => by simp [pb, pb_len v n]
theorem u64_nat {n : Nat} (h : n < 9223372036854775807) : IntKind.u64.wrap (n : Int) = n := by
  simp [IntKind.wrap, IntKind.bits]; omega
end Go.Proofs.YtkmdeahnkfdhjaaW.E
