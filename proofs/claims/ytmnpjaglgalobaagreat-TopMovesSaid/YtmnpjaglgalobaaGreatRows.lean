/-
  No cell of these rows narrows 'for every input' (looked for: loops, veiled, ifaces, maps, wideKeys, modest, calm, conditions, laid).
  DERIVED. THE GIVEN ROWS OF THIS SEAT. 6 by the template 'for every input the law returns true; each argument reads behind the call as it read before'; 0 by the template 'total and deterministic' (their statements: YtmnpjaglgalobaaGreatTotals.lean).
  GIVEN WITH THE SEED: the statements are not yours to turn. If you find one false, say at which input.
  Laid BY PROGRAM, IN A SANDBOX (cutbox-rows.mjs): the forced cells as the released guide's own fill.sh prints them over the translation 42fab3b69dd3bad1… (all of the seat's roots in one cut). By AI agents, Wed Nov 11 2026. No macro, syntax, notation, axiom, sorry.
-/
import Derived.Test.YtmnpjaglgalobaaGreatChecked
import GoSem.Claim
import GoSem.ClaimJoined
import GoSem.ClaimMapViews
import Derived.JoinedTies
import Derived.KernelRfl
namespace Go.Proofs.YtmnpjaglgalobaaGreat
/- THE CELL 'sum', in the pinned program and in every row, IS THE sha256 OF THE DUMP (.gsa) THAT YtmnpjaglgalobaaGreatProg.lean LOADS. Nothing in Lean hashes anything: it is a label: what it is worth is what the hold of that sum in a sandbox is worth. -/
noncomputable def Tryz.pinned : Pinned := { name := "ytmnpjaglgalobaagreat", sum := "42fab3b69dd3bad1766087e819b7405036e61826c9f14422b63f2a4010c903cf", checked := Tryz.checked }
namespace Rows
def none {H : Type} : Left H := { results := [], args := [] }

/-- 'transomtop.TopMixed': WHATEVER THE INPUT: true; the input reads as it did. -/
def topMixedSpec : ChangeSpec := { name := "topMixed", fn := fun _ => fun
  | [d1, d2] => { results := [.lit (.bool true)], args := [d1, d2] }
  | _ => none }
def topMixedRow : OpenClaim := { program := "ytmnpjaglgalobaagreat", sum := "42fab3b69dd3bad1766087e819b7405036e61826c9f14422b63f2a4010c903cf", func := "transom/transomtop.TopMixed", spec := "topMixed", inPlace := ["slices.overlaps[transom/api.Pair]"], unfollowed := true, recurses := true, apart := false }
def TopMixedSaid : Prop := topMixedRow.holds Tryz.pinned (OpenSpec.ofChange topMixedSpec)

/-- ITS FALSE NEIGHBOUR: 'it returns false'. Refute it at one input. -/
def topMixedWrong : ChangeSpec := { name := "topMixed", fn := fun _ => fun
  | [d1, d2] => { results := [.lit (.bool false)], args := [d1, d2] }
  | _ => none }
def TopMixedWrongFalsely : Prop := topMixedRow.holds Tryz.pinned (OpenSpec.ofChange topMixedWrong)

/-- 'transomtop.TopEnds': WHATEVER THE INPUT: true; the input reads as it did. -/
def topEndsSpec : ChangeSpec := { name := "topEnds", fn := fun _ => fun
  | [d] => { results := [.lit (.bool true)], args := [d] }
  | _ => none }
def topEndsRow : OpenClaim := { program := "ytmnpjaglgalobaagreat", sum := "42fab3b69dd3bad1766087e819b7405036e61826c9f14422b63f2a4010c903cf", func := "transom/transomtop.TopEnds", spec := "topEnds", inPlace := ["slices.overlaps[transom/api.Pair]"], unfollowed := true, recurses := true, apart := false }
def TopEndsSaid : Prop := topEndsRow.holds Tryz.pinned (OpenSpec.ofChange topEndsSpec)

/-- ITS FALSE NEIGHBOUR: 'it returns false'. Refute it at one input. -/
def topEndsWrong : ChangeSpec := { name := "topEnds", fn := fun _ => fun
  | [d] => { results := [.lit (.bool false)], args := [d] }
  | _ => none }
def TopEndsWrongFalsely : Prop := topEndsRow.holds Tryz.pinned (OpenSpec.ofChange topEndsWrong)

/-- 'transomtop.TopSecrets': WHATEVER THE INPUT: true; the input reads as it did. -/
def topSecretsSpec : ChangeSpec := { name := "topSecrets", fn := fun _ => fun
  | [d1, d2] => { results := [.lit (.bool true)], args := [d1, d2] }
  | _ => none }
def topSecretsRow : OpenClaim := { program := "ytmnpjaglgalobaagreat", sum := "42fab3b69dd3bad1766087e819b7405036e61826c9f14422b63f2a4010c903cf", func := "transom/transomtop.TopSecrets", spec := "topSecrets", inPlace := ["slices.overlaps[transom/api.Pair]"], unfollowed := true, recurses := true, apart := false }
def TopSecretsSaid : Prop := topSecretsRow.holds Tryz.pinned (OpenSpec.ofChange topSecretsSpec)

/-- ITS FALSE NEIGHBOUR: 'it returns false'. Refute it at one input. -/
def topSecretsWrong : ChangeSpec := { name := "topSecrets", fn := fun _ => fun
  | [d1, d2] => { results := [.lit (.bool false)], args := [d1, d2] }
  | _ => none }
def TopSecretsWrongFalsely : Prop := topSecretsRow.holds Tryz.pinned (OpenSpec.ofChange topSecretsWrong)

/-- 'transomtop.TopMoves': WHATEVER THE INPUT: true; the input reads as it did. -/
def topMovesSpec : ChangeSpec := { name := "topMoves", fn := fun _ => fun
  | [d1, d2] => { results := [.lit (.bool true)], args := [d1, d2] }
  | _ => none }
def topMovesRow : OpenClaim := { program := "ytmnpjaglgalobaagreat", sum := "42fab3b69dd3bad1766087e819b7405036e61826c9f14422b63f2a4010c903cf", func := "transom/transomtop.TopMoves", spec := "topMoves", inPlace := ["slices.overlaps[transom/api.Pair]"], unfollowed := true, recurses := true, apart := false }
def TopMovesSaid : Prop := topMovesRow.holds Tryz.pinned (OpenSpec.ofChange topMovesSpec)

/-- ITS FALSE NEIGHBOUR: 'it returns false'. Refute it at one input. -/
def topMovesWrong : ChangeSpec := { name := "topMoves", fn := fun _ => fun
  | [d1, d2] => { results := [.lit (.bool false)], args := [d1, d2] }
  | _ => none }
def TopMovesWrongFalsely : Prop := topMovesRow.holds Tryz.pinned (OpenSpec.ofChange topMovesWrong)

/-- 'transomtop.TopGates': WHATEVER THE INPUT: true; the input reads as it did. -/
def topGatesSpec : ChangeSpec := { name := "topGates", fn := fun _ => fun
  | [d1, d2] => { results := [.lit (.bool true)], args := [d1, d2] }
  | _ => none }
def topGatesRow : OpenClaim := { program := "ytmnpjaglgalobaagreat", sum := "42fab3b69dd3bad1766087e819b7405036e61826c9f14422b63f2a4010c903cf", func := "transom/transomtop.TopGates", spec := "topGates", inPlace := ["slices.overlaps[transom/api.Pair]"], unfollowed := true, recurses := true, apart := false }
def TopGatesSaid : Prop := topGatesRow.holds Tryz.pinned (OpenSpec.ofChange topGatesSpec)

/-- ITS FALSE NEIGHBOUR: 'it returns false'. Refute it at one input. -/
def topGatesWrong : ChangeSpec := { name := "topGates", fn := fun _ => fun
  | [d1, d2] => { results := [.lit (.bool false)], args := [d1, d2] }
  | _ => none }
def TopGatesWrongFalsely : Prop := topGatesRow.holds Tryz.pinned (OpenSpec.ofChange topGatesWrong)

/-- 'transomtop.TopNever': WHATEVER THE INPUT: true; the input reads as it did. -/
def topNeverSpec : ChangeSpec := { name := "topNever", fn := fun _ => fun
  | [d1, d2] => { results := [.lit (.bool true)], args := [d1, d2] }
  | _ => none }
def topNeverRow : OpenClaim := { program := "ytmnpjaglgalobaagreat", sum := "42fab3b69dd3bad1766087e819b7405036e61826c9f14422b63f2a4010c903cf", func := "transom/transomtop.TopNever", spec := "topNever", inPlace := ["slices.overlaps[transom/api.Pair]"], unfollowed := true, recurses := true, apart := false }
def TopNeverSaid : Prop := topNeverRow.holds Tryz.pinned (OpenSpec.ofChange topNeverSpec)

/-- ITS FALSE NEIGHBOUR: 'it returns false'. Refute it at one input. -/
def topNeverWrong : ChangeSpec := { name := "topNever", fn := fun _ => fun
  | [d1, d2] => { results := [.lit (.bool false)], args := [d1, d2] }
  | _ => none }
def TopNeverWrongFalsely : Prop := topNeverRow.holds Tryz.pinned (OpenSpec.ofChange topNeverWrong)

/- THE SECOND FORM. 'bulk': how many values and letters a reading holds, each counted each time it is reached (what is shared counts as often as it is met; a slice's spare places count too). A statement '..UptoSaid' is the law's where the arguments, and the package variables that the reading takes, are together of bulk at most 1048576: NARROWER than '..Said'. Prove '..Said' where nothing that the law and all that it calls make is longer than what came in: it says more and counts as full. Else prove '..UptoSaid'. A law counts once. -/
mutual
def uptoBulk {H : Type} : DataW H → Nat
  | .lit (.string bytes) => bytes.length + 1
  | .lit _ => 1
  | .nil => 1
  | .ptr d => uptoBulk d + 1
  | .slice elems spare => uptoBulkAll elems + uptoBulkAll spare + 1
  | .agg parts => uptoBulkAll parts + 1
  | .iface _ d => uptoBulk d + 1
  | .map entries => uptoBulkEntries entries + 1
  | .held _ => 1
def uptoBulkAll {H : Type} : List (DataW H) → Nat
  | [] => 0
  | d :: r => uptoBulk d + uptoBulkAll r
def uptoBulkEntries {H : Type} : List (Lit × DataW H) → Nat
  | [] => 0
  | x :: r => uptoBulkEntry x + uptoBulkEntries r
def uptoBulkEntry {H : Type} : Lit × DataW H → Nat
  | (.string bytes, d) => bytes.length + uptoBulk d + 1
  | (_, d) => uptoBulk d + 1
 end
def uptoSmall : (H : Type) → List (DataW H) → Bool := fun _ ds => decide (uptoBulkAll ds ≤ 1048576)
def OpenSpec.upto (s : _root_.Go.ChangeSpec) : _root_.Go.OpenSpec := { _root_.Go.OpenSpec.ofChange s with cond := some uptoSmall }

/-- 'transomtop.TopMixed', WHERE WHAT IT READS IS OF BULK AT MOST 1048576: true; the input reads as it did. -/
def topMixedUptoRow : OpenClaim := { program := "ytmnpjaglgalobaagreat", sum := "42fab3b69dd3bad1766087e819b7405036e61826c9f14422b63f2a4010c903cf", func := "transom/transomtop.TopMixed", spec := "topMixed", inPlace := ["slices.overlaps[transom/api.Pair]"], unfollowed := true, recurses := true, apart := false, narrowed := true }
def TopMixedUptoSaid : Prop := topMixedUptoRow.holds Tryz.pinned (OpenSpec.upto topMixedSpec)

/-- 'transomtop.TopEnds', WHERE WHAT IT READS IS OF BULK AT MOST 1048576: true; the input reads as it did. -/
def topEndsUptoRow : OpenClaim := { program := "ytmnpjaglgalobaagreat", sum := "42fab3b69dd3bad1766087e819b7405036e61826c9f14422b63f2a4010c903cf", func := "transom/transomtop.TopEnds", spec := "topEnds", inPlace := ["slices.overlaps[transom/api.Pair]"], unfollowed := true, recurses := true, apart := false, narrowed := true }
def TopEndsUptoSaid : Prop := topEndsUptoRow.holds Tryz.pinned (OpenSpec.upto topEndsSpec)

/-- 'transomtop.TopSecrets', WHERE WHAT IT READS IS OF BULK AT MOST 1048576: true; the input reads as it did. -/
def topSecretsUptoRow : OpenClaim := { program := "ytmnpjaglgalobaagreat", sum := "42fab3b69dd3bad1766087e819b7405036e61826c9f14422b63f2a4010c903cf", func := "transom/transomtop.TopSecrets", spec := "topSecrets", inPlace := ["slices.overlaps[transom/api.Pair]"], unfollowed := true, recurses := true, apart := false, narrowed := true }
def TopSecretsUptoSaid : Prop := topSecretsUptoRow.holds Tryz.pinned (OpenSpec.upto topSecretsSpec)

/-- 'transomtop.TopMoves', WHERE WHAT IT READS IS OF BULK AT MOST 1048576: true; the input reads as it did. -/
def topMovesUptoRow : OpenClaim := { program := "ytmnpjaglgalobaagreat", sum := "42fab3b69dd3bad1766087e819b7405036e61826c9f14422b63f2a4010c903cf", func := "transom/transomtop.TopMoves", spec := "topMoves", inPlace := ["slices.overlaps[transom/api.Pair]"], unfollowed := true, recurses := true, apart := false, narrowed := true }
def TopMovesUptoSaid : Prop := topMovesUptoRow.holds Tryz.pinned (OpenSpec.upto topMovesSpec)

/-- 'transomtop.TopGates', WHERE WHAT IT READS IS OF BULK AT MOST 1048576: true; the input reads as it did. -/
def topGatesUptoRow : OpenClaim := { program := "ytmnpjaglgalobaagreat", sum := "42fab3b69dd3bad1766087e819b7405036e61826c9f14422b63f2a4010c903cf", func := "transom/transomtop.TopGates", spec := "topGates", inPlace := ["slices.overlaps[transom/api.Pair]"], unfollowed := true, recurses := true, apart := false, narrowed := true }
def TopGatesUptoSaid : Prop := topGatesUptoRow.holds Tryz.pinned (OpenSpec.upto topGatesSpec)

/-- 'transomtop.TopNever', WHERE WHAT IT READS IS OF BULK AT MOST 1048576: true; the input reads as it did. -/
def topNeverUptoRow : OpenClaim := { program := "ytmnpjaglgalobaagreat", sum := "42fab3b69dd3bad1766087e819b7405036e61826c9f14422b63f2a4010c903cf", func := "transom/transomtop.TopNever", spec := "topNever", inPlace := ["slices.overlaps[transom/api.Pair]"], unfollowed := true, recurses := true, apart := false, narrowed := true }
def TopNeverUptoSaid : Prop := topNeverUptoRow.holds Tryz.pinned (OpenSpec.upto topNeverSpec)

end Rows
end Go.Proofs.YtmnpjaglgalobaaGreat
