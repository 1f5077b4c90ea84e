/-
  No cell of these rows narrows 'for every input' (looked for: loops, veiled, ifaces, maps, wideKeys, modest, calm, conditions, laid).
  DERIVED. THE GIVEN ROWS OF THIS SEAT. 9 by the template 'for every input the law returns true; each argument reads behind the call as it read before'; 0 by the template 'total and deterministic' (their statements: YtkmdeahnkfdhjaaTotals.lean).
  GIVEN WITH THE SEED: the statements are not yours to turn. If you find one false, say at which input.
  Laid BY PROGRAM, IN A SANDBOX (cutbox-rows.mjs): the forced cells as the released guide's own fill.sh prints them over the translation a1eb5e1065df4139… (all of the seat's roots in one cut). By AI agents, Wed Nov 11 2026. No macro, syntax, notation, axiom, sorry.
-/
import Derived.Test.YtkmdeahnkfdhjaaChecked
import GoSem.Claim
import GoSem.ClaimJoined
import GoSem.ClaimMapViews
import Derived.JoinedTies
import Derived.KernelRfl
namespace Go.Proofs.Ytkmdeahnkfdhjaa
/- THE CELL 'sum', in the pinned program and in every row, IS THE sha256 OF THE DUMP (.gsa) THAT YtkmdeahnkfdhjaaProg.lean LOADS. Nothing in Lean hashes anything: it is a label: what it is worth is what the hold of that sum in a sandbox is worth. -/
noncomputable def Try.pinned : Pinned := { name := "ytkmdeahnkfdhjaa", sum := "a1eb5e1065df41396377aa8b083f62c0519cd5247fd4b4f172b4e643bfc99656", checked := Try.checked }
namespace Rows
def none {H : Type} : Left H := { results := [], args := [] }

/-- 'transomlaw5.LabelMakes': WHATEVER THE INPUT: true; the input reads as it did. -/
def labelMakesSpec : ChangeSpec := { name := "labelMakes", fn := fun _ => fun
  | [d1, d2, d3, d4, d5] => { results := [.lit (.bool true)], args := [d1, d2, d3, d4, d5] }
  | _ => none }
def labelMakesRow : OpenClaim := { program := "ytkmdeahnkfdhjaa", sum := "a1eb5e1065df41396377aa8b083f62c0519cd5247fd4b4f172b4e643bfc99656", func := "transom/transomlaw5.LabelMakes", spec := "labelMakes", inPlace := ["slices.overlaps[transom/api.Pair]"], unfollowed := true, recurses := true, apart := false }
def LabelMakesSaid : Prop := labelMakesRow.holds Try.pinned (OpenSpec.ofChange labelMakesSpec)

/-- ITS FALSE NEIGHBOUR: 'it returns false'. Refute it at one input. -/
def labelMakesWrong : ChangeSpec := { name := "labelMakes", fn := fun _ => fun
  | [d1, d2, d3, d4, d5] => { results := [.lit (.bool false)], args := [d1, d2, d3, d4, d5] }
  | _ => none }
def LabelMakesWrongFalsely : Prop := labelMakesRow.holds Try.pinned (OpenSpec.ofChange labelMakesWrong)

/-- 'transomlaw5.LabelSets': WHATEVER THE INPUT: true; the input reads as it did. -/
def labelSetsSpec : ChangeSpec := { name := "labelSets", fn := fun _ => fun
  | [d1, d2, d3, d4] => { results := [.lit (.bool true)], args := [d1, d2, d3, d4] }
  | _ => none }
def labelSetsRow : OpenClaim := { program := "ytkmdeahnkfdhjaa", sum := "a1eb5e1065df41396377aa8b083f62c0519cd5247fd4b4f172b4e643bfc99656", func := "transom/transomlaw5.LabelSets", spec := "labelSets", inPlace := ["slices.overlaps[transom/api.Pair]"], unfollowed := true, recurses := true, apart := false }
def LabelSetsSaid : Prop := labelSetsRow.holds Try.pinned (OpenSpec.ofChange labelSetsSpec)

/-- ITS FALSE NEIGHBOUR: 'it returns false'. Refute it at one input. -/
def labelSetsWrong : ChangeSpec := { name := "labelSets", fn := fun _ => fun
  | [d1, d2, d3, d4] => { results := [.lit (.bool false)], args := [d1, d2, d3, d4] }
  | _ => none }
def LabelSetsWrongFalsely : Prop := labelSetsRow.holds Try.pinned (OpenSpec.ofChange labelSetsWrong)

/-- 'transomlaw5.LabelRises': WHATEVER THE INPUT: true; the input reads as it did. -/
def labelRisesSpec : ChangeSpec := { name := "labelRises", fn := fun _ => fun
  | [d] => { results := [.lit (.bool true)], args := [d] }
  | _ => none }
def labelRisesRow : OpenClaim := { program := "ytkmdeahnkfdhjaa", sum := "a1eb5e1065df41396377aa8b083f62c0519cd5247fd4b4f172b4e643bfc99656", func := "transom/transomlaw5.LabelRises", spec := "labelRises", inPlace := ["slices.overlaps[transom/api.Pair]"], unfollowed := true, recurses := true, apart := false }
def LabelRisesSaid : Prop := labelRisesRow.holds Try.pinned (OpenSpec.ofChange labelRisesSpec)

/-- ITS FALSE NEIGHBOUR: 'it returns false'. Refute it at one input. -/
def labelRisesWrong : ChangeSpec := { name := "labelRises", fn := fun _ => fun
  | [d] => { results := [.lit (.bool false)], args := [d] }
  | _ => none }
def LabelRisesWrongFalsely : Prop := labelRisesRow.holds Try.pinned (OpenSpec.ofChange labelRisesWrong)

/-- 'transomlaw5.LabelMost': WHATEVER THE INPUT: true; the input reads as it did. -/
def labelMostSpec : ChangeSpec := { name := "labelMost", fn := fun _ => fun
  | [d1, d2, d3] => { results := [.lit (.bool true)], args := [d1, d2, d3] }
  | _ => none }
def labelMostRow : OpenClaim := { program := "ytkmdeahnkfdhjaa", sum := "a1eb5e1065df41396377aa8b083f62c0519cd5247fd4b4f172b4e643bfc99656", func := "transom/transomlaw5.LabelMost", spec := "labelMost", inPlace := ["slices.overlaps[transom/api.Pair]"], unfollowed := true, recurses := true, apart := false }
def LabelMostSaid : Prop := labelMostRow.holds Try.pinned (OpenSpec.ofChange labelMostSpec)

/-- ITS FALSE NEIGHBOUR: 'it returns false'. Refute it at one input. -/
def labelMostWrong : ChangeSpec := { name := "labelMost", fn := fun _ => fun
  | [d1, d2, d3] => { results := [.lit (.bool false)], args := [d1, d2, d3] }
  | _ => none }
def LabelMostWrongFalsely : Prop := labelMostRow.holds Try.pinned (OpenSpec.ofChange labelMostWrong)

/-- 'transomlaw5.LabelForms': WHATEVER THE INPUT: true; the input reads as it did. -/
def labelFormsSpec : ChangeSpec := { name := "labelForms", fn := fun _ => fun
  | [] => { results := [.lit (.bool true)], args := [] }
  | _ => none }
def labelFormsRow : OpenClaim := { program := "ytkmdeahnkfdhjaa", sum := "a1eb5e1065df41396377aa8b083f62c0519cd5247fd4b4f172b4e643bfc99656", func := "transom/transomlaw5.LabelForms", spec := "labelForms", inPlace := ["slices.overlaps[transom/api.Pair]"], unfollowed := true, recurses := true, apart := false }
def LabelFormsSaid : Prop := labelFormsRow.holds Try.pinned (OpenSpec.ofChange labelFormsSpec)

/-- ITS FALSE NEIGHBOUR: 'it returns false'. Refute it at one input. -/
def labelFormsWrong : ChangeSpec := { name := "labelForms", fn := fun _ => fun
  | [] => { results := [.lit (.bool false)], args := [] }
  | _ => none }
def LabelFormsWrongFalsely : Prop := labelFormsRow.holds Try.pinned (OpenSpec.ofChange labelFormsWrong)

/-- 'transomlaw5.LabelMakesOnce': WHATEVER THE INPUT: true; the input reads as it did. -/
def labelMakesOnceSpec : ChangeSpec := { name := "labelMakesOnce", fn := fun _ => fun
  | [d1, d2, d3] => { results := [.lit (.bool true)], args := [d1, d2, d3] }
  | _ => none }
def labelMakesOnceRow : OpenClaim := { program := "ytkmdeahnkfdhjaa", sum := "a1eb5e1065df41396377aa8b083f62c0519cd5247fd4b4f172b4e643bfc99656", func := "transom/transomlaw5.LabelMakesOnce", spec := "labelMakesOnce", inPlace := ["slices.overlaps[transom/api.Pair]"], unfollowed := true, recurses := true, apart := false }
def LabelMakesOnceSaid : Prop := labelMakesOnceRow.holds Try.pinned (OpenSpec.ofChange labelMakesOnceSpec)

/-- ITS FALSE NEIGHBOUR: 'it returns false'. Refute it at one input. -/
def labelMakesOnceWrong : ChangeSpec := { name := "labelMakesOnce", fn := fun _ => fun
  | [d1, d2, d3] => { results := [.lit (.bool false)], args := [d1, d2, d3] }
  | _ => none }
def LabelMakesOnceWrongFalsely : Prop := labelMakesOnceRow.holds Try.pinned (OpenSpec.ofChange labelMakesOnceWrong)

/-- 'transomlaw5.LabelAll': WHATEVER THE INPUT: true; the input reads as it did. -/
def labelAllSpec : ChangeSpec := { name := "labelAll", fn := fun _ => fun
  | [d1, d2] => { results := [.lit (.bool true)], args := [d1, d2] }
  | _ => none }
def labelAllRow : OpenClaim := { program := "ytkmdeahnkfdhjaa", sum := "a1eb5e1065df41396377aa8b083f62c0519cd5247fd4b4f172b4e643bfc99656", func := "transom/transomlaw5.LabelAll", spec := "labelAll", inPlace := ["slices.overlaps[transom/api.Pair]"], unfollowed := true, recurses := true, apart := false }
def LabelAllSaid : Prop := labelAllRow.holds Try.pinned (OpenSpec.ofChange labelAllSpec)

/-- ITS FALSE NEIGHBOUR: 'it returns false'. Refute it at one input. -/
def labelAllWrong : ChangeSpec := { name := "labelAll", fn := fun _ => fun
  | [d1, d2] => { results := [.lit (.bool false)], args := [d1, d2] }
  | _ => none }
def LabelAllWrongFalsely : Prop := labelAllRow.holds Try.pinned (OpenSpec.ofChange labelAllWrong)

/-- 'transomlaw5.LabelAts': WHATEVER THE INPUT: true; the input reads as it did. -/
def labelAtsSpec : ChangeSpec := { name := "labelAts", fn := fun _ => fun
  | [d1, d2, d3] => { results := [.lit (.bool true)], args := [d1, d2, d3] }
  | _ => none }
def labelAtsRow : OpenClaim := { program := "ytkmdeahnkfdhjaa", sum := "a1eb5e1065df41396377aa8b083f62c0519cd5247fd4b4f172b4e643bfc99656", func := "transom/transomlaw5.LabelAts", spec := "labelAts", inPlace := ["slices.overlaps[transom/api.Pair]"], unfollowed := true, recurses := true, apart := false }
def LabelAtsSaid : Prop := labelAtsRow.holds Try.pinned (OpenSpec.ofChange labelAtsSpec)

/-- ITS FALSE NEIGHBOUR: 'it returns false'. Refute it at one input. -/
def labelAtsWrong : ChangeSpec := { name := "labelAts", fn := fun _ => fun
  | [d1, d2, d3] => { results := [.lit (.bool false)], args := [d1, d2, d3] }
  | _ => none }
def LabelAtsWrongFalsely : Prop := labelAtsRow.holds Try.pinned (OpenSpec.ofChange labelAtsWrong)

/-- 'transomlaw5.LabelLattice': WHATEVER THE INPUT: true; the input reads as it did. -/
def labelLatticeSpec : ChangeSpec := { name := "labelLattice", fn := fun _ => fun
  | [d1, d2, d3] => { results := [.lit (.bool true)], args := [d1, d2, d3] }
  | _ => none }
def labelLatticeRow : OpenClaim := { program := "ytkmdeahnkfdhjaa", sum := "a1eb5e1065df41396377aa8b083f62c0519cd5247fd4b4f172b4e643bfc99656", func := "transom/transomlaw5.LabelLattice", spec := "labelLattice", inPlace := ["slices.overlaps[transom/api.Pair]"], unfollowed := true, recurses := true, apart := false }
def LabelLatticeSaid : Prop := labelLatticeRow.holds Try.pinned (OpenSpec.ofChange labelLatticeSpec)

/-- ITS FALSE NEIGHBOUR: 'it returns false'. Refute it at one input. -/
def labelLatticeWrong : ChangeSpec := { name := "labelLattice", fn := fun _ => fun
  | [d1, d2, d3] => { results := [.lit (.bool false)], args := [d1, d2, d3] }
  | _ => none }
def LabelLatticeWrongFalsely : Prop := labelLatticeRow.holds Try.pinned (OpenSpec.ofChange labelLatticeWrong)

/- THE SECOND FORM. 'bulk': how many values and letters a reading holds, each counted each time it is reached (what is shared counts as often as it is met; a slice's spare places count too). A statement '..UptoSaid' is the law's where the arguments, and the package variables that the reading takes, are together of bulk at most 1048576: NARROWER than '..Said'. Prove '..Said' where nothing that the law and all that it calls make is longer than what came in: it says more and counts as full. Else prove '..UptoSaid'. A law counts once. -/
mutual
def uptoBulk {H : Type} : DataW H → Nat
  | .lit (.string bytes) => bytes.length + 1
  | .lit _ => 1
  | .nil => 1
  | .ptr d => uptoBulk d + 1
  | .slice elems spare => uptoBulkAll elems + uptoBulkAll spare + 1
  | .agg parts => uptoBulkAll parts + 1
  | .iface _ d => uptoBulk d + 1
  | .map entries => uptoBulkEntries entries + 1
  | .held _ => 1
def uptoBulkAll {H : Type} : List (DataW H) → Nat
  | [] => 0
  | d :: r => uptoBulk d + uptoBulkAll r
def uptoBulkEntries {H : Type} : List (Lit × DataW H) → Nat
  | [] => 0
  | x :: r => uptoBulkEntry x + uptoBulkEntries r
def uptoBulkEntry {H : Type} : Lit × DataW H → Nat
  | (.string bytes, d) => bytes.length + uptoBulk d + 1
  | (_, d) => uptoBulk d + 1
 end
def uptoSmall : (H : Type) → List (DataW H) → Bool := fun _ ds => decide (uptoBulkAll ds ≤ 1048576)
def OpenSpec.upto (s : _root_.Go.ChangeSpec) : _root_.Go.OpenSpec := { _root_.Go.OpenSpec.ofChange s with cond := some uptoSmall }

/-- 'transomlaw5.LabelMakes', WHERE WHAT IT READS IS OF BULK AT MOST 1048576: true; the input reads as it did. -/
def labelMakesUptoRow : OpenClaim := { program := "ytkmdeahnkfdhjaa", sum := "a1eb5e1065df41396377aa8b083f62c0519cd5247fd4b4f172b4e643bfc99656", func := "transom/transomlaw5.LabelMakes", spec := "labelMakes", inPlace := ["slices.overlaps[transom/api.Pair]"], unfollowed := true, recurses := true, apart := false, narrowed := true }
def LabelMakesUptoSaid : Prop := labelMakesUptoRow.holds Try.pinned (OpenSpec.upto labelMakesSpec)

/-- 'transomlaw5.LabelSets', WHERE WHAT IT READS IS OF BULK AT MOST 1048576: true; the input reads as it did. -/
def labelSetsUptoRow : OpenClaim := { program := "ytkmdeahnkfdhjaa", sum := "a1eb5e1065df41396377aa8b083f62c0519cd5247fd4b4f172b4e643bfc99656", func := "transom/transomlaw5.LabelSets", spec := "labelSets", inPlace := ["slices.overlaps[transom/api.Pair]"], unfollowed := true, recurses := true, apart := false, narrowed := true }
def LabelSetsUptoSaid : Prop := labelSetsUptoRow.holds Try.pinned (OpenSpec.upto labelSetsSpec)

/-- 'transomlaw5.LabelRises', WHERE WHAT IT READS IS OF BULK AT MOST 1048576: true; the input reads as it did. -/
def labelRisesUptoRow : OpenClaim := { program := "ytkmdeahnkfdhjaa", sum := "a1eb5e1065df41396377aa8b083f62c0519cd5247fd4b4f172b4e643bfc99656", func := "transom/transomlaw5.LabelRises", spec := "labelRises", inPlace := ["slices.overlaps[transom/api.Pair]"], unfollowed := true, recurses := true, apart := false, narrowed := true }
def LabelRisesUptoSaid : Prop := labelRisesUptoRow.holds Try.pinned (OpenSpec.upto labelRisesSpec)

/-- 'transomlaw5.LabelMost', WHERE WHAT IT READS IS OF BULK AT MOST 1048576: true; the input reads as it did. -/
def labelMostUptoRow : OpenClaim := { program := "ytkmdeahnkfdhjaa", sum := "a1eb5e1065df41396377aa8b083f62c0519cd5247fd4b4f172b4e643bfc99656", func := "transom/transomlaw5.LabelMost", spec := "labelMost", inPlace := ["slices.overlaps[transom/api.Pair]"], unfollowed := true, recurses := true, apart := false, narrowed := true }
def LabelMostUptoSaid : Prop := labelMostUptoRow.holds Try.pinned (OpenSpec.upto labelMostSpec)

/-- 'transomlaw5.LabelForms', WHERE WHAT IT READS IS OF BULK AT MOST 1048576: true; the input reads as it did. -/
def labelFormsUptoRow : OpenClaim := { program := "ytkmdeahnkfdhjaa", sum := "a1eb5e1065df41396377aa8b083f62c0519cd5247fd4b4f172b4e643bfc99656", func := "transom/transomlaw5.LabelForms", spec := "labelForms", inPlace := ["slices.overlaps[transom/api.Pair]"], unfollowed := true, recurses := true, apart := false, narrowed := true }
def LabelFormsUptoSaid : Prop := labelFormsUptoRow.holds Try.pinned (OpenSpec.upto labelFormsSpec)

/-- 'transomlaw5.LabelMakesOnce', WHERE WHAT IT READS IS OF BULK AT MOST 1048576: true; the input reads as it did. -/
def labelMakesOnceUptoRow : OpenClaim := { program := "ytkmdeahnkfdhjaa", sum := "a1eb5e1065df41396377aa8b083f62c0519cd5247fd4b4f172b4e643bfc99656", func := "transom/transomlaw5.LabelMakesOnce", spec := "labelMakesOnce", inPlace := ["slices.overlaps[transom/api.Pair]"], unfollowed := true, recurses := true, apart := false, narrowed := true }
def LabelMakesOnceUptoSaid : Prop := labelMakesOnceUptoRow.holds Try.pinned (OpenSpec.upto labelMakesOnceSpec)

/-- 'transomlaw5.LabelAll', WHERE WHAT IT READS IS OF BULK AT MOST 1048576: true; the input reads as it did. -/
def labelAllUptoRow : OpenClaim := { program := "ytkmdeahnkfdhjaa", sum := "a1eb5e1065df41396377aa8b083f62c0519cd5247fd4b4f172b4e643bfc99656", func := "transom/transomlaw5.LabelAll", spec := "labelAll", inPlace := ["slices.overlaps[transom/api.Pair]"], unfollowed := true, recurses := true, apart := false, narrowed := true }
def LabelAllUptoSaid : Prop := labelAllUptoRow.holds Try.pinned (OpenSpec.upto labelAllSpec)

/-- 'transomlaw5.LabelAts', WHERE WHAT IT READS IS OF BULK AT MOST 1048576: true; the input reads as it did. -/
def labelAtsUptoRow : OpenClaim := { program := "ytkmdeahnkfdhjaa", sum := "a1eb5e1065df41396377aa8b083f62c0519cd5247fd4b4f172b4e643bfc99656", func := "transom/transomlaw5.LabelAts", spec := "labelAts", inPlace := ["slices.overlaps[transom/api.Pair]"], unfollowed := true, recurses := true, apart := false, narrowed := true }
def LabelAtsUptoSaid : Prop := labelAtsUptoRow.holds Try.pinned (OpenSpec.upto labelAtsSpec)

/-- 'transomlaw5.LabelLattice', WHERE WHAT IT READS IS OF BULK AT MOST 1048576: true; the input reads as it did. -/
def labelLatticeUptoRow : OpenClaim := { program := "ytkmdeahnkfdhjaa", sum := "a1eb5e1065df41396377aa8b083f62c0519cd5247fd4b4f172b4e643bfc99656", func := "transom/transomlaw5.LabelLattice", spec := "labelLattice", inPlace := ["slices.overlaps[transom/api.Pair]"], unfollowed := true, recurses := true, apart := false, narrowed := true }
def LabelLatticeUptoSaid : Prop := labelLatticeUptoRow.holds Try.pinned (OpenSpec.upto labelLatticeSpec)

end Rows
end Go.Proofs.Ytkmdeahnkfdhjaa
