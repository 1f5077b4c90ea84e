/-
  No cell of these rows narrows 'for every input' (looked for: loops, veiled, ifaces, maps, wideKeys, modest, calm, conditions, laid).
  DERIVED. THE GIVEN ROWS OF THIS SEAT. 6 by the template 'for every input the law returns true; each argument reads behind the call as it read before'; 0 by the template 'total and deterministic' (their statements: YtopdgmjmpmkamaaTotals.lean).
  GIVEN WITH THE SEED: the statements are not yours to turn. If you find one false, say at which input.
  Laid BY PROGRAM, IN A SANDBOX (cutbox-rows.mjs): the forced cells as the released guide's own fill.sh prints them over the translation e3cdedb0ab210b94… (all of the seat's roots in one cut). By AI agents, Wed Nov 11 2026. No macro, syntax, notation, axiom, sorry.
-/
import Derived.Test.YtopdgmjmpmkamaaChecked
import GoSem.Claim
import GoSem.ClaimJoined
import GoSem.ClaimMapViews
import Derived.JoinedTies
import Derived.KernelRfl
namespace Go.Proofs.Ytopdgmjmpmkamaa
/- THE CELL 'sum', in the pinned program and in every row, IS THE sha256 OF THE DUMP (.gsa) THAT YtopdgmjmpmkamaaProg.lean LOADS. Nothing in Lean hashes anything: it is a label: what it is worth is what the hold of that sum in a sandbox is worth. -/
noncomputable def Try.pinned : Pinned := { name := "ytopdgmjmpmkamaa", sum := "e3cdedb0ab210b94a7fcc7cef632c3abff5551993bc4031e505c447bc96099e2", checked := Try.checked }
namespace Rows
def none {H : Type} : Left H := { results := [], args := [] }

/-- 'transomlaw11.TransAll': WHATEVER THE INPUT: true; the input reads as it did. -/
def transAllSpec : ChangeSpec := { name := "transAll", fn := fun _ => fun
  | [d1, d2] => { results := [.lit (.bool true)], args := [d1, d2] }
  | _ => none }
def transAllRow : OpenClaim := { program := "ytopdgmjmpmkamaa", sum := "e3cdedb0ab210b94a7fcc7cef632c3abff5551993bc4031e505c447bc96099e2", func := "transom/transomlaw11.TransAll", spec := "transAll", inPlace := ["slices.overlaps[transom/api.Pair]"], unfollowed := true, recurses := true, apart := false }
def TransAllSaid : Prop := transAllRow.holds Try.pinned (OpenSpec.ofChange transAllSpec)

/-- ITS FALSE NEIGHBOUR: 'it returns false'. Refute it at one input. -/
def transAllWrong : ChangeSpec := { name := "transAll", fn := fun _ => fun
  | [d1, d2] => { results := [.lit (.bool false)], args := [d1, d2] }
  | _ => none }
def TransAllWrongFalsely : Prop := transAllRow.holds Try.pinned (OpenSpec.ofChange transAllWrong)

/-- 'transomlaw11.TransBack': WHATEVER THE INPUT: true; the input reads as it did. -/
def transBackSpec : ChangeSpec := { name := "transBack", fn := fun _ => fun
  | [d1, d2] => { results := [.lit (.bool true)], args := [d1, d2] }
  | _ => none }
def transBackRow : OpenClaim := { program := "ytopdgmjmpmkamaa", sum := "e3cdedb0ab210b94a7fcc7cef632c3abff5551993bc4031e505c447bc96099e2", func := "transom/transomlaw11.TransBack", spec := "transBack", inPlace := ["slices.overlaps[transom/api.Pair]"], unfollowed := true, recurses := true, apart := false }
def TransBackSaid : Prop := transBackRow.holds Try.pinned (OpenSpec.ofChange transBackSpec)

/-- ITS FALSE NEIGHBOUR: 'it returns false'. Refute it at one input. -/
def transBackWrong : ChangeSpec := { name := "transBack", fn := fun _ => fun
  | [d1, d2] => { results := [.lit (.bool false)], args := [d1, d2] }
  | _ => none }
def TransBackWrongFalsely : Prop := transBackRow.holds Try.pinned (OpenSpec.ofChange transBackWrong)

/-- 'transomlaw11.TransForms': WHATEVER THE INPUT: true; the input reads as it did. -/
def transFormsSpec : ChangeSpec := { name := "transForms", fn := fun _ => fun
  | [] => { results := [.lit (.bool true)], args := [] }
  | _ => none }
def transFormsRow : OpenClaim := { program := "ytopdgmjmpmkamaa", sum := "e3cdedb0ab210b94a7fcc7cef632c3abff5551993bc4031e505c447bc96099e2", func := "transom/transomlaw11.TransForms", spec := "transForms", inPlace := ["slices.overlaps[transom/api.Pair]"], unfollowed := true, recurses := true, apart := false }
def TransFormsSaid : Prop := transFormsRow.holds Try.pinned (OpenSpec.ofChange transFormsSpec)

/-- ITS FALSE NEIGHBOUR: 'it returns false'. Refute it at one input. -/
def transFormsWrong : ChangeSpec := { name := "transForms", fn := fun _ => fun
  | [] => { results := [.lit (.bool false)], args := [] }
  | _ => none }
def TransFormsWrongFalsely : Prop := transFormsRow.holds Try.pinned (OpenSpec.ofChange transFormsWrong)

/-- 'transomlaw11.TransOwns': WHATEVER THE INPUT: true; the input reads as it did. -/
def transOwnsSpec : ChangeSpec := { name := "transOwns", fn := fun _ => fun
  | [d1, d2] => { results := [.lit (.bool true)], args := [d1, d2] }
  | _ => none }
def transOwnsRow : OpenClaim := { program := "ytopdgmjmpmkamaa", sum := "e3cdedb0ab210b94a7fcc7cef632c3abff5551993bc4031e505c447bc96099e2", func := "transom/transomlaw11.TransOwns", spec := "transOwns", inPlace := ["slices.overlaps[transom/api.Pair]"], unfollowed := true, recurses := true, apart := false }
def TransOwnsSaid : Prop := transOwnsRow.holds Try.pinned (OpenSpec.ofChange transOwnsSpec)

/-- ITS FALSE NEIGHBOUR: 'it returns false'. Refute it at one input. -/
def transOwnsWrong : ChangeSpec := { name := "transOwns", fn := fun _ => fun
  | [d1, d2] => { results := [.lit (.bool false)], args := [d1, d2] }
  | _ => none }
def TransOwnsWrongFalsely : Prop := transOwnsRow.holds Try.pinned (OpenSpec.ofChange transOwnsWrong)

/-- 'transomlaw11.TransFlows': WHATEVER THE INPUT: true; the input reads as it did. -/
def transFlowsSpec : ChangeSpec := { name := "transFlows", fn := fun _ => fun
  | [d1, d2] => { results := [.lit (.bool true)], args := [d1, d2] }
  | _ => none }
def transFlowsRow : OpenClaim := { program := "ytopdgmjmpmkamaa", sum := "e3cdedb0ab210b94a7fcc7cef632c3abff5551993bc4031e505c447bc96099e2", func := "transom/transomlaw11.TransFlows", spec := "transFlows", inPlace := ["slices.overlaps[transom/api.Pair]"], unfollowed := true, recurses := true, apart := false }
def TransFlowsSaid : Prop := transFlowsRow.holds Try.pinned (OpenSpec.ofChange transFlowsSpec)

/-- ITS FALSE NEIGHBOUR: 'it returns false'. Refute it at one input. -/
def transFlowsWrong : ChangeSpec := { name := "transFlows", fn := fun _ => fun
  | [d1, d2] => { results := [.lit (.bool false)], args := [d1, d2] }
  | _ => none }
def TransFlowsWrongFalsely : Prop := transFlowsRow.holds Try.pinned (OpenSpec.ofChange transFlowsWrong)

/-- 'transomlaw11.TransMay': WHATEVER THE INPUT: true; the input reads as it did. -/
def transMaySpec : ChangeSpec := { name := "transMay", fn := fun _ => fun
  | [d1, d2] => { results := [.lit (.bool true)], args := [d1, d2] }
  | _ => none }
def transMayRow : OpenClaim := { program := "ytopdgmjmpmkamaa", sum := "e3cdedb0ab210b94a7fcc7cef632c3abff5551993bc4031e505c447bc96099e2", func := "transom/transomlaw11.TransMay", spec := "transMay", inPlace := ["slices.overlaps[transom/api.Pair]"], unfollowed := true, recurses := true, apart := false }
def TransMaySaid : Prop := transMayRow.holds Try.pinned (OpenSpec.ofChange transMaySpec)

/-- ITS FALSE NEIGHBOUR: 'it returns false'. Refute it at one input. -/
def transMayWrong : ChangeSpec := { name := "transMay", fn := fun _ => fun
  | [d1, d2] => { results := [.lit (.bool false)], args := [d1, d2] }
  | _ => none }
def TransMayWrongFalsely : Prop := transMayRow.holds Try.pinned (OpenSpec.ofChange transMayWrong)

/- THE SECOND FORM. 'bulk': how many values and letters a reading holds, each counted each time it is reached (what is shared counts as often as it is met; a slice's spare places count too). A statement '..UptoSaid' is the law's where the arguments, and the package variables that the reading takes, are together of bulk at most 1048576: NARROWER than '..Said'. Prove '..Said' where nothing that the law and all that it calls make is longer than what came in: it says more and counts as full. Else prove '..UptoSaid'. A law counts once. -/
mutual
def uptoBulk {H : Type} : DataW H → Nat
  | .lit (.string bytes) => bytes.length + 1
  | .lit _ => 1
  | .nil => 1
  | .ptr d => uptoBulk d + 1
  | .slice elems spare => uptoBulkAll elems + uptoBulkAll spare + 1
  | .agg parts => uptoBulkAll parts + 1
  | .iface _ d => uptoBulk d + 1
  | .map entries => uptoBulkEntries entries + 1
  | .held _ => 1
def uptoBulkAll {H : Type} : List (DataW H) → Nat
  | [] => 0
  | d :: r => uptoBulk d + uptoBulkAll r
def uptoBulkEntries {H : Type} : List (Lit × DataW H) → Nat
  | [] => 0
  | x :: r => uptoBulkEntry x + uptoBulkEntries r
def uptoBulkEntry {H : Type} : Lit × DataW H → Nat
  | (.string bytes, d) => bytes.length + uptoBulk d + 1
  | (_, d) => uptoBulk d + 1
 end
def uptoSmall : (H : Type) → List (DataW H) → Bool := fun _ ds => decide (uptoBulkAll ds ≤ 1048576)
def OpenSpec.upto (s : _root_.Go.ChangeSpec) : _root_.Go.OpenSpec := { _root_.Go.OpenSpec.ofChange s with cond := some uptoSmall }

/-- 'transomlaw11.TransAll', WHERE WHAT IT READS IS OF BULK AT MOST 1048576: true; the input reads as it did. -/
def transAllUptoRow : OpenClaim := { program := "ytopdgmjmpmkamaa", sum := "e3cdedb0ab210b94a7fcc7cef632c3abff5551993bc4031e505c447bc96099e2", func := "transom/transomlaw11.TransAll", spec := "transAll", inPlace := ["slices.overlaps[transom/api.Pair]"], unfollowed := true, recurses := true, apart := false, narrowed := true }
def TransAllUptoSaid : Prop := transAllUptoRow.holds Try.pinned (OpenSpec.upto transAllSpec)

/-- 'transomlaw11.TransBack', WHERE WHAT IT READS IS OF BULK AT MOST 1048576: true; the input reads as it did. -/
def transBackUptoRow : OpenClaim := { program := "ytopdgmjmpmkamaa", sum := "e3cdedb0ab210b94a7fcc7cef632c3abff5551993bc4031e505c447bc96099e2", func := "transom/transomlaw11.TransBack", spec := "transBack", inPlace := ["slices.overlaps[transom/api.Pair]"], unfollowed := true, recurses := true, apart := false, narrowed := true }
def TransBackUptoSaid : Prop := transBackUptoRow.holds Try.pinned (OpenSpec.upto transBackSpec)

/-- 'transomlaw11.TransForms', WHERE WHAT IT READS IS OF BULK AT MOST 1048576: true; the input reads as it did. -/
def transFormsUptoRow : OpenClaim := { program := "ytopdgmjmpmkamaa", sum := "e3cdedb0ab210b94a7fcc7cef632c3abff5551993bc4031e505c447bc96099e2", func := "transom/transomlaw11.TransForms", spec := "transForms", inPlace := ["slices.overlaps[transom/api.Pair]"], unfollowed := true, recurses := true, apart := false, narrowed := true }
def TransFormsUptoSaid : Prop := transFormsUptoRow.holds Try.pinned (OpenSpec.upto transFormsSpec)

/-- 'transomlaw11.TransOwns', WHERE WHAT IT READS IS OF BULK AT MOST 1048576: true; the input reads as it did. -/
def transOwnsUptoRow : OpenClaim := { program := "ytopdgmjmpmkamaa", sum := "e3cdedb0ab210b94a7fcc7cef632c3abff5551993bc4031e505c447bc96099e2", func := "transom/transomlaw11.TransOwns", spec := "transOwns", inPlace := ["slices.overlaps[transom/api.Pair]"], unfollowed := true, recurses := true, apart := false, narrowed := true }
def TransOwnsUptoSaid : Prop := transOwnsUptoRow.holds Try.pinned (OpenSpec.upto transOwnsSpec)

/-- 'transomlaw11.TransFlows', WHERE WHAT IT READS IS OF BULK AT MOST 1048576: true; the input reads as it did. -/
def transFlowsUptoRow : OpenClaim := { program := "ytopdgmjmpmkamaa", sum := "e3cdedb0ab210b94a7fcc7cef632c3abff5551993bc4031e505c447bc96099e2", func := "transom/transomlaw11.TransFlows", spec := "transFlows", inPlace := ["slices.overlaps[transom/api.Pair]"], unfollowed := true, recurses := true, apart := false, narrowed := true }
def TransFlowsUptoSaid : Prop := transFlowsUptoRow.holds Try.pinned (OpenSpec.upto transFlowsSpec)

/-- 'transomlaw11.TransMay', WHERE WHAT IT READS IS OF BULK AT MOST 1048576: true; the input reads as it did. -/
def transMayUptoRow : OpenClaim := { program := "ytopdgmjmpmkamaa", sum := "e3cdedb0ab210b94a7fcc7cef632c3abff5551993bc4031e505c447bc96099e2", func := "transom/transomlaw11.TransMay", spec := "transMay", inPlace := ["slices.overlaps[transom/api.Pair]"], unfollowed := true, recurses := true, apart := false, narrowed := true }
def TransMayUptoSaid : Prop := transMayUptoRow.holds Try.pinned (OpenSpec.upto transMaySpec)

end Rows
end Go.Proofs.Ytopdgmjmpmkamaa
