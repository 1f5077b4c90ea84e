/-
  No cell of these rows narrows 'for every input' (looked for: loops, veiled, ifaces, maps, wideKeys, modest, calm, conditions, laid).
  DERIVED. THE GIVEN ROWS OF THIS SEAT. 12 by the template 'for every input the law returns true; each argument reads behind the call as it read before'; 0 by the template 'total and deterministic' (their statements: YtfgndnackofenaaTotals.lean).
  GIVEN WITH THE SEED: the statements are not yours to turn. If you find one false, say at which input.
  Laid BY PROGRAM, IN A SANDBOX (cutbox-rows.mjs): the forced cells as the released guide's own fill.sh prints them over the translation 95dba29935cf9b98… (all of the seat's roots in one cut). By AI agents, Wed Nov 11 2026. No macro, syntax, notation, axiom, sorry.
-/
import Derived.Test.YtfgndnackofenaaChecked
import GoSem.Claim
import GoSem.ClaimJoined
import GoSem.ClaimMapViews
import Derived.JoinedTies
import Derived.KernelRfl
namespace Go.Proofs.Ytfgndnackofenaa
/- THE CELL 'sum', in the pinned program and in every row, IS THE sha256 OF THE DUMP (.gsa) THAT YtfgndnackofenaaProg.lean LOADS. Nothing in Lean hashes anything: it is a label: what it is worth is what the hold of that sum in a sandbox is worth. -/
noncomputable def Try.pinned : Pinned := { name := "ytfgndnackofenaa", sum := "95dba29935cf9b983e70179df7764b635b15c1f6074d1908d812ee9a9b518219", checked := Try.checked }
namespace Rows
def none {H : Type} : Left H := { results := [], args := [] }

/-- 'transomlaw10.May2All': WHATEVER THE INPUT: true; the input reads as it did. -/
def may2AllSpec : ChangeSpec := { name := "may2All", fn := fun _ => fun
  | [d1, d2] => { results := [.lit (.bool true)], args := [d1, d2] }
  | _ => none }
def may2AllRow : OpenClaim := { program := "ytfgndnackofenaa", sum := "95dba29935cf9b983e70179df7764b635b15c1f6074d1908d812ee9a9b518219", func := "transom/transomlaw10.May2All", spec := "may2All", unfollowed := true, recurses := true, apart := false }
def May2AllSaid : Prop := may2AllRow.holds Try.pinned (OpenSpec.ofChange may2AllSpec)

/-- ITS FALSE NEIGHBOUR: 'it returns false'. Refute it at one input. -/
def may2AllWrong : ChangeSpec := { name := "may2All", fn := fun _ => fun
  | [d1, d2] => { results := [.lit (.bool false)], args := [d1, d2] }
  | _ => none }
def May2AllWrongFalsely : Prop := may2AllRow.holds Try.pinned (OpenSpec.ofChange may2AllWrong)

/-- 'transomlaw10.May2Rule': WHATEVER THE INPUT: true; the input reads as it did. -/
def may2RuleSpec : ChangeSpec := { name := "may2Rule", fn := fun _ => fun
  | [d1, d2, d3] => { results := [.lit (.bool true)], args := [d1, d2, d3] }
  | _ => none }
def may2RuleRow : OpenClaim := { program := "ytfgndnackofenaa", sum := "95dba29935cf9b983e70179df7764b635b15c1f6074d1908d812ee9a9b518219", func := "transom/transomlaw10.May2Rule", spec := "may2Rule", unfollowed := true, recurses := true, apart := false }
def May2RuleSaid : Prop := may2RuleRow.holds Try.pinned (OpenSpec.ofChange may2RuleSpec)

/-- ITS FALSE NEIGHBOUR: 'it returns false'. Refute it at one input. -/
def may2RuleWrong : ChangeSpec := { name := "may2Rule", fn := fun _ => fun
  | [d1, d2, d3] => { results := [.lit (.bool false)], args := [d1, d2, d3] }
  | _ => none }
def May2RuleWrongFalsely : Prop := may2RuleRow.holds Try.pinned (OpenSpec.ofChange may2RuleWrong)

/-- 'transomlaw10.May2Owns': WHATEVER THE INPUT: true; the input reads as it did. -/
def may2OwnsSpec : ChangeSpec := { name := "may2Owns", fn := fun _ => fun
  | [d1, d2, d3] => { results := [.lit (.bool true)], args := [d1, d2, d3] }
  | _ => none }
def may2OwnsRow : OpenClaim := { program := "ytfgndnackofenaa", sum := "95dba29935cf9b983e70179df7764b635b15c1f6074d1908d812ee9a9b518219", func := "transom/transomlaw10.May2Owns", spec := "may2Owns", unfollowed := true, recurses := true, apart := false }
def May2OwnsSaid : Prop := may2OwnsRow.holds Try.pinned (OpenSpec.ofChange may2OwnsSpec)

/-- ITS FALSE NEIGHBOUR: 'it returns false'. Refute it at one input. -/
def may2OwnsWrong : ChangeSpec := { name := "may2Owns", fn := fun _ => fun
  | [d1, d2, d3] => { results := [.lit (.bool false)], args := [d1, d2, d3] }
  | _ => none }
def May2OwnsWrongFalsely : Prop := may2OwnsRow.holds Try.pinned (OpenSpec.ofChange may2OwnsWrong)

/-- 'transomlaw10.May2Rises': WHATEVER THE INPUT: true; the input reads as it did. -/
def may2RisesSpec : ChangeSpec := { name := "may2Rises", fn := fun _ => fun
  | [d1, d2, d3] => { results := [.lit (.bool true)], args := [d1, d2, d3] }
  | _ => none }
def may2RisesRow : OpenClaim := { program := "ytfgndnackofenaa", sum := "95dba29935cf9b983e70179df7764b635b15c1f6074d1908d812ee9a9b518219", func := "transom/transomlaw10.May2Rises", spec := "may2Rises", unfollowed := true, recurses := true, apart := false }
def May2RisesSaid : Prop := may2RisesRow.holds Try.pinned (OpenSpec.ofChange may2RisesSpec)

/-- ITS FALSE NEIGHBOUR: 'it returns false'. Refute it at one input. -/
def may2RisesWrong : ChangeSpec := { name := "may2Rises", fn := fun _ => fun
  | [d1, d2, d3] => { results := [.lit (.bool false)], args := [d1, d2, d3] }
  | _ => none }
def May2RisesWrongFalsely : Prop := may2RisesRow.holds Try.pinned (OpenSpec.ofChange may2RisesWrong)

/-- 'transomlaw10.May2Forms': WHATEVER THE INPUT: true; the input reads as it did. -/
def may2FormsSpec : ChangeSpec := { name := "may2Forms", fn := fun _ => fun
  | [] => { results := [.lit (.bool true)], args := [] }
  | _ => none }
def may2FormsRow : OpenClaim := { program := "ytfgndnackofenaa", sum := "95dba29935cf9b983e70179df7764b635b15c1f6074d1908d812ee9a9b518219", func := "transom/transomlaw10.May2Forms", spec := "may2Forms", unfollowed := true, recurses := true, apart := false }
def May2FormsSaid : Prop := may2FormsRow.holds Try.pinned (OpenSpec.ofChange may2FormsSpec)

/-- ITS FALSE NEIGHBOUR: 'it returns false'. Refute it at one input. -/
def may2FormsWrong : ChangeSpec := { name := "may2Forms", fn := fun _ => fun
  | [] => { results := [.lit (.bool false)], args := [] }
  | _ => none }
def May2FormsWrongFalsely : Prop := may2FormsRow.holds Try.pinned (OpenSpec.ofChange may2FormsWrong)

/-- 'transomlaw27.MorphAll': WHATEVER THE INPUT: true; the input reads as it did. -/
def morphAllSpec : ChangeSpec := { name := "morphAll", fn := fun _ => fun
  | [d1, d2] => { results := [.lit (.bool true)], args := [d1, d2] }
  | _ => none }
def morphAllRow : OpenClaim := { program := "ytfgndnackofenaa", sum := "95dba29935cf9b983e70179df7764b635b15c1f6074d1908d812ee9a9b518219", func := "transom/transomlaw27.MorphAll", spec := "morphAll", apart := false }
def MorphAllSaid : Prop := morphAllRow.holds Try.pinned (OpenSpec.ofChange morphAllSpec)

/-- ITS FALSE NEIGHBOUR: 'it returns false'. Refute it at one input. -/
def morphAllWrong : ChangeSpec := { name := "morphAll", fn := fun _ => fun
  | [d1, d2] => { results := [.lit (.bool false)], args := [d1, d2] }
  | _ => none }
def MorphAllWrongFalsely : Prop := morphAllRow.holds Try.pinned (OpenSpec.ofChange morphAllWrong)

/-- 'transomlaw27.MorphKeeps': WHATEVER THE INPUT: true; the input reads as it did. -/
def morphKeepsSpec : ChangeSpec := { name := "morphKeeps", fn := fun _ => fun
  | [d] => { results := [.lit (.bool true)], args := [d] }
  | _ => none }
def morphKeepsRow : OpenClaim := { program := "ytfgndnackofenaa", sum := "95dba29935cf9b983e70179df7764b635b15c1f6074d1908d812ee9a9b518219", func := "transom/transomlaw27.MorphKeeps", spec := "morphKeeps", apart := false }
def MorphKeepsSaid : Prop := morphKeepsRow.holds Try.pinned (OpenSpec.ofChange morphKeepsSpec)

/-- ITS FALSE NEIGHBOUR: 'it returns false'. Refute it at one input. -/
def morphKeepsWrong : ChangeSpec := { name := "morphKeeps", fn := fun _ => fun
  | [d] => { results := [.lit (.bool false)], args := [d] }
  | _ => none }
def MorphKeepsWrongFalsely : Prop := morphKeepsRow.holds Try.pinned (OpenSpec.ofChange morphKeepsWrong)

/-- 'transomlaw27.MorphForms': WHATEVER THE INPUT: true; the input reads as it did. -/
def morphFormsSpec : ChangeSpec := { name := "morphForms", fn := fun _ => fun
  | [] => { results := [.lit (.bool true)], args := [] }
  | _ => none }
def morphFormsRow : OpenClaim := { program := "ytfgndnackofenaa", sum := "95dba29935cf9b983e70179df7764b635b15c1f6074d1908d812ee9a9b518219", func := "transom/transomlaw27.MorphForms", spec := "morphForms", apart := false }
def MorphFormsSaid : Prop := morphFormsRow.holds Try.pinned (OpenSpec.ofChange morphFormsSpec)

/-- ITS FALSE NEIGHBOUR: 'it returns false'. Refute it at one input. -/
def morphFormsWrong : ChangeSpec := { name := "morphForms", fn := fun _ => fun
  | [] => { results := [.lit (.bool false)], args := [] }
  | _ => none }
def MorphFormsWrongFalsely : Prop := morphFormsRow.holds Try.pinned (OpenSpec.ofChange morphFormsWrong)

/-- 'transomlaw14.NameAll': WHATEVER THE INPUT: true; the input reads as it did. -/
def nameAllSpec : ChangeSpec := { name := "nameAll", fn := fun _ => fun
  | [d1, d2, d3] => { results := [.lit (.bool true)], args := [d1, d2, d3] }
  | _ => none }
def nameAllRow : OpenClaim := { program := "ytfgndnackofenaa", sum := "95dba29935cf9b983e70179df7764b635b15c1f6074d1908d812ee9a9b518219", func := "transom/transomlaw14.NameAll", spec := "nameAll", apart := false }
def NameAllSaid : Prop := nameAllRow.holds Try.pinned (OpenSpec.ofChange nameAllSpec)

/-- ITS FALSE NEIGHBOUR: 'it returns false'. Refute it at one input. -/
def nameAllWrong : ChangeSpec := { name := "nameAll", fn := fun _ => fun
  | [d1, d2, d3] => { results := [.lit (.bool false)], args := [d1, d2, d3] }
  | _ => none }
def NameAllWrongFalsely : Prop := nameAllRow.holds Try.pinned (OpenSpec.ofChange nameAllWrong)

/-- 'transomlaw14.NameDown': WHATEVER THE INPUT: true; the input reads as it did. -/
def nameDownSpec : ChangeSpec := { name := "nameDown", fn := fun _ => fun
  | [d] => { results := [.lit (.bool true)], args := [d] }
  | _ => none }
def nameDownRow : OpenClaim := { program := "ytfgndnackofenaa", sum := "95dba29935cf9b983e70179df7764b635b15c1f6074d1908d812ee9a9b518219", func := "transom/transomlaw14.NameDown", spec := "nameDown", apart := false }
def NameDownSaid : Prop := nameDownRow.holds Try.pinned (OpenSpec.ofChange nameDownSpec)

/-- ITS FALSE NEIGHBOUR: 'it returns false'. Refute it at one input. -/
def nameDownWrong : ChangeSpec := { name := "nameDown", fn := fun _ => fun
  | [d] => { results := [.lit (.bool false)], args := [d] }
  | _ => none }
def NameDownWrongFalsely : Prop := nameDownRow.holds Try.pinned (OpenSpec.ofChange nameDownWrong)

/-- 'transomlaw14.NameForms': WHATEVER THE INPUT: true; the input reads as it did. -/
def nameFormsSpec : ChangeSpec := { name := "nameForms", fn := fun _ => fun
  | [] => { results := [.lit (.bool true)], args := [] }
  | _ => none }
def nameFormsRow : OpenClaim := { program := "ytfgndnackofenaa", sum := "95dba29935cf9b983e70179df7764b635b15c1f6074d1908d812ee9a9b518219", func := "transom/transomlaw14.NameForms", spec := "nameForms", apart := false }
def NameFormsSaid : Prop := nameFormsRow.holds Try.pinned (OpenSpec.ofChange nameFormsSpec)

/-- ITS FALSE NEIGHBOUR: 'it returns false'. Refute it at one input. -/
def nameFormsWrong : ChangeSpec := { name := "nameForms", fn := fun _ => fun
  | [] => { results := [.lit (.bool false)], args := [] }
  | _ => none }
def NameFormsWrongFalsely : Prop := nameFormsRow.holds Try.pinned (OpenSpec.ofChange nameFormsWrong)

/-- 'transomlaw14.NameWithin': WHATEVER THE INPUT: true; the input reads as it did. -/
def nameWithinSpec : ChangeSpec := { name := "nameWithin", fn := fun _ => fun
  | [d1, d2, d3] => { results := [.lit (.bool true)], args := [d1, d2, d3] }
  | _ => none }
def nameWithinRow : OpenClaim := { program := "ytfgndnackofenaa", sum := "95dba29935cf9b983e70179df7764b635b15c1f6074d1908d812ee9a9b518219", func := "transom/transomlaw14.NameWithin", spec := "nameWithin", apart := false }
def NameWithinSaid : Prop := nameWithinRow.holds Try.pinned (OpenSpec.ofChange nameWithinSpec)

/-- ITS FALSE NEIGHBOUR: 'it returns false'. Refute it at one input. -/
def nameWithinWrong : ChangeSpec := { name := "nameWithin", fn := fun _ => fun
  | [d1, d2, d3] => { results := [.lit (.bool false)], args := [d1, d2, d3] }
  | _ => none }
def NameWithinWrongFalsely : Prop := nameWithinRow.holds Try.pinned (OpenSpec.ofChange nameWithinWrong)

/- THE SECOND FORM. 'bulk': how many values and letters a reading holds, each counted each time it is reached (what is shared counts as often as it is met; a slice's spare places count too). A statement '..UptoSaid' is the law's where the arguments, and the package variables that the reading takes, are together of bulk at most 1048576: NARROWER than '..Said'. Prove '..Said' where nothing that the law and all that it calls make is longer than what came in: it says more and counts as full. Else prove '..UptoSaid'. A law counts once. -/
mutual
def uptoBulk {H : Type} : DataW H → Nat
  | .lit (.string bytes) => bytes.length + 1
  | .lit _ => 1
  | .nil => 1
  | .ptr d => uptoBulk d + 1
  | .slice elems spare => uptoBulkAll elems + uptoBulkAll spare + 1
  | .agg parts => uptoBulkAll parts + 1
  | .iface _ d => uptoBulk d + 1
  | .map entries => uptoBulkEntries entries + 1
  | .held _ => 1
def uptoBulkAll {H : Type} : List (DataW H) → Nat
  | [] => 0
  | d :: r => uptoBulk d + uptoBulkAll r
def uptoBulkEntries {H : Type} : List (Lit × DataW H) → Nat
  | [] => 0
  | x :: r => uptoBulkEntry x + uptoBulkEntries r
def uptoBulkEntry {H : Type} : Lit × DataW H → Nat
  | (.string bytes, d) => bytes.length + uptoBulk d + 1
  | (_, d) => uptoBulk d + 1
 end
def uptoSmall : (H : Type) → List (DataW H) → Bool := fun _ ds => decide (uptoBulkAll ds ≤ 1048576)
def OpenSpec.upto (s : _root_.Go.ChangeSpec) : _root_.Go.OpenSpec := { _root_.Go.OpenSpec.ofChange s with cond := some uptoSmall }

/-- 'transomlaw10.May2All', WHERE WHAT IT READS IS OF BULK AT MOST 1048576: true; the input reads as it did. -/
def may2AllUptoRow : OpenClaim := { program := "ytfgndnackofenaa", sum := "95dba29935cf9b983e70179df7764b635b15c1f6074d1908d812ee9a9b518219", func := "transom/transomlaw10.May2All", spec := "may2All", unfollowed := true, recurses := true, apart := false, narrowed := true }
def May2AllUptoSaid : Prop := may2AllUptoRow.holds Try.pinned (OpenSpec.upto may2AllSpec)

/-- 'transomlaw10.May2Rule', WHERE WHAT IT READS IS OF BULK AT MOST 1048576: true; the input reads as it did. -/
def may2RuleUptoRow : OpenClaim := { program := "ytfgndnackofenaa", sum := "95dba29935cf9b983e70179df7764b635b15c1f6074d1908d812ee9a9b518219", func := "transom/transomlaw10.May2Rule", spec := "may2Rule", unfollowed := true, recurses := true, apart := false, narrowed := true }
def May2RuleUptoSaid : Prop := may2RuleUptoRow.holds Try.pinned (OpenSpec.upto may2RuleSpec)

/-- 'transomlaw10.May2Owns', WHERE WHAT IT READS IS OF BULK AT MOST 1048576: true; the input reads as it did. -/
def may2OwnsUptoRow : OpenClaim := { program := "ytfgndnackofenaa", sum := "95dba29935cf9b983e70179df7764b635b15c1f6074d1908d812ee9a9b518219", func := "transom/transomlaw10.May2Owns", spec := "may2Owns", unfollowed := true, recurses := true, apart := false, narrowed := true }
def May2OwnsUptoSaid : Prop := may2OwnsUptoRow.holds Try.pinned (OpenSpec.upto may2OwnsSpec)

/-- 'transomlaw10.May2Rises', WHERE WHAT IT READS IS OF BULK AT MOST 1048576: true; the input reads as it did. -/
def may2RisesUptoRow : OpenClaim := { program := "ytfgndnackofenaa", sum := "95dba29935cf9b983e70179df7764b635b15c1f6074d1908d812ee9a9b518219", func := "transom/transomlaw10.May2Rises", spec := "may2Rises", unfollowed := true, recurses := true, apart := false, narrowed := true }
def May2RisesUptoSaid : Prop := may2RisesUptoRow.holds Try.pinned (OpenSpec.upto may2RisesSpec)

/-- 'transomlaw10.May2Forms', WHERE WHAT IT READS IS OF BULK AT MOST 1048576: true; the input reads as it did. -/
def may2FormsUptoRow : OpenClaim := { program := "ytfgndnackofenaa", sum := "95dba29935cf9b983e70179df7764b635b15c1f6074d1908d812ee9a9b518219", func := "transom/transomlaw10.May2Forms", spec := "may2Forms", unfollowed := true, recurses := true, apart := false, narrowed := true }
def May2FormsUptoSaid : Prop := may2FormsUptoRow.holds Try.pinned (OpenSpec.upto may2FormsSpec)

/-- 'transomlaw27.MorphAll', WHERE WHAT IT READS IS OF BULK AT MOST 1048576: true; the input reads as it did. -/
def morphAllUptoRow : OpenClaim := { program := "ytfgndnackofenaa", sum := "95dba29935cf9b983e70179df7764b635b15c1f6074d1908d812ee9a9b518219", func := "transom/transomlaw27.MorphAll", spec := "morphAll", apart := false, narrowed := true }
def MorphAllUptoSaid : Prop := morphAllUptoRow.holds Try.pinned (OpenSpec.upto morphAllSpec)

/-- 'transomlaw27.MorphKeeps', WHERE WHAT IT READS IS OF BULK AT MOST 1048576: true; the input reads as it did. -/
def morphKeepsUptoRow : OpenClaim := { program := "ytfgndnackofenaa", sum := "95dba29935cf9b983e70179df7764b635b15c1f6074d1908d812ee9a9b518219", func := "transom/transomlaw27.MorphKeeps", spec := "morphKeeps", apart := false, narrowed := true }
def MorphKeepsUptoSaid : Prop := morphKeepsUptoRow.holds Try.pinned (OpenSpec.upto morphKeepsSpec)

/-- 'transomlaw27.MorphForms', WHERE WHAT IT READS IS OF BULK AT MOST 1048576: true; the input reads as it did. -/
def morphFormsUptoRow : OpenClaim := { program := "ytfgndnackofenaa", sum := "95dba29935cf9b983e70179df7764b635b15c1f6074d1908d812ee9a9b518219", func := "transom/transomlaw27.MorphForms", spec := "morphForms", apart := false, narrowed := true }
def MorphFormsUptoSaid : Prop := morphFormsUptoRow.holds Try.pinned (OpenSpec.upto morphFormsSpec)

/-- 'transomlaw14.NameAll', WHERE WHAT IT READS IS OF BULK AT MOST 1048576: true; the input reads as it did. -/
def nameAllUptoRow : OpenClaim := { program := "ytfgndnackofenaa", sum := "95dba29935cf9b983e70179df7764b635b15c1f6074d1908d812ee9a9b518219", func := "transom/transomlaw14.NameAll", spec := "nameAll", apart := false, narrowed := true }
def NameAllUptoSaid : Prop := nameAllUptoRow.holds Try.pinned (OpenSpec.upto nameAllSpec)

/-- 'transomlaw14.NameDown', WHERE WHAT IT READS IS OF BULK AT MOST 1048576: true; the input reads as it did. -/
def nameDownUptoRow : OpenClaim := { program := "ytfgndnackofenaa", sum := "95dba29935cf9b983e70179df7764b635b15c1f6074d1908d812ee9a9b518219", func := "transom/transomlaw14.NameDown", spec := "nameDown", apart := false, narrowed := true }
def NameDownUptoSaid : Prop := nameDownUptoRow.holds Try.pinned (OpenSpec.upto nameDownSpec)

/-- 'transomlaw14.NameForms', WHERE WHAT IT READS IS OF BULK AT MOST 1048576: true; the input reads as it did. -/
def nameFormsUptoRow : OpenClaim := { program := "ytfgndnackofenaa", sum := "95dba29935cf9b983e70179df7764b635b15c1f6074d1908d812ee9a9b518219", func := "transom/transomlaw14.NameForms", spec := "nameForms", apart := false, narrowed := true }
def NameFormsUptoSaid : Prop := nameFormsUptoRow.holds Try.pinned (OpenSpec.upto nameFormsSpec)

/-- 'transomlaw14.NameWithin', WHERE WHAT IT READS IS OF BULK AT MOST 1048576: true; the input reads as it did. -/
def nameWithinUptoRow : OpenClaim := { program := "ytfgndnackofenaa", sum := "95dba29935cf9b983e70179df7764b635b15c1f6074d1908d812ee9a9b518219", func := "transom/transomlaw14.NameWithin", spec := "nameWithin", apart := false, narrowed := true }
def NameWithinUptoSaid : Prop := nameWithinUptoRow.holds Try.pinned (OpenSpec.upto nameWithinSpec)

end Rows
end Go.Proofs.Ytfgndnackofenaa
