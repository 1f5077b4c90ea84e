/-
  No cell of these rows narrows 'for every input' (looked for: loops, veiled, ifaces, maps, wideKeys, modest, calm, conditions, laid).
  DERIVED. THE GIVEN ROWS OF THIS SEAT. 6 by the template 'for every input the law returns true; each argument reads behind the call as it read before'; 0 by the template 'total and deterministic' (their statements: YtondgjphjnlllaaTotals.lean).
  GIVEN WITH THE SEED: the statements are not yours to turn. If you find one false, say at which input.
  Laid BY PROGRAM, IN A SANDBOX (cutbox-rows.mjs): the forced cells as the released guide's own fill.sh prints them over the translation 8511169749699570… (all of the seat's roots in one cut). By AI agents, Wed Nov 11 2026. No macro, syntax, notation, axiom, sorry.
-/
import Derived.Test.YtondgjphjnlllaaChecked
import GoSem.Claim
import GoSem.ClaimJoined
import GoSem.ClaimMapViews
import Derived.JoinedTies
import Derived.KernelRfl
namespace Go.Proofs.Ytondgjphjnlllaa
/- THE CELL 'sum', in the pinned program and in every row, IS THE sha256 OF THE DUMP (.gsa) THAT YtondgjphjnlllaaProg.lean LOADS. Nothing in Lean hashes anything: it is a label: what it is worth is what the hold of that sum in a sandbox is worth. -/
noncomputable def Try.pinned : Pinned := { name := "ytondgjphjnlllaa", sum := "85111697496995700ebbfe59a74d82a3e051a546b487a8578401ac94d4463ee2", checked := Try.checked }
namespace Rows
def none {H : Type} : Left H := { results := [], args := [] }

/-- 'transomlaw7.May1All': WHATEVER THE INPUT: true; the input reads as it did. -/
def may1AllSpec : ChangeSpec := { name := "may1All", fn := fun _ => fun
  | [d1, d2] => { results := [.lit (.bool true)], args := [d1, d2] }
  | _ => none }
def may1AllRow : OpenClaim := { program := "ytondgjphjnlllaa", sum := "85111697496995700ebbfe59a74d82a3e051a546b487a8578401ac94d4463ee2", func := "transom/transomlaw7.May1All", spec := "may1All", unfollowed := true, recurses := true, apart := false }
def May1AllSaid : Prop := may1AllRow.holds Try.pinned (OpenSpec.ofChange may1AllSpec)

/-- ITS FALSE NEIGHBOUR: 'it returns false'. Refute it at one input. -/
def may1AllWrong : ChangeSpec := { name := "may1All", fn := fun _ => fun
  | [d1, d2] => { results := [.lit (.bool false)], args := [d1, d2] }
  | _ => none }
def May1AllWrongFalsely : Prop := may1AllRow.holds Try.pinned (OpenSpec.ofChange may1AllWrong)

/-- 'transomlaw7.May1Flows': WHATEVER THE INPUT: true; the input reads as it did. -/
def may1FlowsSpec : ChangeSpec := { name := "may1Flows", fn := fun _ => fun
  | [d1, d2, d3, d4] => { results := [.lit (.bool true)], args := [d1, d2, d3, d4] }
  | _ => none }
def may1FlowsRow : OpenClaim := { program := "ytondgjphjnlllaa", sum := "85111697496995700ebbfe59a74d82a3e051a546b487a8578401ac94d4463ee2", func := "transom/transomlaw7.May1Flows", spec := "may1Flows", unfollowed := true, recurses := true, apart := false }
def May1FlowsSaid : Prop := may1FlowsRow.holds Try.pinned (OpenSpec.ofChange may1FlowsSpec)

/-- ITS FALSE NEIGHBOUR: 'it returns false'. Refute it at one input. -/
def may1FlowsWrong : ChangeSpec := { name := "may1Flows", fn := fun _ => fun
  | [d1, d2, d3, d4] => { results := [.lit (.bool false)], args := [d1, d2, d3, d4] }
  | _ => none }
def May1FlowsWrongFalsely : Prop := may1FlowsRow.holds Try.pinned (OpenSpec.ofChange may1FlowsWrong)

/-- 'transomlaw7.May1Rises': WHATEVER THE INPUT: true; the input reads as it did. -/
def may1RisesSpec : ChangeSpec := { name := "may1Rises", fn := fun _ => fun
  | [d1, d2, d3] => { results := [.lit (.bool true)], args := [d1, d2, d3] }
  | _ => none }
def may1RisesRow : OpenClaim := { program := "ytondgjphjnlllaa", sum := "85111697496995700ebbfe59a74d82a3e051a546b487a8578401ac94d4463ee2", func := "transom/transomlaw7.May1Rises", spec := "may1Rises", unfollowed := true, recurses := true, apart := false }
def May1RisesSaid : Prop := may1RisesRow.holds Try.pinned (OpenSpec.ofChange may1RisesSpec)

/-- ITS FALSE NEIGHBOUR: 'it returns false'. Refute it at one input. -/
def may1RisesWrong : ChangeSpec := { name := "may1Rises", fn := fun _ => fun
  | [d1, d2, d3] => { results := [.lit (.bool false)], args := [d1, d2, d3] }
  | _ => none }
def May1RisesWrongFalsely : Prop := may1RisesRow.holds Try.pinned (OpenSpec.ofChange may1RisesWrong)

/-- 'transomlaw7.May1Stars': WHATEVER THE INPUT: true; the input reads as it did. -/
def may1StarsSpec : ChangeSpec := { name := "may1Stars", fn := fun _ => fun
  | [d1, d2, d3, d4] => { results := [.lit (.bool true)], args := [d1, d2, d3, d4] }
  | _ => none }
def may1StarsRow : OpenClaim := { program := "ytondgjphjnlllaa", sum := "85111697496995700ebbfe59a74d82a3e051a546b487a8578401ac94d4463ee2", func := "transom/transomlaw7.May1Stars", spec := "may1Stars", unfollowed := true, recurses := true, apart := false }
def May1StarsSaid : Prop := may1StarsRow.holds Try.pinned (OpenSpec.ofChange may1StarsSpec)

/-- ITS FALSE NEIGHBOUR: 'it returns false'. Refute it at one input. -/
def may1StarsWrong : ChangeSpec := { name := "may1Stars", fn := fun _ => fun
  | [d1, d2, d3, d4] => { results := [.lit (.bool false)], args := [d1, d2, d3, d4] }
  | _ => none }
def May1StarsWrongFalsely : Prop := may1StarsRow.holds Try.pinned (OpenSpec.ofChange may1StarsWrong)

/-- 'transomlaw7.May1Made': WHATEVER THE INPUT: true; the input reads as it did. -/
def may1MadeSpec : ChangeSpec := { name := "may1Made", fn := fun _ => fun
  | [d1, d2] => { results := [.lit (.bool true)], args := [d1, d2] }
  | _ => none }
def may1MadeRow : OpenClaim := { program := "ytondgjphjnlllaa", sum := "85111697496995700ebbfe59a74d82a3e051a546b487a8578401ac94d4463ee2", func := "transom/transomlaw7.May1Made", spec := "may1Made", unfollowed := true, recurses := true, apart := false }
def May1MadeSaid : Prop := may1MadeRow.holds Try.pinned (OpenSpec.ofChange may1MadeSpec)

/-- ITS FALSE NEIGHBOUR: 'it returns false'. Refute it at one input. -/
def may1MadeWrong : ChangeSpec := { name := "may1Made", fn := fun _ => fun
  | [d1, d2] => { results := [.lit (.bool false)], args := [d1, d2] }
  | _ => none }
def May1MadeWrongFalsely : Prop := may1MadeRow.holds Try.pinned (OpenSpec.ofChange may1MadeWrong)

/-- 'transomlaw7.May1Forms': WHATEVER THE INPUT: true; the input reads as it did. -/
def may1FormsSpec : ChangeSpec := { name := "may1Forms", fn := fun _ => fun
  | [] => { results := [.lit (.bool true)], args := [] }
  | _ => none }
def may1FormsRow : OpenClaim := { program := "ytondgjphjnlllaa", sum := "85111697496995700ebbfe59a74d82a3e051a546b487a8578401ac94d4463ee2", func := "transom/transomlaw7.May1Forms", spec := "may1Forms", unfollowed := true, recurses := true, apart := false }
def May1FormsSaid : Prop := may1FormsRow.holds Try.pinned (OpenSpec.ofChange may1FormsSpec)

/-- ITS FALSE NEIGHBOUR: 'it returns false'. Refute it at one input. -/
def may1FormsWrong : ChangeSpec := { name := "may1Forms", fn := fun _ => fun
  | [] => { results := [.lit (.bool false)], args := [] }
  | _ => none }
def May1FormsWrongFalsely : Prop := may1FormsRow.holds Try.pinned (OpenSpec.ofChange may1FormsWrong)

/- THE SECOND FORM. 'bulk': how many values and letters a reading holds, each counted each time it is reached (what is shared counts as often as it is met; a slice's spare places count too). A statement '..UptoSaid' is the law's where the arguments, and the package variables that the reading takes, are together of bulk at most 1048576: NARROWER than '..Said'. Prove '..Said' where nothing that the law and all that it calls make is longer than what came in: it says more and counts as full. Else prove '..UptoSaid'. A law counts once. -/
mutual
def uptoBulk {H : Type} : DataW H → Nat
  | .lit (.string bytes) => bytes.length + 1
  | .lit _ => 1
  | .nil => 1
  | .ptr d => uptoBulk d + 1
  | .slice elems spare => uptoBulkAll elems + uptoBulkAll spare + 1
  | .agg parts => uptoBulkAll parts + 1
  | .iface _ d => uptoBulk d + 1
  | .map entries => uptoBulkEntries entries + 1
  | .held _ => 1
def uptoBulkAll {H : Type} : List (DataW H) → Nat
  | [] => 0
  | d :: r => uptoBulk d + uptoBulkAll r
def uptoBulkEntries {H : Type} : List (Lit × DataW H) → Nat
  | [] => 0
  | x :: r => uptoBulkEntry x + uptoBulkEntries r
def uptoBulkEntry {H : Type} : Lit × DataW H → Nat
  | (.string bytes, d) => bytes.length + uptoBulk d + 1
  | (_, d) => uptoBulk d + 1
 end
def uptoSmall : (H : Type) → List (DataW H) → Bool := fun _ ds => decide (uptoBulkAll ds ≤ 1048576)
def OpenSpec.upto (s : _root_.Go.ChangeSpec) : _root_.Go.OpenSpec := { _root_.Go.OpenSpec.ofChange s with cond := some uptoSmall }

/-- 'transomlaw7.May1All', WHERE WHAT IT READS IS OF BULK AT MOST 1048576: true; the input reads as it did. -/
def may1AllUptoRow : OpenClaim := { program := "ytondgjphjnlllaa", sum := "85111697496995700ebbfe59a74d82a3e051a546b487a8578401ac94d4463ee2", func := "transom/transomlaw7.May1All", spec := "may1All", unfollowed := true, recurses := true, apart := false, narrowed := true }
def May1AllUptoSaid : Prop := may1AllUptoRow.holds Try.pinned (OpenSpec.upto may1AllSpec)

/-- 'transomlaw7.May1Flows', WHERE WHAT IT READS IS OF BULK AT MOST 1048576: true; the input reads as it did. -/
def may1FlowsUptoRow : OpenClaim := { program := "ytondgjphjnlllaa", sum := "85111697496995700ebbfe59a74d82a3e051a546b487a8578401ac94d4463ee2", func := "transom/transomlaw7.May1Flows", spec := "may1Flows", unfollowed := true, recurses := true, apart := false, narrowed := true }
def May1FlowsUptoSaid : Prop := may1FlowsUptoRow.holds Try.pinned (OpenSpec.upto may1FlowsSpec)

/-- 'transomlaw7.May1Rises', WHERE WHAT IT READS IS OF BULK AT MOST 1048576: true; the input reads as it did. -/
def may1RisesUptoRow : OpenClaim := { program := "ytondgjphjnlllaa", sum := "85111697496995700ebbfe59a74d82a3e051a546b487a8578401ac94d4463ee2", func := "transom/transomlaw7.May1Rises", spec := "may1Rises", unfollowed := true, recurses := true, apart := false, narrowed := true }
def May1RisesUptoSaid : Prop := may1RisesUptoRow.holds Try.pinned (OpenSpec.upto may1RisesSpec)

/-- 'transomlaw7.May1Stars', WHERE WHAT IT READS IS OF BULK AT MOST 1048576: true; the input reads as it did. -/
def may1StarsUptoRow : OpenClaim := { program := "ytondgjphjnlllaa", sum := "85111697496995700ebbfe59a74d82a3e051a546b487a8578401ac94d4463ee2", func := "transom/transomlaw7.May1Stars", spec := "may1Stars", unfollowed := true, recurses := true, apart := false, narrowed := true }
def May1StarsUptoSaid : Prop := may1StarsUptoRow.holds Try.pinned (OpenSpec.upto may1StarsSpec)

/-- 'transomlaw7.May1Made', WHERE WHAT IT READS IS OF BULK AT MOST 1048576: true; the input reads as it did. -/
def may1MadeUptoRow : OpenClaim := { program := "ytondgjphjnlllaa", sum := "85111697496995700ebbfe59a74d82a3e051a546b487a8578401ac94d4463ee2", func := "transom/transomlaw7.May1Made", spec := "may1Made", unfollowed := true, recurses := true, apart := false, narrowed := true }
def May1MadeUptoSaid : Prop := may1MadeUptoRow.holds Try.pinned (OpenSpec.upto may1MadeSpec)

/-- 'transomlaw7.May1Forms', WHERE WHAT IT READS IS OF BULK AT MOST 1048576: true; the input reads as it did. -/
def may1FormsUptoRow : OpenClaim := { program := "ytondgjphjnlllaa", sum := "85111697496995700ebbfe59a74d82a3e051a546b487a8578401ac94d4463ee2", func := "transom/transomlaw7.May1Forms", spec := "may1Forms", unfollowed := true, recurses := true, apart := false, narrowed := true }
def May1FormsUptoSaid : Prop := may1FormsUptoRow.holds Try.pinned (OpenSpec.upto may1FormsSpec)

end Rows
end Go.Proofs.Ytondgjphjnlllaa
