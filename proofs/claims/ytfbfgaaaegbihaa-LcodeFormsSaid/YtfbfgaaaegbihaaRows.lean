/-
  No cell of these rows narrows 'for every input' (looked for: loops, veiled, ifaces, maps, wideKeys, modest, calm, conditions, laid).
  DERIVED. THE GIVEN ROWS OF THIS SEAT. 9 by the template 'for every input the law returns true; each argument reads behind the call as it read before'; 0 by the template 'total and deterministic' (their statements: YtfbfgaaaegbihaaTotals.lean).
  GIVEN WITH THE SEED: the statements are not yours to turn. If you find one false, say at which input.
  Laid BY PROGRAM, IN A SANDBOX (cutbox-rows.mjs): the forced cells as the released guide's own fill.sh prints them over the translation 94906bcc5a71b1d6… (all of the seat's roots in one cut). By AI agents, Wed Nov 11 2026. No macro, syntax, notation, axiom, sorry.
-/
import Derived.Test.YtfbfgaaaegbihaaChecked
import GoSem.Claim
import GoSem.ClaimJoined
import GoSem.ClaimMapViews
import Derived.JoinedTies
import Derived.KernelRfl
namespace Go.Proofs.Ytfbfgaaaegbihaa
/- THE CELL 'sum', in the pinned program and in every row, IS THE sha256 OF THE DUMP (.gsa) THAT YtfbfgaaaegbihaaProg.lean LOADS. Nothing in Lean hashes anything: it is a label: what it is worth is what the hold of that sum in a sandbox is worth. -/
noncomputable def Try.pinned : Pinned := { name := "ytfbfgaaaegbihaa", sum := "94906bcc5a71b1d613e0c83942941c9070f8ea3595e020bfee03c746485d46a2", checked := Try.checked }
namespace Rows
def none {H : Type} : Left H := { results := [], args := [] }

/-- 'transomlaw8.SetsAll': WHATEVER THE INPUT: true; the input reads as it did. -/
def setsAllSpec : ChangeSpec := { name := "setsAll", fn := fun _ => fun
  | [d1, d2, d3] => { results := [.lit (.bool true)], args := [d1, d2, d3] }
  | _ => none }
def setsAllRow : OpenClaim := { program := "ytfbfgaaaegbihaa", sum := "94906bcc5a71b1d613e0c83942941c9070f8ea3595e020bfee03c746485d46a2", func := "transom/transomlaw8.SetsAll", spec := "setsAll", unfollowed := true, recurses := true, apart := false }
def SetsAllSaid : Prop := setsAllRow.holds Try.pinned (OpenSpec.ofChange setsAllSpec)

/-- ITS FALSE NEIGHBOUR: 'it returns false'. Refute it at one input. -/
def setsAllWrong : ChangeSpec := { name := "setsAll", fn := fun _ => fun
  | [d1, d2, d3] => { results := [.lit (.bool false)], args := [d1, d2, d3] }
  | _ => none }
def SetsAllWrongFalsely : Prop := setsAllRow.holds Try.pinned (OpenSpec.ofChange setsAllWrong)

/-- 'transomlaw8.SetsOrder': WHATEVER THE INPUT: true; the input reads as it did. -/
def setsOrderSpec : ChangeSpec := { name := "setsOrder", fn := fun _ => fun
  | [d1, d2, d3] => { results := [.lit (.bool true)], args := [d1, d2, d3] }
  | _ => none }
def setsOrderRow : OpenClaim := { program := "ytfbfgaaaegbihaa", sum := "94906bcc5a71b1d613e0c83942941c9070f8ea3595e020bfee03c746485d46a2", func := "transom/transomlaw8.SetsOrder", spec := "setsOrder", unfollowed := true, recurses := true, apart := false }
def SetsOrderSaid : Prop := setsOrderRow.holds Try.pinned (OpenSpec.ofChange setsOrderSpec)

/-- ITS FALSE NEIGHBOUR: 'it returns false'. Refute it at one input. -/
def setsOrderWrong : ChangeSpec := { name := "setsOrder", fn := fun _ => fun
  | [d1, d2, d3] => { results := [.lit (.bool false)], args := [d1, d2, d3] }
  | _ => none }
def SetsOrderWrongFalsely : Prop := setsOrderRow.holds Try.pinned (OpenSpec.ofChange setsOrderWrong)

/-- 'transomlaw8.SetsOwns': WHATEVER THE INPUT: true; the input reads as it did. -/
def setsOwnsSpec : ChangeSpec := { name := "setsOwns", fn := fun _ => fun
  | [d1, d2, d3] => { results := [.lit (.bool true)], args := [d1, d2, d3] }
  | _ => none }
def setsOwnsRow : OpenClaim := { program := "ytfbfgaaaegbihaa", sum := "94906bcc5a71b1d613e0c83942941c9070f8ea3595e020bfee03c746485d46a2", func := "transom/transomlaw8.SetsOwns", spec := "setsOwns", unfollowed := true, recurses := true, apart := false }
def SetsOwnsSaid : Prop := setsOwnsRow.holds Try.pinned (OpenSpec.ofChange setsOwnsSpec)

/-- ITS FALSE NEIGHBOUR: 'it returns false'. Refute it at one input. -/
def setsOwnsWrong : ChangeSpec := { name := "setsOwns", fn := fun _ => fun
  | [d1, d2, d3] => { results := [.lit (.bool false)], args := [d1, d2, d3] }
  | _ => none }
def SetsOwnsWrongFalsely : Prop := setsOwnsRow.holds Try.pinned (OpenSpec.ofChange setsOwnsWrong)

/-- 'transomlaw8.SetsForms': WHATEVER THE INPUT: true; the input reads as it did. -/
def setsFormsSpec : ChangeSpec := { name := "setsForms", fn := fun _ => fun
  | [] => { results := [.lit (.bool true)], args := [] }
  | _ => none }
def setsFormsRow : OpenClaim := { program := "ytfbfgaaaegbihaa", sum := "94906bcc5a71b1d613e0c83942941c9070f8ea3595e020bfee03c746485d46a2", func := "transom/transomlaw8.SetsForms", spec := "setsForms", unfollowed := true, recurses := true, apart := false }
def SetsFormsSaid : Prop := setsFormsRow.holds Try.pinned (OpenSpec.ofChange setsFormsSpec)

/-- ITS FALSE NEIGHBOUR: 'it returns false'. Refute it at one input. -/
def setsFormsWrong : ChangeSpec := { name := "setsForms", fn := fun _ => fun
  | [] => { results := [.lit (.bool false)], args := [] }
  | _ => none }
def SetsFormsWrongFalsely : Prop := setsFormsRow.holds Try.pinned (OpenSpec.ofChange setsFormsWrong)

/-- 'transomlaw8.SetsMost': WHATEVER THE INPUT: true; the input reads as it did. -/
def setsMostSpec : ChangeSpec := { name := "setsMost", fn := fun _ => fun
  | [d1, d2, d3] => { results := [.lit (.bool true)], args := [d1, d2, d3] }
  | _ => none }
def setsMostRow : OpenClaim := { program := "ytfbfgaaaegbihaa", sum := "94906bcc5a71b1d613e0c83942941c9070f8ea3595e020bfee03c746485d46a2", func := "transom/transomlaw8.SetsMost", spec := "setsMost", unfollowed := true, recurses := true, apart := false }
def SetsMostSaid : Prop := setsMostRow.holds Try.pinned (OpenSpec.ofChange setsMostSpec)

/-- ITS FALSE NEIGHBOUR: 'it returns false'. Refute it at one input. -/
def setsMostWrong : ChangeSpec := { name := "setsMost", fn := fun _ => fun
  | [d1, d2, d3] => { results := [.lit (.bool false)], args := [d1, d2, d3] }
  | _ => none }
def SetsMostWrongFalsely : Prop := setsMostRow.holds Try.pinned (OpenSpec.ofChange setsMostWrong)

/-- 'transomlaw6.LcodeAll': WHATEVER THE INPUT: true; the input reads as it did. -/
def lcodeAllSpec : ChangeSpec := { name := "lcodeAll", fn := fun _ => fun
  | [d1, d2] => { results := [.lit (.bool true)], args := [d1, d2] }
  | _ => none }
def lcodeAllRow : OpenClaim := { program := "ytfbfgaaaegbihaa", sum := "94906bcc5a71b1d613e0c83942941c9070f8ea3595e020bfee03c746485d46a2", func := "transom/transomlaw6.LcodeAll", spec := "lcodeAll", apart := false }
def LcodeAllSaid : Prop := lcodeAllRow.holds Try.pinned (OpenSpec.ofChange lcodeAllSpec)

/-- ITS FALSE NEIGHBOUR: 'it returns false'. Refute it at one input. -/
def lcodeAllWrong : ChangeSpec := { name := "lcodeAll", fn := fun _ => fun
  | [d1, d2] => { results := [.lit (.bool false)], args := [d1, d2] }
  | _ => none }
def LcodeAllWrongFalsely : Prop := lcodeAllRow.holds Try.pinned (OpenSpec.ofChange lcodeAllWrong)

/-- 'transomlaw6.LcodeBack': WHATEVER THE INPUT: true; the input reads as it did. -/
def lcodeBackSpec : ChangeSpec := { name := "lcodeBack", fn := fun _ => fun
  | [d1, d2, d3, d4] => { results := [.lit (.bool true)], args := [d1, d2, d3, d4] }
  | _ => none }
def lcodeBackRow : OpenClaim := { program := "ytfbfgaaaegbihaa", sum := "94906bcc5a71b1d613e0c83942941c9070f8ea3595e020bfee03c746485d46a2", func := "transom/transomlaw6.LcodeBack", spec := "lcodeBack", apart := false }
def LcodeBackSaid : Prop := lcodeBackRow.holds Try.pinned (OpenSpec.ofChange lcodeBackSpec)

/-- ITS FALSE NEIGHBOUR: 'it returns false'. Refute it at one input. -/
def lcodeBackWrong : ChangeSpec := { name := "lcodeBack", fn := fun _ => fun
  | [d1, d2, d3, d4] => { results := [.lit (.bool false)], args := [d1, d2, d3, d4] }
  | _ => none }
def LcodeBackWrongFalsely : Prop := lcodeBackRow.holds Try.pinned (OpenSpec.ofChange lcodeBackWrong)

/-- 'transomlaw6.LcodeOne': WHATEVER THE INPUT: true; the input reads as it did. -/
def lcodeOneSpec : ChangeSpec := { name := "lcodeOne", fn := fun _ => fun
  | [d1, d2] => { results := [.lit (.bool true)], args := [d1, d2] }
  | _ => none }
def lcodeOneRow : OpenClaim := { program := "ytfbfgaaaegbihaa", sum := "94906bcc5a71b1d613e0c83942941c9070f8ea3595e020bfee03c746485d46a2", func := "transom/transomlaw6.LcodeOne", spec := "lcodeOne", apart := false }
def LcodeOneSaid : Prop := lcodeOneRow.holds Try.pinned (OpenSpec.ofChange lcodeOneSpec)

/-- ITS FALSE NEIGHBOUR: 'it returns false'. Refute it at one input. -/
def lcodeOneWrong : ChangeSpec := { name := "lcodeOne", fn := fun _ => fun
  | [d1, d2] => { results := [.lit (.bool false)], args := [d1, d2] }
  | _ => none }
def LcodeOneWrongFalsely : Prop := lcodeOneRow.holds Try.pinned (OpenSpec.ofChange lcodeOneWrong)

/-- 'transomlaw6.LcodeForms': WHATEVER THE INPUT: true; the input reads as it did. -/
def lcodeFormsSpec : ChangeSpec := { name := "lcodeForms", fn := fun _ => fun
  | [] => { results := [.lit (.bool true)], args := [] }
  | _ => none }
def lcodeFormsRow : OpenClaim := { program := "ytfbfgaaaegbihaa", sum := "94906bcc5a71b1d613e0c83942941c9070f8ea3595e020bfee03c746485d46a2", func := "transom/transomlaw6.LcodeForms", spec := "lcodeForms", apart := false }
def LcodeFormsSaid : Prop := lcodeFormsRow.holds Try.pinned (OpenSpec.ofChange lcodeFormsSpec)

/-- ITS FALSE NEIGHBOUR: 'it returns false'. Refute it at one input. -/
def lcodeFormsWrong : ChangeSpec := { name := "lcodeForms", fn := fun _ => fun
  | [] => { results := [.lit (.bool false)], args := [] }
  | _ => none }
def LcodeFormsWrongFalsely : Prop := lcodeFormsRow.holds Try.pinned (OpenSpec.ofChange lcodeFormsWrong)

/- THE SECOND FORM. 'bulk': how many values and letters a reading holds, each counted each time it is reached (what is shared counts as often as it is met; a slice's spare places count too). A statement '..UptoSaid' is the law's where the arguments, and the package variables that the reading takes, are together of bulk at most 1048576: NARROWER than '..Said'. Prove '..Said' where nothing that the law and all that it calls make is longer than what came in: it says more and counts as full. Else prove '..UptoSaid'. A law counts once. -/
mutual
def uptoBulk {H : Type} : DataW H → Nat
  | .lit (.string bytes) => bytes.length + 1
  | .lit _ => 1
  | .nil => 1
  | .ptr d => uptoBulk d + 1
  | .slice elems spare => uptoBulkAll elems + uptoBulkAll spare + 1
  | .agg parts => uptoBulkAll parts + 1
  | .iface _ d => uptoBulk d + 1
  | .map entries => uptoBulkEntries entries + 1
  | .held _ => 1
def uptoBulkAll {H : Type} : List (DataW H) → Nat
  | [] => 0
  | d :: r => uptoBulk d + uptoBulkAll r
def uptoBulkEntries {H : Type} : List (Lit × DataW H) → Nat
  | [] => 0
  | x :: r => uptoBulkEntry x + uptoBulkEntries r
def uptoBulkEntry {H : Type} : Lit × DataW H → Nat
  | (.string bytes, d) => bytes.length + uptoBulk d + 1
  | (_, d) => uptoBulk d + 1
 end
def uptoSmall : (H : Type) → List (DataW H) → Bool := fun _ ds => decide (uptoBulkAll ds ≤ 1048576)
def OpenSpec.upto (s : _root_.Go.ChangeSpec) : _root_.Go.OpenSpec := { _root_.Go.OpenSpec.ofChange s with cond := some uptoSmall }

/-- 'transomlaw8.SetsAll', WHERE WHAT IT READS IS OF BULK AT MOST 1048576: true; the input reads as it did. -/
def setsAllUptoRow : OpenClaim := { program := "ytfbfgaaaegbihaa", sum := "94906bcc5a71b1d613e0c83942941c9070f8ea3595e020bfee03c746485d46a2", func := "transom/transomlaw8.SetsAll", spec := "setsAll", unfollowed := true, recurses := true, apart := false, narrowed := true }
def SetsAllUptoSaid : Prop := setsAllUptoRow.holds Try.pinned (OpenSpec.upto setsAllSpec)

/-- 'transomlaw8.SetsOrder', WHERE WHAT IT READS IS OF BULK AT MOST 1048576: true; the input reads as it did. -/
def setsOrderUptoRow : OpenClaim := { program := "ytfbfgaaaegbihaa", sum := "94906bcc5a71b1d613e0c83942941c9070f8ea3595e020bfee03c746485d46a2", func := "transom/transomlaw8.SetsOrder", spec := "setsOrder", unfollowed := true, recurses := true, apart := false, narrowed := true }
def SetsOrderUptoSaid : Prop := setsOrderUptoRow.holds Try.pinned (OpenSpec.upto setsOrderSpec)

/-- 'transomlaw8.SetsOwns', WHERE WHAT IT READS IS OF BULK AT MOST 1048576: true; the input reads as it did. -/
def setsOwnsUptoRow : OpenClaim := { program := "ytfbfgaaaegbihaa", sum := "94906bcc5a71b1d613e0c83942941c9070f8ea3595e020bfee03c746485d46a2", func := "transom/transomlaw8.SetsOwns", spec := "setsOwns", unfollowed := true, recurses := true, apart := false, narrowed := true }
def SetsOwnsUptoSaid : Prop := setsOwnsUptoRow.holds Try.pinned (OpenSpec.upto setsOwnsSpec)

/-- 'transomlaw8.SetsForms', WHERE WHAT IT READS IS OF BULK AT MOST 1048576: true; the input reads as it did. -/
def setsFormsUptoRow : OpenClaim := { program := "ytfbfgaaaegbihaa", sum := "94906bcc5a71b1d613e0c83942941c9070f8ea3595e020bfee03c746485d46a2", func := "transom/transomlaw8.SetsForms", spec := "setsForms", unfollowed := true, recurses := true, apart := false, narrowed := true }
def SetsFormsUptoSaid : Prop := setsFormsUptoRow.holds Try.pinned (OpenSpec.upto setsFormsSpec)

/-- 'transomlaw8.SetsMost', WHERE WHAT IT READS IS OF BULK AT MOST 1048576: true; the input reads as it did. -/
def setsMostUptoRow : OpenClaim := { program := "ytfbfgaaaegbihaa", sum := "94906bcc5a71b1d613e0c83942941c9070f8ea3595e020bfee03c746485d46a2", func := "transom/transomlaw8.SetsMost", spec := "setsMost", unfollowed := true, recurses := true, apart := false, narrowed := true }
def SetsMostUptoSaid : Prop := setsMostUptoRow.holds Try.pinned (OpenSpec.upto setsMostSpec)

/-- 'transomlaw6.LcodeAll', WHERE WHAT IT READS IS OF BULK AT MOST 1048576: true; the input reads as it did. -/
def lcodeAllUptoRow : OpenClaim := { program := "ytfbfgaaaegbihaa", sum := "94906bcc5a71b1d613e0c83942941c9070f8ea3595e020bfee03c746485d46a2", func := "transom/transomlaw6.LcodeAll", spec := "lcodeAll", apart := false, narrowed := true }
def LcodeAllUptoSaid : Prop := lcodeAllUptoRow.holds Try.pinned (OpenSpec.upto lcodeAllSpec)

/-- 'transomlaw6.LcodeBack', WHERE WHAT IT READS IS OF BULK AT MOST 1048576: true; the input reads as it did. -/
def lcodeBackUptoRow : OpenClaim := { program := "ytfbfgaaaegbihaa", sum := "94906bcc5a71b1d613e0c83942941c9070f8ea3595e020bfee03c746485d46a2", func := "transom/transomlaw6.LcodeBack", spec := "lcodeBack", apart := false, narrowed := true }
def LcodeBackUptoSaid : Prop := lcodeBackUptoRow.holds Try.pinned (OpenSpec.upto lcodeBackSpec)

/-- 'transomlaw6.LcodeOne', WHERE WHAT IT READS IS OF BULK AT MOST 1048576: true; the input reads as it did. -/
def lcodeOneUptoRow : OpenClaim := { program := "ytfbfgaaaegbihaa", sum := "94906bcc5a71b1d613e0c83942941c9070f8ea3595e020bfee03c746485d46a2", func := "transom/transomlaw6.LcodeOne", spec := "lcodeOne", apart := false, narrowed := true }
def LcodeOneUptoSaid : Prop := lcodeOneUptoRow.holds Try.pinned (OpenSpec.upto lcodeOneSpec)

/-- 'transomlaw6.LcodeForms', WHERE WHAT IT READS IS OF BULK AT MOST 1048576: true; the input reads as it did. -/
def lcodeFormsUptoRow : OpenClaim := { program := "ytfbfgaaaegbihaa", sum := "94906bcc5a71b1d613e0c83942941c9070f8ea3595e020bfee03c746485d46a2", func := "transom/transomlaw6.LcodeForms", spec := "lcodeForms", apart := false, narrowed := true }
def LcodeFormsUptoSaid : Prop := lcodeFormsUptoRow.holds Try.pinned (OpenSpec.upto lcodeFormsSpec)

end Rows
end Go.Proofs.Ytfbfgaaaegbihaa
