-- Printed by a program of this session (pp.sh: the kit's print.py, turned). Not trusted: Lean checks it.
import Derived.Test.YtfgndnackofenaaProg
import Derived.Below
import Derived.Deep.Draws
import Derived.Deep.AppendLies
import Derived.Maps.AppendAt
import Derived.OwnWalk
import Derived.Laws.BytesArg
import Derived.Laws.MakeOwn
import Derived.Laws.OwnMore
import Derived.Deep.OwnRows
import Derived.Tactics
import Derived.Lib.ConvBytes
import Derived.Laws.Slices
import Derived.WalkKit
import Derived.KernelRfl
import Derived.RowKit3
import Derived.Deep.LoopGhost
import Derived.Deep.QuietTactic
import Derived.BigQuiet
import Derived.WideLaws
import Derived.Deep.DeepCutAuto
import Derived.Deep.CutBlock
import Derived.Deep.RegionHeld3
import Derived.Laws.Rows
import Derived.Lib.AppendStr
import Derived.ArgAppend
import Derived.Laws.IdiomCopy
import Derived.OrdersHeld
import Derived.Laws.BitsLemmas
import Derived.RowKit
import Derived.Test.YtfgndnackofenaaWWords
import Derived.Test.YtfgndnackofenaaWLast
import Derived.Test.YtfgndnackofenaaWTab
import Derived.Test.YtfgndnackofenaaWFour
import Derived.Test.YtfgndnackofenaaWQPut
import Derived.Test.YtfgndnackofenaaWApart
import Derived.Test.YtfgndnackofenaaWArr
import Derived.Test.YtfgndnackofenaaWZeros
import Derived.Test.YtfgndnackofenaaWFoot
import Derived.Test.YtfgndnackofenaaWKept
import Derived.Test.YtfgndnackofenaaWShare
import Derived.Test.YtfgndnackofenaaWN
import Derived.Test.YtfgndnackofenaaWFootNe
import Derived.Test.YtfgndnackofenaaWAt
import Derived.Test.YtfgndnackofenaaWEqStruct
import Derived.Test.YtfgndnackofenaaWRepsOne
import Derived.Test.YtfgndnackofenaaWInv
import Derived.Test.YtfgndnackofenaaWInvWords
import Derived.Test.YtfgndnackofenaaWGuard
import Derived.Test.YtfgndnackofenaaWNEv
import Derived.Test.YtfgndnackofenaaWMore
import Derived.Test.YtfgndnackofenaaXJump
import Derived.Test.YtfgndnackofenaaXOpen
namespace Go.Proofs.Ytfgndnackofenaa.PN
open Go.RowKit Go.Proofs.YtfgndnackofenaaW.PrintWords Go.Proofs.YtfgndnackofenaaW.PrintLast Go.Proofs.YtfgndnackofenaaW.PrintMore
attribute [local go_sem] max2_int min2_int max_two min_two max_three min_three max_four min_four   -- for this text's walks alone
set_option linter.unusedVariables false
set_option linter.unusedSimpArgs false



def errW : Option Int → Value
 | none => .nilIface
 | some c => .iface 0 (.int .i64 c)
theorem errW_none : errW none = .nilIface := rfl
theorem errW_some (c : Int) : errW (some c) = .iface 0 (.int .i64 c) := rfl

theorem info3 : (Try.prog.info? 3).map (fun i => (i.zero, i.size, i.bytes)) = some (some (.int .i64 0), 1, 8) := by kernel_rfl
theorem info36 : (Try.prog.info? 36).map (fun i => (i.zero, i.size, i.bytes)) = some (some (.int .u64 0), 1, 8) := by kernel_rfl
-- the values' own types

end Go.Proofs.Ytfgndnackofenaa.PN
