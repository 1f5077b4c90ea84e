/-
  No cell of these rows narrows 'for every input' (looked for: loops, veiled, ifaces, maps, wideKeys, modest, calm, conditions, laid).
  DERIVED. THE GIVEN ROWS OF THIS SEAT. 6 by the template 'for every input the law returns true; each argument reads behind the call as it read before'; 0 by the template 'total and deterministic' (their statements: YtennaclkbpngfaaTotals.lean).
  GIVEN WITH THE SEED: the statements are not yours to turn. If you find one false, say at which input.
  Laid BY PROGRAM, IN A SANDBOX (cutbox-rows.mjs): the forced cells as the released guide's own fill.sh prints them over the translation 241fe775c43df077… (all of the seat's roots in one cut). By AI agents, Wed Nov 11 2026. No macro, syntax, notation, axiom, sorry.
-/
import Derived.Test.YtennaclkbpngfaaChecked
import GoSem.Claim
import GoSem.ClaimJoined
import GoSem.ClaimMapViews
import Derived.JoinedTies
import Derived.KernelRfl
namespace Go.Proofs.Ytennaclkbpngfaa
/- THE CELL 'sum', in the pinned program and in every row, IS THE sha256 OF THE DUMP (.gsa) THAT YtennaclkbpngfaaProg.lean LOADS. Nothing in Lean hashes anything: it is a label: what it is worth is what the hold of that sum in a sandbox is worth. -/
noncomputable def Try.pinned : Pinned := { name := "ytennaclkbpngfaa", sum := "241fe775c43df07701424a1238c276cb91996ecdfae7c5424352dd22b9c7414a", checked := Try.checked }
namespace Rows
def none {H : Type} : Left H := { results := [], args := [] }

/-- 'transomlaw2.PlaneLine': WHATEVER THE INPUT: true; the input reads as it did. -/
def planeLineSpec : ChangeSpec := { name := "planeLine", fn := fun _ => fun
  | [] => { results := [.lit (.bool true)], args := [] }
  | _ => none }
def planeLineRow : OpenClaim := { program := "ytennaclkbpngfaa", sum := "241fe775c43df07701424a1238c276cb91996ecdfae7c5424352dd22b9c7414a", func := "transom/transomlaw2.PlaneLine", spec := "planeLine", apart := false }
def PlaneLineSaid : Prop := planeLineRow.holds Try.pinned (OpenSpec.ofChange planeLineSpec)

/-- ITS FALSE NEIGHBOUR: 'it returns false'. Refute it at one input. -/
def planeLineWrong : ChangeSpec := { name := "planeLine", fn := fun _ => fun
  | [] => { results := [.lit (.bool false)], args := [] }
  | _ => none }
def PlaneLineWrongFalsely : Prop := planeLineRow.holds Try.pinned (OpenSpec.ofChange planeLineWrong)

/-- 'transomlaw2.PlaneLattice': WHATEVER THE INPUT: true; the input reads as it did. -/
def planeLatticeSpec : ChangeSpec := { name := "planeLattice", fn := fun _ => fun
  | [d1, d2, d3] => { results := [.lit (.bool true)], args := [d1, d2, d3] }
  | _ => none }
def planeLatticeRow : OpenClaim := { program := "ytennaclkbpngfaa", sum := "241fe775c43df07701424a1238c276cb91996ecdfae7c5424352dd22b9c7414a", func := "transom/transomlaw2.PlaneLattice", spec := "planeLattice", apart := false }
def PlaneLatticeSaid : Prop := planeLatticeRow.holds Try.pinned (OpenSpec.ofChange planeLatticeSpec)

/-- ITS FALSE NEIGHBOUR: 'it returns false'. Refute it at one input. -/
def planeLatticeWrong : ChangeSpec := { name := "planeLattice", fn := fun _ => fun
  | [d1, d2, d3] => { results := [.lit (.bool false)], args := [d1, d2, d3] }
  | _ => none }
def PlaneLatticeWrongFalsely : Prop := planeLatticeRow.holds Try.pinned (OpenSpec.ofChange planeLatticeWrong)

/-- 'transomlaw2.PlaneStrange': WHATEVER THE INPUT: true; the input reads as it did. -/
def planeStrangeSpec : ChangeSpec := { name := "planeStrange", fn := fun _ => fun
  | [] => { results := [.lit (.bool true)], args := [] }
  | _ => none }
def planeStrangeRow : OpenClaim := { program := "ytennaclkbpngfaa", sum := "241fe775c43df07701424a1238c276cb91996ecdfae7c5424352dd22b9c7414a", func := "transom/transomlaw2.PlaneStrange", spec := "planeStrange", inPlace := ["math.Float64frombits", "math.Float64bits"], apart := false }
def PlaneStrangeSaid : Prop := planeStrangeRow.holds Try.pinned (OpenSpec.ofChange planeStrangeSpec)

/-- ITS FALSE NEIGHBOUR: 'it returns false'. Refute it at one input. -/
def planeStrangeWrong : ChangeSpec := { name := "planeStrange", fn := fun _ => fun
  | [] => { results := [.lit (.bool false)], args := [] }
  | _ => none }
def PlaneStrangeWrongFalsely : Prop := planeStrangeRow.holds Try.pinned (OpenSpec.ofChange planeStrangeWrong)

/-- 'transomlaw3.LevelAll': WHATEVER THE INPUT: true; the input reads as it did. -/
def levelAllSpec : ChangeSpec := { name := "levelAll", fn := fun _ => fun
  | [d1, d2] => { results := [.lit (.bool true)], args := [d1, d2] }
  | _ => none }
def levelAllRow : OpenClaim := { program := "ytennaclkbpngfaa", sum := "241fe775c43df07701424a1238c276cb91996ecdfae7c5424352dd22b9c7414a", func := "transom/transomlaw3.LevelAll", spec := "levelAll", apart := false }
def LevelAllSaid : Prop := levelAllRow.holds Try.pinned (OpenSpec.ofChange levelAllSpec)

/-- ITS FALSE NEIGHBOUR: 'it returns false'. Refute it at one input. -/
def levelAllWrong : ChangeSpec := { name := "levelAll", fn := fun _ => fun
  | [d1, d2] => { results := [.lit (.bool false)], args := [d1, d2] }
  | _ => none }
def LevelAllWrongFalsely : Prop := levelAllRow.holds Try.pinned (OpenSpec.ofChange levelAllWrong)

/-- 'transomlaw3.LevelPoints': WHATEVER THE INPUT: true; the input reads as it did. -/
def levelPointsSpec : ChangeSpec := { name := "levelPoints", fn := fun _ => fun
  | [] => { results := [.lit (.bool true)], args := [] }
  | _ => none }
def levelPointsRow : OpenClaim := { program := "ytennaclkbpngfaa", sum := "241fe775c43df07701424a1238c276cb91996ecdfae7c5424352dd22b9c7414a", func := "transom/transomlaw3.LevelPoints", spec := "levelPoints", apart := false }
def LevelPointsSaid : Prop := levelPointsRow.holds Try.pinned (OpenSpec.ofChange levelPointsSpec)

/-- ITS FALSE NEIGHBOUR: 'it returns false'. Refute it at one input. -/
def levelPointsWrong : ChangeSpec := { name := "levelPoints", fn := fun _ => fun
  | [] => { results := [.lit (.bool false)], args := [] }
  | _ => none }
def LevelPointsWrongFalsely : Prop := levelPointsRow.holds Try.pinned (OpenSpec.ofChange levelPointsWrong)

/-- 'transomlaw3.LevelRises': WHATEVER THE INPUT: true; the input reads as it did. -/
def levelRisesSpec : ChangeSpec := { name := "levelRises", fn := fun _ => fun
  | [] => { results := [.lit (.bool true)], args := [] }
  | _ => none }
def levelRisesRow : OpenClaim := { program := "ytennaclkbpngfaa", sum := "241fe775c43df07701424a1238c276cb91996ecdfae7c5424352dd22b9c7414a", func := "transom/transomlaw3.LevelRises", spec := "levelRises", apart := false }
def LevelRisesSaid : Prop := levelRisesRow.holds Try.pinned (OpenSpec.ofChange levelRisesSpec)

/-- ITS FALSE NEIGHBOUR: 'it returns false'. Refute it at one input. -/
def levelRisesWrong : ChangeSpec := { name := "levelRises", fn := fun _ => fun
  | [] => { results := [.lit (.bool false)], args := [] }
  | _ => none }
def LevelRisesWrongFalsely : Prop := levelRisesRow.holds Try.pinned (OpenSpec.ofChange levelRisesWrong)

/- THE SECOND FORM. 'bulk': how many values and letters a reading holds, each counted each time it is reached (what is shared counts as often as it is met; a slice's spare places count too). A statement '..UptoSaid' is the law's where the arguments, and the package variables that the reading takes, are together of bulk at most 1048576: NARROWER than '..Said'. Prove '..Said' where nothing that the law and all that it calls make is longer than what came in: it says more and counts as full. Else prove '..UptoSaid'. A law counts once. -/
mutual
def uptoBulk {H : Type} : DataW H → Nat
  | .lit (.string bytes) => bytes.length + 1
  | .lit _ => 1
  | .nil => 1
  | .ptr d => uptoBulk d + 1
  | .slice elems spare => uptoBulkAll elems + uptoBulkAll spare + 1
  | .agg parts => uptoBulkAll parts + 1
  | .iface _ d => uptoBulk d + 1
  | .map entries => uptoBulkEntries entries + 1
  | .held _ => 1
def uptoBulkAll {H : Type} : List (DataW H) → Nat
  | [] => 0
  | d :: r => uptoBulk d + uptoBulkAll r
def uptoBulkEntries {H : Type} : List (Lit × DataW H) → Nat
  | [] => 0
  | x :: r => uptoBulkEntry x + uptoBulkEntries r
def uptoBulkEntry {H : Type} : Lit × DataW H → Nat
  | (.string bytes, d) => bytes.length + uptoBulk d + 1
  | (_, d) => uptoBulk d + 1
 end
def uptoSmall : (H : Type) → List (DataW H) → Bool := fun _ ds => decide (uptoBulkAll ds ≤ 1048576)
def OpenSpec.upto (s : _root_.Go.ChangeSpec) : _root_.Go.OpenSpec := { _root_.Go.OpenSpec.ofChange s with cond := some uptoSmall }

/-- 'transomlaw2.PlaneLine', WHERE WHAT IT READS IS OF BULK AT MOST 1048576: true; the input reads as it did. -/
def planeLineUptoRow : OpenClaim := { program := "ytennaclkbpngfaa", sum := "241fe775c43df07701424a1238c276cb91996ecdfae7c5424352dd22b9c7414a", func := "transom/transomlaw2.PlaneLine", spec := "planeLine", apart := false, narrowed := true }
def PlaneLineUptoSaid : Prop := planeLineUptoRow.holds Try.pinned (OpenSpec.upto planeLineSpec)

/-- 'transomlaw2.PlaneLattice', WHERE WHAT IT READS IS OF BULK AT MOST 1048576: true; the input reads as it did. -/
def planeLatticeUptoRow : OpenClaim := { program := "ytennaclkbpngfaa", sum := "241fe775c43df07701424a1238c276cb91996ecdfae7c5424352dd22b9c7414a", func := "transom/transomlaw2.PlaneLattice", spec := "planeLattice", apart := false, narrowed := true }
def PlaneLatticeUptoSaid : Prop := planeLatticeUptoRow.holds Try.pinned (OpenSpec.upto planeLatticeSpec)

/-- 'transomlaw2.PlaneStrange', WHERE WHAT IT READS IS OF BULK AT MOST 1048576: true; the input reads as it did. -/
def planeStrangeUptoRow : OpenClaim := { program := "ytennaclkbpngfaa", sum := "241fe775c43df07701424a1238c276cb91996ecdfae7c5424352dd22b9c7414a", func := "transom/transomlaw2.PlaneStrange", spec := "planeStrange", inPlace := ["math.Float64frombits", "math.Float64bits"], apart := false, narrowed := true }
def PlaneStrangeUptoSaid : Prop := planeStrangeUptoRow.holds Try.pinned (OpenSpec.upto planeStrangeSpec)

/-- 'transomlaw3.LevelAll', WHERE WHAT IT READS IS OF BULK AT MOST 1048576: true; the input reads as it did. -/
def levelAllUptoRow : OpenClaim := { program := "ytennaclkbpngfaa", sum := "241fe775c43df07701424a1238c276cb91996ecdfae7c5424352dd22b9c7414a", func := "transom/transomlaw3.LevelAll", spec := "levelAll", apart := false, narrowed := true }
def LevelAllUptoSaid : Prop := levelAllUptoRow.holds Try.pinned (OpenSpec.upto levelAllSpec)

/-- 'transomlaw3.LevelPoints', WHERE WHAT IT READS IS OF BULK AT MOST 1048576: true; the input reads as it did. -/
def levelPointsUptoRow : OpenClaim := { program := "ytennaclkbpngfaa", sum := "241fe775c43df07701424a1238c276cb91996ecdfae7c5424352dd22b9c7414a", func := "transom/transomlaw3.LevelPoints", spec := "levelPoints", apart := false, narrowed := true }
def LevelPointsUptoSaid : Prop := levelPointsUptoRow.holds Try.pinned (OpenSpec.upto levelPointsSpec)

/-- 'transomlaw3.LevelRises', WHERE WHAT IT READS IS OF BULK AT MOST 1048576: true; the input reads as it did. -/
def levelRisesUptoRow : OpenClaim := { program := "ytennaclkbpngfaa", sum := "241fe775c43df07701424a1238c276cb91996ecdfae7c5424352dd22b9c7414a", func := "transom/transomlaw3.LevelRises", spec := "levelRises", apart := false, narrowed := true }
def LevelRisesUptoSaid : Prop := levelRisesUptoRow.holds Try.pinned (OpenSpec.upto levelRisesSpec)

end Rows
end Go.Proofs.Ytennaclkbpngfaa
