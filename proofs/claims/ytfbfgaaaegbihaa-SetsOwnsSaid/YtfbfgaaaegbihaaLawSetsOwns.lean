-- Printed by a program of this session (pp.sh: the kit's print.py, turned). Not trusted: Lean checks it.
import Derived.Test.YtfbfgaaaegbihaaRows
import Derived.Test.YtfbfgaaaegbihaaQK24
import Derived.Test.YtfbfgaaaegbihaaPAx13
import Derived.Test.YtfbfgaaaegbihaaPureSetsOwns
import Derived.Test.YtfbfgaaaegbihaaXOpen
import Derived.WalkKit
import Derived.ProofKit
import Derived.OpenShut
import Derived.ShutString
import Derived.ChangeOld
import Derived.Below
import Derived.SizedLaws
namespace Go.Proofs.Ytfbfgaaaegbihaa.setsOwns
open Go.ChangeShapes Go.WideShapes Go.ChangeAt Go.RowKit Go.Proofs.YtfbfgaaaegbihaaW.PrintWords Go.Proofs.Ytfbfgaaaegbihaa.PA
set_option linter.unusedVariables false
theorem own : ownKnob Try.prog.godebug = none := by kernel_rfl
theorem laidOut : laidOutB Try.prog = true := by kernel_rfl
theorem opn24 : Go.Proofs.YtfbfgaaaegbihaaW.PJ.Opn Try.prog 24 k24 (fun x => ((x.f0.length ≤ maxLen ∧ x.f0.length * 2 ≤ 140737488351232 ∧ ∀ z0 ∈ x.f0, (Lit.int .u16 z0).wf = true) ∧ (x.f1.length ≤ maxLen ∧ x.f1.length * 2 ≤ 140737488351232 ∧ ∀ z0 ∈ x.f1, (Lit.int .u16 z0).wf = true) ∧ (x.f2.length ≤ maxLen ∧ x.f2.length * 2 ≤ 140737488351232 ∧ ∀ z0 ∈ x.f2, (Lit.int .u16 z0).wf = true))) :=
  Go.Proofs.YtfbfgaaaegbihaaW.PJ.opn_iso (α := S24) (fun x => (x.f0, x.f1, x.f2)) (fun p => ⟨p.1, p.2.1, p.2.2⟩) (fun _ => rfl) (Go.Proofs.YtfbfgaaaegbihaaW.PJ.opn_struct Try.underlying24 (by kernel_rfl) (Go.Proofs.YtfbfgaaaegbihaaW.PJ.opnFs_cons rfl (by kernel_rfl) rfl (Go.Proofs.YtfbfgaaaegbihaaW.PJ.opn_slice (B := 2) Try.underlying22 (by kernel_rfl) (by kernel_rfl) (Go.Proofs.YtfbfgaaaegbihaaW.PJ.opn_int Try.underlying25)) (Go.Proofs.YtfbfgaaaegbihaaW.PJ.opnFs_cons rfl (by kernel_rfl) rfl (Go.Proofs.YtfbfgaaaegbihaaW.PJ.opn_slice (B := 2) Try.underlying22 (by kernel_rfl) (by kernel_rfl) (Go.Proofs.YtfbfgaaaegbihaaW.PJ.opn_int Try.underlying25)) (Go.Proofs.YtfbfgaaaegbihaaW.PJ.opnFs_one rfl (by kernel_rfl) (Go.Proofs.YtfbfgaaaegbihaaW.PJ.opn_slice (B := 2) Try.underlying22 (by kernel_rfl) (by kernel_rfl) (Go.Proofs.YtfbfgaaaegbihaaW.PJ.opn_int Try.underlying25))))))
set_option maxRecDepth 100000 in
theorem lifted (os : Os) (started : os.Started) (H : Type) (enc : TypeId × Value → H) :
    ReturnsInHanded {} Try.checked os 5 .any (Rows.setsOwnsSpec.pre6 enc Try.prog Try.f5 Rows.setsOwnsRow.domain false) (Rows.setsOwnsSpec.post enc Try.prog Try.f5 false true false false) := by
  refine returnsInHanded_of_change_sized (C := Try.checked) own started (by kernel_rfl) Try.func5
    (ChangeSpec.witness6 (enc := enc) (C := Try.checked) false ⟨#[], #[.agg #[.slice none 0 0, .slice none 0 0, .slice none 0 0], .int .u16 0, .int .u16 0], []⟩ 12 (by kernel_rfl) (by kernel_rfl) (by kernel_rfl) (by kernel_rfl)) ?_
  intro W base args ds gs before hval0 hW hcnd hsz0 _
  have hsz : (DataW.weightsEach Try.prog (Try.f5.params.toList ++ Rows.setsOwnsSpec.plain.varTypes Try.prog) (ds ++ gs)).all (· ≤ reachBytes) = true := hsz0
  have hval : ∀ (j : Nat) t v, Try.f5.params[j]? = some t → args[j]? = some v → Value.okWide Try.prog W .any base t v := hval0
  have hW' := hW
  obtain ⟨p, q, hA0, hV, rfl, hfz, hnd⟩ := hW
  have hA : DataW.TrodAll enc Try.prog W 0 (fun _ => true) true Try.f5.params.toList args.toList ds p := hA0
  rw [Try.params5] at hA hval hsz
  obtain ⟨v0, vs0, d0, ds0, p0, q0, hargs, rfl, rfl, h0, r0⟩ := trodAll_cons hA
  obtain ⟨v1, vs1, d1, ds1, p1, q1, rfl, rfl, rfl, h1, r1⟩ := trodAll_cons r0
  obtain ⟨v2, vs2, d2, ds2, p2, q2, rfl, rfl, rfl, h2, r2⟩ := trodAll_cons r1
  obtain ⟨rfl, rfl, rfl⟩ := trodAll_nil r2
  obtain rfl : args = #[v0, v1, v2] := by cases args; simp_all
  obtain ⟨rfl, rfl⟩ := trodVars_none hV
  obtain ⟨cs0, rfl, hz0⟩ := okWide_struct Try.underlying24 (hval 0 24 v0 rfl rfl)
  have k0 := h0
  have lt0 : ∀ x ∈ p0, x.block < W.heap.size := by obtain ⟨m, hm⟩ := k0; exact DataW.trod_lt m _ _ _ hm
  obtain ⟨x0, hK0, hw0⟩ : ∃ x, k24.K W x cs0.toList ∧ ((x.f0.length ≤ maxLen ∧ x.f0.length * 2 ≤ 140737488351232 ∧ ∀ z0 ∈ x.f0, (Lit.int .u16 z0).wf = true) ∧ (x.f1.length ≤ maxLen ∧ x.f1.length * 2 ≤ 140737488351232 ∧ ∀ z0 ∈ x.f1, (Lit.int .u16 z0).wf = true) ∧ (x.f2.length ≤ maxLen ∧ x.f2.length * 2 ≤ 140737488351232 ∧ ∀ z0 ∈ x.f2, (Lit.int .u16 z0).wf = true)) := by
    obtain ⟨fuel, hf⟩ := h0
    exact opn24 _ _ _ _ _ _ fuel _ _ hf (fun n_ hn_ => by simpa using List.all_eq_true.1 hsz _ (DataW.weights_mem_each (j := 0) (t := 24) rfl rfl n_ hn_))
  obtain ⟨A0_0, c0_0, A0_1, c0_1, A0_2, c0_2, hcs0, l0_0, g0_0, l0_1, g0_1, l0_2, g0_2⟩ := k24_open hK0
  obtain rfl : cs0 = #[.slice A0_0 x0.f0.length c0_0, .slice A0_1 x0.f1.length c0_1, .slice A0_2 x0.f2.length c0_2] := by have hq_ := congrArg List.toArray hcs0; simpa using hq_
  obtain ⟨a1, rfl, rfl, rfl, w1⟩ := open_int Try.underlying25 (hval 1 25 v1 rfl rfl) h1
  obtain ⟨a2, rfl, rfl, rfl, w2⟩ := open_int Try.underlying25 (hval 2 25 v2 rfl rfl) h2
  obtain ⟨k_, hP⟩ := Pure.SetsOwns x0.f0 x0.f1 x0.f2 a1 a2 hw0.1 hw0.2.1 hw0.2.2 w1 w2
  clear hA0 hval0 hsz0 hsz
  refine (transomlaw8_SetsOwns.calls k_ _ _ x0.f0 _ _ x0.f1 _ _ x0.f2 a1 a2 true W g0_0 l0_0 g0_1 l0_1 g0_2 l0_2 hP).mono fun e W' ⟨he, bel0⟩ => ?_
  have bel : Below W.heap.size W W' := bel0
  subst he
  exact ⟨_, rfl, _, _, _, [], _, [], hW', trodAll_mk1 (shut_bool Try.underlying4 _), (trodAll_cons_mk (Below.trod laidOut (by kernel_rfl) (of_decide_eq_true (by kernel_rfl)) k0 bel lt0) (trodAll_cons_mk (shut_int Try.underlying25 w1) (trodAll_cons_mk (shut_int Try.underlying25 w2) trodAll_mk0))), rfl, bel.frame _, fun h => by cases h⟩
theorem over : Rows.setsOwnsRow.holds Try.pinned (OpenSpec.ofChange Rows.setsOwnsSpec) :=
  OpenClaim.holds_of_wide 5 Try.f5 rfl rfl rfl rfl rfl rfl rfl ⟨rfl, rfl, rfl, rfl, rfl⟩ rfl rfl rfl rfl rfl (by kernel_rfl) Try.func5 (by kernel_rfl)
    (of_decide_eq_true (by kernel_rfl)) (by unfold Func.isWrapper; first | (rw [if_pos (by decide +kernel)]; kernel_rfl) | (rw [if_neg (by decide +kernel)]; exact ⟨rfl, rfl⟩))
    (fun os started H enc _ => lifted os started H enc)
theorem proved : Rows.SetsOwnsSaid := over
#print axioms proved
end Go.Proofs.Ytfbfgaaaegbihaa.setsOwns
namespace Go.Proofs.Ytfbfgaaaegbihaa
/-- The row, under a short name, for the claim. -/
theorem setsOwns_holds : Rows.SetsOwnsSaid := setsOwns.proved
end Go.Proofs.Ytfbfgaaaegbihaa
