-- Began as the text that pp.sh printed; the walk is by abstract values.
import Derived.Test.YtfgndnackofenaaRows
import Derived.Test.YtfgndnackofenaaEK24
import Derived.Test.YtfgndnackofenaaEG1
import Derived.Test.YtfgndnackofenaaEWOwns2
import Derived.WalkKit
import Derived.ProofKit
import Derived.OpenShut
import Derived.ShutString
import Derived.ChangeOld
import Derived.Below
import Derived.SizedLaws
namespace Go.Proofs.Ytfgndnackofenaa.may2Owns
open Go.ChangeShapes Go.WideShapes Go.ChangeAt Go.RowKit Go.Proofs.YtfgndnackofenaaW.PrintWords Go.Proofs.Ytfgndnackofenaa.EK Go.Proofs.YtfgndnackofenaaW.E
set_option linter.unusedVariables false
theorem own : ownKnob Try.prog.godebug = none := by kernel_rfl
theorem laidOut : laidOutB Try.prog = true := by kernel_rfl
theorem opn24 : Go.Proofs.YtfgndnackofenaaW.PJ.Opn Try.prog 24 k24 (fun x => ((x.f0.length ≤ maxLen ∧ x.f0.length * 2 ≤ 140737488351232 ∧ ∀ z0 ∈ x.f0, (Lit.int .u16 z0).wf = true) ∧ (x.f1.length ≤ maxLen ∧ x.f1.length * 2 ≤ 140737488351232 ∧ ∀ z0 ∈ x.f1, (Lit.int .u16 z0).wf = true) ∧ (x.f2.length ≤ maxLen ∧ x.f2.length * 2 ≤ 140737488351232 ∧ ∀ z0 ∈ x.f2, (Lit.int .u16 z0).wf = true))) :=
  Go.Proofs.YtfgndnackofenaaW.PJ.opn_iso (α := S24) (fun x => (x.f0, x.f1, x.f2)) (fun p => ⟨p.1, p.2.1, p.2.2⟩) (fun _ => rfl) (Go.Proofs.YtfgndnackofenaaW.PJ.opn_struct Try.underlying24 (by kernel_rfl) (Go.Proofs.YtfgndnackofenaaW.PJ.opnFs_cons rfl (by kernel_rfl) rfl (Go.Proofs.YtfgndnackofenaaW.PJ.opn_slice (B := 2) Try.underlying22 (by kernel_rfl) (by kernel_rfl) (Go.Proofs.YtfgndnackofenaaW.PJ.opn_int Try.underlying33)) (Go.Proofs.YtfgndnackofenaaW.PJ.opnFs_cons rfl (by kernel_rfl) rfl (Go.Proofs.YtfgndnackofenaaW.PJ.opn_slice (B := 2) Try.underlying22 (by kernel_rfl) (by kernel_rfl) (Go.Proofs.YtfgndnackofenaaW.PJ.opn_int Try.underlying33)) (Go.Proofs.YtfgndnackofenaaW.PJ.opnFs_one rfl (by kernel_rfl) (Go.Proofs.YtfgndnackofenaaW.PJ.opn_slice (B := 2) Try.underlying22 (by kernel_rfl) (by kernel_rfl) (Go.Proofs.YtfgndnackofenaaW.PJ.opn_int Try.underlying33))))))
set_option maxRecDepth 100000 in
theorem lifted (os : Os) (started : os.Started) (H : Type) (enc : TypeId × Value → H) :
    ReturnsInHanded {} Try.checked os 5 .any (Rows.may2OwnsSpec.pre6 enc Try.prog Try.f5 Rows.may2OwnsRow.domain false) (Rows.may2OwnsSpec.post enc Try.prog Try.f5 false true false false) := by
  refine returnsInHanded_of_change_sized (C := Try.checked) own started (by kernel_rfl) Try.func5
    (ChangeSpec.witness6 (enc := enc) (C := Try.checked) false ⟨#[], #[.agg #[.slice none 0 0, .slice none 0 0, .slice none 0 0], .agg #[.slice none 0 0, .slice none 0 0, .slice none 0 0], .int .u16 0], []⟩ 12 (by kernel_rfl) (by kernel_rfl) (by kernel_rfl) (by kernel_rfl)) ?_
  intro W base args ds gs before hval0 hW hcnd hsz0 _
  have hsz : (DataW.weightsEach Try.prog (Try.f5.params.toList ++ Rows.may2OwnsSpec.plain.varTypes Try.prog) (ds ++ gs)).all (· ≤ reachBytes) = true := hsz0
  have hval : ∀ (j : Nat) t v, Try.f5.params[j]? = some t → args[j]? = some v → Value.okWide Try.prog W .any base t v := hval0
  have hW' := hW
  obtain ⟨p, q, hA0, hV, rfl, hfz, hnd⟩ := hW
  have hA : DataW.TrodAll enc Try.prog W 0 (fun _ => true) true Try.f5.params.toList args.toList ds p := hA0
  rw [Try.params5] at hA hval hsz
  obtain ⟨v0, vs0, d0, ds0, p0, q0, hargs, rfl, rfl, h0, r0⟩ := trodAll_cons hA
  obtain ⟨v1, vs1, d1, ds1, p1, q1, rfl, rfl, rfl, h1, r1⟩ := trodAll_cons r0
  obtain ⟨v2, vs2, d2, ds2, p2, q2, rfl, rfl, rfl, h2, r2⟩ := trodAll_cons r1
  obtain ⟨rfl, rfl, rfl⟩ := trodAll_nil r2
  obtain rfl : args = #[v0, v1, v2] := by cases args; simp_all
  obtain ⟨rfl, rfl⟩ := trodVars_none hV
  obtain ⟨cs0, rfl, hz0⟩ := okWide_struct Try.underlying24 (hval 0 24 v0 rfl rfl)
  have k0 := h0
  have lt0 : ∀ x ∈ p0, x.block < W.heap.size := by obtain ⟨m, hm⟩ := k0; exact DataW.trod_lt m _ _ _ hm
  obtain ⟨x0, hK0, hw0⟩ : ∃ x, k24.K W x cs0.toList ∧ ((x.f0.length ≤ maxLen ∧ x.f0.length * 2 ≤ 140737488351232 ∧ ∀ z0 ∈ x.f0, (Lit.int .u16 z0).wf = true) ∧ (x.f1.length ≤ maxLen ∧ x.f1.length * 2 ≤ 140737488351232 ∧ ∀ z0 ∈ x.f1, (Lit.int .u16 z0).wf = true) ∧ (x.f2.length ≤ maxLen ∧ x.f2.length * 2 ≤ 140737488351232 ∧ ∀ z0 ∈ x.f2, (Lit.int .u16 z0).wf = true)) := by
    obtain ⟨fuel, hf⟩ := h0
    exact opn24 _ _ _ _ _ _ fuel _ _ hf (fun n_ hn_ => by simpa using List.all_eq_true.1 hsz _ (DataW.weights_mem_each (j := 0) (t := 24) rfl rfl n_ hn_))
  obtain ⟨A0_0, c0_0, A0_1, c0_1, A0_2, c0_2, hcs0, l0_0, g0_0, l0_1, g0_1, l0_2, g0_2⟩ := k24_open hK0
  obtain rfl : cs0 = #[.slice A0_0 x0.f0.length c0_0, .slice A0_1 x0.f1.length c0_1, .slice A0_2 x0.f2.length c0_2] := by have hq_ := congrArg List.toArray hcs0; simpa using hq_
  obtain ⟨cs1, rfl, hz1⟩ := okWide_struct Try.underlying24 (hval 1 24 v1 rfl rfl)
  have k1 := h1
  have lt1 : ∀ x ∈ p1, x.block < W.heap.size := by obtain ⟨m, hm⟩ := k1; exact DataW.trod_lt m _ _ _ hm
  obtain ⟨x1, hK1, hw1⟩ : ∃ x, k24.K W x cs1.toList ∧ ((x.f0.length ≤ maxLen ∧ x.f0.length * 2 ≤ 140737488351232 ∧ ∀ z0 ∈ x.f0, (Lit.int .u16 z0).wf = true) ∧ (x.f1.length ≤ maxLen ∧ x.f1.length * 2 ≤ 140737488351232 ∧ ∀ z0 ∈ x.f1, (Lit.int .u16 z0).wf = true) ∧ (x.f2.length ≤ maxLen ∧ x.f2.length * 2 ≤ 140737488351232 ∧ ∀ z0 ∈ x.f2, (Lit.int .u16 z0).wf = true)) := by
    obtain ⟨fuel, hf⟩ := h1
    exact opn24 _ _ _ _ _ _ fuel _ _ hf (fun n_ hn_ => by simpa using List.all_eq_true.1 hsz _ (DataW.weights_mem_each (j := 1) (t := 24) rfl rfl n_ hn_))
  obtain ⟨A1_0, c1_0, A1_1, c1_1, A1_2, c1_2, hcs1, l1_0, g1_0, l1_1, g1_1, l1_2, g1_2⟩ := k24_open hK1
  obtain rfl : cs1 = #[.slice A1_0 x1.f0.length c1_0, .slice A1_1 x1.f1.length c1_1, .slice A1_2 x1.f2.length c1_2] := by have hq_ := congrArg List.toArray hcs1; simpa using hq_
  obtain ⟨a2, rfl, rfl, rfl, w2⟩ := open_int Try.underlying33 (hval 2 33 v2 rfl rfl) h2
  clear hA0 hval0 hsz0 hsz
  refine (calls_true (E.sp_May2Owns x0.f0 x0.f1 x0.f2 x1.f0 x1.f1 x1.f2 a2 hw0.1.2.1 hw0.2.1.2.1 hw0.2.2.2.1 hw1.1.2.1 hw1.2.1.2.1 hw1.2.2.2.1) (w := W) rfl (by
    rintro (_ | _ | _ | _) a v e1 e2 <;> simp at e1 e2 <;> subst e1 <;> subst e2
    · exact rd_sts g0_0 l0_0 g0_1 l0_1 g0_2 l0_2
    · exact rd_sts g1_0 l1_0 g1_1 l1_1 g1_2 l1_2
    · exact .val _)).mono fun e W' ⟨he, bel0⟩ => ?_
  have bel : Below W.heap.size W W' := bel0
  subst he
  exact ⟨_, rfl, _, _, _, [], _, [], hW', trodAll_mk1 (shut_bool Try.underlying4 _), (trodAll_cons_mk (Below.trod laidOut (by kernel_rfl) (of_decide_eq_true (by kernel_rfl)) k0 bel lt0) (trodAll_cons_mk (Below.trod laidOut (by kernel_rfl) (of_decide_eq_true (by kernel_rfl)) k1 bel lt1) (trodAll_cons_mk (shut_int Try.underlying33 w2) trodAll_mk0))), rfl, bel.frame _, fun h => by cases h⟩
theorem over : Rows.may2OwnsRow.holds Try.pinned (OpenSpec.ofChange Rows.may2OwnsSpec) :=
  OpenClaim.holds_of_wide 5 Try.f5 rfl rfl rfl rfl rfl rfl rfl ⟨rfl, rfl, rfl, rfl, rfl⟩ rfl rfl rfl rfl rfl (by kernel_rfl) Try.func5 (by kernel_rfl)
    (of_decide_eq_true (by kernel_rfl)) (by unfold Func.isWrapper; first | (rw [if_pos (by decide +kernel)]; kernel_rfl) | (rw [if_neg (by decide +kernel)]; exact ⟨rfl, rfl⟩))
    (fun os started H enc _ => lifted os started H enc)
theorem proved : Rows.May2OwnsSaid := over
#print axioms proved
end Go.Proofs.Ytfgndnackofenaa.may2Owns
namespace Go.Proofs.Ytfgndnackofenaa
/-- The row, under a short name, for the claim. -/
theorem may2Owns_holds : Rows.May2OwnsSaid := may2Owns.proved
end Go.Proofs.Ytfgndnackofenaa
