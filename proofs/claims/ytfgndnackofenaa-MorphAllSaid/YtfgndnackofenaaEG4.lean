/-
  The types api.Object and api.Thread as arguments of rows: how what is of them reads. No condition.
-/
import Derived.Test.YtfgndnackofenaaEG3
import Derived.Test.YtfgndnackofenaaEWMo3
namespace Go.Proofs.Ytfgndnackofenaa.E
open Go Go.RowKit Go.Proofs.YtfgndnackofenaaW.E
set_option linter.unusedVariables false
set_option linter.unusedSimpArgs false
theorem o_u8ss : Opn Try.prog 41 (fun l : List (List Int) => [lrg l]) (fun l => l.length ≤ 5864062014634 ∧ ∀ x ∈ l, x.length ≤ 140737488351232 ∧ ∀ y ∈ x, isB y) :=
  (opn_slice (g := l8) (B := 24) (sz := 1) Try.underlying41 (by kernel_rfl) (by kernel_rfl) (fun _ => rfl) (fun _ => rfl) (by decide) o_u8s).map id (fun _ => rfl) (fun a h => ⟨by have := h.2.1; simp only [id]; omega, h.2.2⟩)
theorem o_obj : Opn Try.prog 43 objC (fun b => ObW b) :=
  (opn_struct (sz := 13) Try.underlying43 (by kernel_rfl) (opnFs_cons (s1 := 1) (s2 := 12) rfl (by kernel_rfl) (opn_int Try.underlying36) (opnFs_cons (s1 := 1) (s2 := 11) rfl (by kernel_rfl) (opn_int Try.underlying3) (opnFs_cons (s1 := 2) (s2 := 9) rfl (by kernel_rfl) o_lab (opnFs_cons (s1 := 3) (s2 := 6) rfl (by kernel_rfl) o_sts
    (opnFs_cons (s1 := 1) (s2 := 5) rfl (by kernel_rfl) (opn_int Try.underlying3) (opnFs_cons (s1 := 1) (s2 := 4) rfl (by kernel_rfl) (opn_int Try.underlying3) (opnFs_cons (s1 := 1) (s2 := 3) rfl (by kernel_rfl) (opn_int Try.underlying3)
      (opnFs_cons (s1 := 1) (s2 := 2) rfl (by kernel_rfl) o_u8s (opnFs_cons (s1 := 1) (s2 := 1) rfl (by kernel_rfl) o_u16s (opnFs_one rfl (by kernel_rfl) o_u8ss))))))))))).map
    (fun x => ⟨x.1, x.2.1, x.2.2.1.1, x.2.2.1.2, x.2.2.2.1.1, x.2.2.2.1.2.1, x.2.2.2.1.2.2, x.2.2.2.2.1, x.2.2.2.2.2.1, x.2.2.2.2.2.2.1, x.2.2.2.2.2.2.2.1, x.2.2.2.2.2.2.2.2.1, x.2.2.2.2.2.2.2.2.2⟩) (fun _ => rfl)
    (fun a h => ⟨h.2.2.1.2.1, h.2.2.1.2.2, h.2.2.2.1.1.1, h.2.2.2.1.2.1.1, h.2.2.2.1.2.2.1, h.2.2.2.2.2.2.2.1.1, h.2.2.2.2.2.2.2.2.1.1, h.2.2.2.2.2.2.2.2.2.1, fun x hx => (h.2.2.2.2.2.2.2.2.2.2 x hx).1⟩)
theorem o_thr : Opn Try.prog 45 thrC (fun t => t.l.length ≤ 35184372087808 ∧ (∀ p ∈ t.l, wfP p) ∧ t.s.length ≤ 70368744175616 ∧ t.i.length ≤ 70368744175616 ∧ t.o.length ≤ 70368744175616) :=
  (opn_struct (sz := 12) Try.underlying45 (by kernel_rfl) (opnFs_cons (s1 := 2) (s2 := 10) rfl (by kernel_rfl) o_lab (opnFs_cons (s1 := 3) (s2 := 7) rfl (by kernel_rfl) o_sts (opnFs_cons (s1 := 1) (s2 := 6) rfl (by kernel_rfl) (opn_int Try.underlying3) (opnFs_cons (s1 := 1) (s2 := 5) rfl (by kernel_rfl) (opn_int Try.underlying3)
    (opnFs_cons (s1 := 1) (s2 := 4) rfl (by kernel_rfl) (opn_int Try.underlying36) (opnFs_cons (s1 := 1) (s2 := 3) rfl (by kernel_rfl) (opn_int Try.underlying36) (opnFs_cons (s1 := 1) (s2 := 2) rfl (by kernel_rfl) (opn_int Try.underlying3) (opnFs_cons (s1 := 1) (s2 := 1) rfl (by kernel_rfl) (opn_int Try.underlying3) (opnFs_one rfl (by kernel_rfl) (opn_bool Try.underlying4))))))))))).map
    (fun x => ⟨x.1.1, x.1.2, x.2.1.1, x.2.1.2.1, x.2.1.2.2, x.2.2.1, x.2.2.2.1, x.2.2.2.2.1, x.2.2.2.2.2.1, x.2.2.2.2.2.2.1, x.2.2.2.2.2.2.2.1, x.2.2.2.2.2.2.2.2⟩) (fun _ => rfl)
    (fun a h => ⟨h.1.2.1, h.1.2.2, h.2.1.1.1, h.2.1.2.1.1, h.2.1.2.2.1⟩)
end Go.Proofs.Ytfgndnackofenaa.E
