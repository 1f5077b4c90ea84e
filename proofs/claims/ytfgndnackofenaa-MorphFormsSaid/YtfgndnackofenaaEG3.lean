/-
  The types of the rows' arguments: how what is of them reads. No condition.
-/
import Derived.KernelRfl
import Derived.Test.YtfgndnackofenaaEG2
import Derived.Test.YtfgndnackofenaaEM14
import Derived.Test.YtfgndnackofenaaProg
namespace Go.Proofs.Ytfgndnackofenaa.E
open Go Go.RowKit Go.Proofs.YtfgndnackofenaaW.E
set_option linter.unusedVariables false
set_option linter.unusedSimpArgs false
theorem wf8 {x : Int} (h : (Lit.int .u8 x).wf = true) : isB x := by simp [Lit.wf, IntKind.min, IntKind.max, IntKind.bits, IntKind.signed] at h; unfold isB; omega
theorem wf16 {x : Int} (h : (Lit.int .u16 x).wf = true) : 0 ≤ x ∧ x < 65536 := by simp [Lit.wf, IntKind.min, IntKind.max, IntKind.bits, IntKind.signed] at h; omega
theorem wf64 {x : Int} (h : (Lit.int .i64 x).wf = true) : -9223372036854775808 ≤ x ∧ x < 9223372036854775808 := by simp [Lit.wf, IntKind.min, IntKind.max, IntKind.bits, IntKind.signed] at h; omega
theorem o_u8s : Opn Try.prog 40 (fun l : List Int => [l8 l]) (fun l => l.length ≤ 140737488351232 ∧ ∀ x ∈ l, isB x) :=
  (opn_slice (g := u8) (B := 1) (sz := 1) Try.underlying40 (by kernel_rfl) (by kernel_rfl) (fun _ => rfl) (fun _ => rfl) (by decide) (opn_int Try.underlying5)).map id (fun _ => rfl) (fun a h => ⟨by have := h.2.1; simp only [id]; omega, fun x hx => wf8 (h.2.2 x hx)⟩)
theorem o_u16s : Opn Try.prog 22 (fun l : List Int => [l16 l]) (fun l => l.length ≤ 70368744175616 ∧ ∀ x ∈ l, 0 ≤ x ∧ x < 65536) :=
  (opn_slice (g := u16) (B := 2) (sz := 1) Try.underlying22 (by kernel_rfl) (by kernel_rfl) (fun _ => rfl) (fun _ => rfl) (by decide) (opn_int Try.underlying33)).map id (fun _ => rfl) (fun a h => ⟨by have := h.2.1; simp only [id]; omega, fun x hx => wf16 (h.2.2 x hx)⟩)
theorem o_sts : Opn Try.prog 24 (fun x : List Int × List Int × List Int => [l16 x.1, l16 x.2.1, l16 x.2.2]) (fun x => (x.1.length ≤ 70368744175616 ∧ ∀ c ∈ x.1, 0 ≤ c ∧ c < 65536) ∧ (x.2.1.length ≤ 70368744175616 ∧ ∀ c ∈ x.2.1, 0 ≤ c ∧ c < 65536) ∧ (x.2.2.length ≤ 70368744175616 ∧ ∀ c ∈ x.2.2, 0 ≤ c ∧ c < 65536)) :=
  (opn_struct (sz := 3) Try.underlying24 (by kernel_rfl) (opnFs_cons (s1 := 1) (s2 := 2) rfl (by kernel_rfl) o_u16s (opnFs_cons (s1 := 1) (s2 := 1) rfl (by kernel_rfl) o_u16s (opnFs_one rfl (by kernel_rfl) o_u16s)))).map id (fun _ => rfl) (fun a h => h)
theorem o_pr : Opn Try.prog 61 (fun p : Pr => [u16 p.c, u8 p.l]) wfP :=
  (opn_struct (sz := 2) Try.underlying61 (by kernel_rfl) (opnFs_cons (s1 := 1) (s2 := 1) rfl (by kernel_rfl) (opn_int Try.underlying33) (opnFs_one rfl (by kernel_rfl) (opn_int Try.underlying5)))).map (fun x => ⟨x.1, x.2⟩) (fun _ => rfl) (fun a h => ⟨(wf16 h.1).1, (wf16 h.1).2, wf8 h.2⟩)
theorem o_prs : Opn Try.prog 37 (fun l : List Pr => [lps l]) (fun l => l.length ≤ 35184372087808 ∧ ∀ p ∈ l, wfP p) :=
  (opn_slice (g := prA) (B := 4) (sz := 2) Try.underlying37 (by kernel_rfl) (by kernel_rfl) (fun _ => rfl) (fun _ => rfl) (by decide) o_pr).map id (fun _ => rfl) (fun a h => ⟨by have := h.2.1; simp only [id]; omega, h.2.2⟩)
theorem o_lab : Opn Try.prog 39 (fun x : Int × List Pr => [u8 x.1, lps x.2]) (fun x => isB x.1 ∧ x.2.length ≤ 35184372087808 ∧ ∀ p ∈ x.2, wfP p) :=
  (opn_struct (sz := 2) Try.underlying39 (by kernel_rfl) (opnFs_cons (s1 := 1) (s2 := 1) rfl (by kernel_rfl) (opn_int Try.underlying5) (opnFs_one rfl (by kernel_rfl) o_prs))).map id (fun _ => rfl) (fun a h => ⟨wf8 h.1, h.2⟩)
end Go.Proofs.Ytfgndnackofenaa.E
