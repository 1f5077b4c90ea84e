/-
  SetsMost, in plain Lean. Condition: numbers of 8 bits.
-/
import Derived.Test.YtfbfgaaaegbihaaQSMay
import Derived.OpenShut
import Derived.Test.YtfbfgaaaegbihaaPSx8
import Derived.Test.YtfbfgaaaegbihaaPSx9
namespace Go.Proofs.Ytfbfgaaaegbihaa.Pure
open Go Go.RowKit Go.Proofs.Ytfbfgaaaegbihaa.PS Go.Proofs.YtfbfgaaaegbihaaW.PrintWords Go.Proofs.YtfbfgaaaegbihaaW.PJ

/-- So many, from one on. -/
def rw_ (a : Nat) : Nat → List Int
  | 0 => []
  | n + 1 => (a : Int) :: rw_ (a + 1) n
theorem rw_len (n : Nat) : ∀ a, (rw_ a n).length = n := by
  induction n with
  | zero => intro a; rfl
  | succ n ih => intro a; simp [rw_, ih]
theorem rw_mem (n : Nat) : ∀ (a : Nat) (x : Int), x ∈ rw_ a n → (a : Int) ≤ x ∧ x < a + n := by
  induction n with
  | zero => intro a x h; cases h
  | succ n ih =>
    intro a x h
    rcases List.mem_cons.1 h with rfl | h
    · omega
    · have := ih _ _ h; omega
theorem rw_asc (n : Nat) : ∀ a, (rw_ a n).Pairwise (· < ·) := by
  induction n with
  | zero => intro a; exact List.Pairwise.nil
  | succ n ih =>
    intro a
    refine List.pairwise_cons.2 ⟨fun x h => ?_, ih _⟩
    have := rw_mem _ _ _ h
    show (a : Int) < x
    omega
theorem wu16 (n : Nat) (h : n < 65536) : IntKind.u16.wrap (n : Int) = (n : Int) := by
  have : ∀ z : Int, IntKind.u16.wrap z = z % 65536 := fun z => by simp [IntKind.wrap, IntKind.bits, IntKind.signed]
  rw [this]; omega
theorem row_l0 (a m : Nat) (ha : a ≤ 200) (hm : m ≤ 100) : ∀ (n i : Nat) (acc : List Int), i + n = m → acc.length ≤ 1000 - n →
    Cm (fun k => transomlaw8_row.l0 k (a : Int) (m : Int) acc (i : Int)) (acc ++ rw_ (a + i) n) := by
  intro n
  induction n with
  | zero =>
    intro i acc hi hacc
    exact Cm.step (fun _ => transomlaw8_row.l0.eq_2 ..) (Cm.neg (by omega) (Cm.eq (by simp [rw_])))
  | succ n ih =>
    intro i acc hi hacc
    have hb : acc.length < 70368744177664 := by omega
    have e1 : wrap64 ((a : Int) + (i : Int)) = ((a + i : Nat) : Int) := by unfold wrap64; omega
    have e2 : wrap64 ((i : Int) + 1) = ((i + 1 : Nat) : Int) := by unfold wrap64; omega
    have hi1 : (i : Int) < (m : Int) := by omega
    have hi2 : i + 1 + n = m := by omega
    have hi3 : a + i < 65536 := by omega
    refine Cm.step (fun _ => transomlaw8_row.l0.eq_2 ..) (Cm.pos hi1 (Cm.pos hb ?_))
    rw [e1, e2, wu16 _ hi3]
    refine (ih (i + 1) _ hi2 (by simp; omega)).of ?_
    rw [List.append_assoc]
    rfl
theorem row_cm (a m : Nat) (ha : a ≤ 200) (hm : m ≤ 100) : Cm (fun k => transomlaw8_row.f k (a : Int) (m : Int)) (rw_ a m) :=
  (row_l0 a m ha hm m 0 [] (by omega) (by simp)).of (by simp)
theorem un_app {a b : List Int} (ha : a.Pairwise (· < ·)) (hb : b.Pairwise (· < ·)) (h : ∀ x ∈ a, ∀ y ∈ b, x < y) : un a b = a ++ b :=
  asc_ext (un_asc ha hb) (List.pairwise_append.2 ⟨ha, hb, h⟩) fun x => by rw [un_mem ha hb, List.mem_append]
theorem may_rows (x y z : Nat) (hx : x < 20) (hy : y < 20) (hz : z < 20) :
    may (rw_ 0 x) (rw_ 100 y) (rw_ 200 z) = (decide (x + y + z ≤ 16) && decide (x ≤ 16) && decide (y ≤ 16) && decide (z ≤ 16)) := by
  have a1 := rw_asc x 0
  have a2 := rw_asc y 100
  have a3 := rw_asc z 200
  have e1 : un (rw_ 0 x) (rw_ 100 y) = rw_ 0 x ++ rw_ 100 y := un_app a1 a2 fun u hu v hv => by
    have := rw_mem _ _ _ hu; have := rw_mem _ _ _ hv; omega
  have e2 : un (rw_ 0 x ++ rw_ 100 y) (rw_ 200 z) = (rw_ 0 x ++ rw_ 100 y) ++ rw_ 200 z := un_app (e1 ▸ un_asc a1 a2) a3 fun u hu v hv => by
    have := rw_mem _ _ _ hv
    rcases List.mem_append.1 hu with hu | hu
    · have := rw_mem _ _ _ hu; omega
    · have := rw_mem _ _ _ hu; omega
  unfold may
  rw [e1, e2, (asc_iff _).2 a1, (asc_iff _).2 a2, (asc_iff _).2 a3]
  simp only [rw_len, List.length_append, Bool.true_and, decide_true, Bool.and_true]
  rw [Bool.eq_iff_iff]
  simp
  omega

theorem SetsMost : transomlaw8_SetsMost.Pure := by
  intro s i o ws wi wo
  obtain ⟨s0, s1⟩ := bounds_u8 ws
  obtain ⟨i0, i1⟩ := bounds_u8 wi
  obtain ⟨o0, o1⟩ := bounds_u8 wo
  have key : ∀ v : Int, 0 ≤ v → v ≤ 255 → ∃ n : Nat, wrap64 (Int.tmod v 20) = (n : Int) ∧ n < 20 := by
    intro v h0 h1
    refine ⟨(v % 20).toNat, ?_, by omega⟩
    rw [Int.tmod_eq_emod_of_nonneg h0]
    unfold wrap64
    omega
  obtain ⟨x, hx, x20⟩ := key s s0 s1
  obtain ⟨y, hy, y20⟩ := key i i0 i1
  obtain ⟨z, hz, z20⟩ := key o o0 o1
  refine Cm.ex (F := fun k => transomlaw8_SetsMost.f k s i o) ?_
  refine Cm.bind begun8_cm (Cm.pos rfl ?_)
  rw [hx, hy, hz]
  clear hx hy hz key
  have e : wrap64 (wrap64 ((x : Int) + (y : Int)) + (z : Int)) = ((x + y + z : Nat) : Int) := by unfold wrap64; omega
  rw [e]
  clear e
  refine Cm.bind (row_cm 0 x (by omega) (by omega)) (Cm.bind (row_cm 100 y (by omega) (by omega)) (Cm.bind (row_cm 200 z (by omega) (by omega)) ?_))
  refine Cm.bind (sMay_cm _ _ _ (by rw [rw_len]; omega) (by rw [rw_len]; omega) (by rw [rw_len]; omega)) ?_
  rw [may_rows x y z x20 y20 z20]
  refine Cm.ite (fun h => Cm.ite (fun h2 => Cm.ite (fun h3 => Cm.eq ?_) (fun h3 => Cm.eq ?_)) (fun h2 => Cm.eq ?_)) (fun h => Cm.eq ?_)
  · have : x + y + z ≤ 16 := by omega
    have : x ≤ 16 := by omega
    have : y ≤ 16 := by omega
    simp [*]
    omega
  · have : ¬ y ≤ 16 := by omega
    simp [this]
  · have : ¬ x ≤ 16 := by omega
    simp [this]
  · have : ¬ x + y + z ≤ 16 := by omega
    simp [this]
end Go.Proofs.Ytfbfgaaaegbihaa.Pure
