/-
  SetsOwns, in plain Lean. Conditions: the lengths that the row gives.
-/
import Derived.Test.YtfbfgaaaegbihaaQSets
import Derived.Test.YtfbfgaaaegbihaaPAx13
namespace Go.Proofs.Ytfbfgaaaegbihaa.Pure
open Go Go.RowKit Go.Proofs.Ytfbfgaaaegbihaa.PA Go.Proofs.YtfbfgaaaegbihaaW.PrintWords Go.Proofs.YtfbfgaaaegbihaaW.PrintLast Go.Proofs.YtfbfgaaaegbihaaW.PJ

theorem SetsOwns : transomlaw8_SetsOwns.Pure := by
  intro S I O c d ⟨_, h1, _⟩ ⟨_, h2, _⟩ ⟨_, h3, _⟩ _ _
  refine Cm.ex (F := fun k => transomlaw8_SetsOwns.f k S I O c d) ?_
  refine Cm.bind begun8_cm (Cm.pos rfl (Cm.bind (rMay_cm S I O (by omega) (by omega) (by omega)) (Cm.ite (fun hm => ?_) (fun _ => Cm.here _))))
  obtain ⟨rS, rI, rO⟩ := may_R hm
  have lS := rS.2
  have lI := rI.2
  have lO := rO.2
  have o1 := R_one c
  have l1 := le_len S [c]
  have l2 := le_len I [c]
  have l3 := un_len O [c]
  simp only [List.length_cons, List.length_nil] at l1 l2 l3
  have mS := le_mem rS.1 o1.1
  have mI := le_mem rI.1 o1.1
  have mO := un_mem rO.1 o1.1
  have aS := le_asc rS.1 o1.1
  have aI := le_asc rI.1 o1.1
  have aO := un_asc rO.1 o1.1
  have e1 : mg (fun _ b => !b) (le S [c]) [c] = le S [c] := asc_ext (le_asc aS o1.1) aS fun x => by show x ∈ le (le S [c]) [c] ↔ _; rw [le_mem aS o1.1, mS]; grind
  have e2 : mg (fun _ b => !b) (le I [c]) [c] = le I [c] := asc_ext (le_asc aI o1.1) aI fun x => by show x ∈ le (le I [c]) [c] ↔ _; rw [le_mem aI o1.1, mI]; grind
  have e3 : mg (fun _ _ => true) (un O [c]) [c] = un O [c] := asc_ext (un_asc aO o1.1) aO fun x => by show x ∈ un (un O [c]) [c] ↔ _; rw [un_mem aO o1.1, mO]; grind
  have add2 : Cm (fun k => sets_Add.f k (le S [c]) (le I [c]) (un O [c]) c) (le S [c], le I [c], un O [c]) :=
    (show Cm (fun k => sets_Add.f k (le S [c]) (le I [c]) (un O [c]) c) (mg (fun _ b => !b) (le S [c]) [c], mg (fun _ b => !b) (le I [c]) [c], mg (fun _ _ => true) (un O [c]) [c]) from
      Cm.bind (Cm.here _) (Cm.bind (cats_Less_ev (le S [c]) [c] (by simp; omega)) (Cm.bind (cats_Less_ev (le I [c]) [c] (by simp; omega)) (Cm.bind (cats_Or_ev (un O [c]) [c] (by simp; omega)) (Cm.here _))))).of (by rw [e1, e2, e3])
  have j0 : Cm (fun k => transomlaw8_SetsOwns.j0 k c true (le S [c]) (le I [c]) (un O [c])) true := by
    refine Cm.step (fun _ => transomlaw8_SetsOwns.j0.eq_2 ..) ?_
    refine Cm.bind (Has_cm _ _ (by omega)) (Cm.pos (by simp [mO]) ?_)
    refine Cm.bind (Has_cm _ _ (by omega)) (Cm.neg (by simp [mS]) ?_)
    refine Cm.bind (Has_cm _ _ (by omega)) (Cm.neg (by simp [mI]) (Cm.pos rfl ?_))
    exact Cm.bind add2 (Cm.bind (sSame_cm _ _ _ _ _ _ (by simp only; omega) (by simp only; omega) (by simp only; omega)) (Cm.eq (same_refl ..)))
  refine Cm.bind (sAdd_cm rS rI rO c) (Cm.ite (fun _ => j0) (fun hne => ?_))
  have g1 : decide (d ∈ le S [c]) = decide (d ∈ S) := by rw [decide_eq_decide, mS]; simp; intro _ h; exact hne h.symm
  have g2 : decide (d ∈ le I [c]) = decide (d ∈ I) := by rw [decide_eq_decide, mI]; simp; intro _ h; exact hne h.symm
  have g3 : decide (d ∈ un O [c]) = decide (d ∈ O) := by rw [decide_eq_decide, mO]; simp; intro h; exact (hne h.symm).elim
  refine Cm.bind ((Has_cm _ _ (by simp only; omega)).of g1) (Cm.bind (Has_cm _ _ (by omega)) (Cm.pos (by simp) ?_))
  refine Cm.bind ((Has_cm _ _ (by simp only; omega)).of g2) (Cm.bind (Has_cm _ _ (by omega)) (Cm.pos (by simp) ?_))
  refine Cm.bind ((Has_cm _ _ (by simp only; omega)).of g3) (Cm.bind (Has_cm _ _ (by omega)) ?_)
  rw [beq_self_eq_true]
  exact j0
end Go.Proofs.Ytfbfgaaaegbihaa.Pure
