/-
  SetsAll, in plain Lean. Conditions: the lengths that the row gives.
-/
import Derived.Test.YtfbfgaaaegbihaaQSets
import Derived.Test.YtfbfgaaaegbihaaPAx12
namespace Go.Proofs.Ytfbfgaaaegbihaa.Pure
open Go Go.RowKit Go.Proofs.Ytfbfgaaaegbihaa.PA Go.Proofs.YtfbfgaaaegbihaaW.PrintWords Go.Proofs.YtfbfgaaaegbihaaW.PrintLast Go.Proofs.YtfbfgaaaegbihaaW.PJ

theorem SetsAll : transomlaw8_SetsAll.Pure := by
  intro aS aI aO bS bI bO c ⟨_, h1, _⟩ ⟨_, h2, _⟩ ⟨_, h3, _⟩ ⟨_, h4, _⟩ ⟨_, h5, _⟩ ⟨_, h6, _⟩ _
  refine Cm.ex (F := fun k => transomlaw8_SetsAll.f k aS aI aO bS bI bO c) ?_
  have j0t : Cm (fun k => transomlaw8_SetsAll.j0 k c true aS aI aO bS bI bO) true := Cm.step (fun _ => transomlaw8_SetsAll.j0.eq_2 ..) (Cm.pos rfl (Cm.here _))
  have j1t : Cm (fun k => transomlaw8_SetsAll.j1 k c true aS aI aO bS bI bO) true := Cm.step (fun _ => transomlaw8_SetsAll.j1.eq_2 ..) (Cm.pos rfl (Cm.here _))
  refine Cm.bind begun8_cm (Cm.pos rfl (Cm.ite (fun _ => j0t) (fun _ => ?_)))
  cases hd : decide (wrap64 (wrap64 ((bS.length : Int) + (bI.length : Int)) + (bO.length : Int)) > 60) with
  | true => exact j0t
  | false =>
    refine Cm.step (fun _ => transomlaw8_SetsAll.j0.eq_2 ..) (Cm.neg (by simp) (Cm.bind (sMay_cm aS aI aO (by omega) (by omega) (by omega)) (Cm.bind (rMay_cm aS aI aO (by omega) (by omega) (by omega)) (Cm.neg (by simp) (Cm.bind (rMay_cm aS aI aO (by omega) (by omega) (by omega)) (Cm.ite (fun ha => ?_) (fun _ => j1t)))))))
    refine Cm.bind (rMay_cm bS bI bO (by omega) (by omega) (by omega)) ?_
    cases hb : may bS bI bO with
    | false => exact j1t
    | true =>
      obtain ⟨rS, rI, rO⟩ := may_R ha
      obtain ⟨qS, qI, qO⟩ := may_R hb
      have := R_lt rS
      have := R_lt rI
      have := R_lt rO
      have := R_lt qS
      have := R_lt qI
      have l1 := le_len aS [c]
      have l2 := le_len aI [c]
      have l3 := un_len aO [c]
      simp only [List.length_cons, List.length_nil] at l1 l2 l3
      have l4 := un_len aS bS
      have l5 := an_len aI bI
      refine Cm.step (fun _ => transomlaw8_SetsAll.j1.eq_2 ..) (Cm.neg (by simp) (Cm.bind (sSame_cm aS aI aO bS bI bO (by omega) (by omega) (by omega)) (Cm.bind (rSame_cm aS aI aO bS bI bO (by omega) (by omega) (by omega)) (Cm.neg (by simp) (Cm.bind (sAdd_cm rS rI rO c) (Cm.bind (rAdd_cm rS rI rO c) (Cm.bind (rSame_cm _ _ _ _ _ _ (by simp only; omega) (by simp only; omega) (by simp only; omega)) ?_)))))))
      rw [same_refl]
      refine Cm.step (fun _ => transomlaw8_SetsAll.j2.eq_2 ..) (Cm.neg (by simp) (Cm.bind (sFlows_cm aS aI [] bS bI [] (by omega) (by omega) (by omega) (by omega)) (Cm.bind (rFlows_cm [] [] rS rI qS qI) (Cm.pos (by simp) (Cm.bind (sJoin_cm [] [] rS rI qS qI) (Cm.bind (rJoin_cm [] [] rS rI qS qI) (Cm.bind (rSame_cm _ _ _ _ _ _ (by simp only; omega) (by simp only; omega) (by simp)) (Cm.eq (same_refl ..)))))))))
end Go.Proofs.Ytfbfgaaaegbihaa.Pure
