/-
  May2Rule, in plain Lean. Conditions: the lengths that the row gives.
-/
import Derived.Test.YtfgndnackofenaaQMay2
import Derived.Test.YtfgndnackofenaaPMx7
namespace Go.Proofs.Ytfgndnackofenaa.Pure
open Go Go.RowKit Go.Proofs.Ytfgndnackofenaa.PM Go.Proofs.YtfgndnackofenaaW.PrintWords Go.Proofs.YtfgndnackofenaaW.PrintLast Go.Proofs.YtfgndnackofenaaW.PJ

theorem May2Rule : transomlaw10_May2Rule.Pure := by
  intro tS tI tO aS aI aO bS bI bO ⟨_, h1, _⟩ ⟨_, h2, _⟩ ⟨_, h3, _⟩ ⟨_, h4, _⟩ ⟨_, h5, _⟩ ⟨_, h6, _⟩ ⟨_, h7, _⟩ ⟨_, h8, _⟩ ⟨_, h9, _⟩
  refine Cm.ex (F := fun k => transomlaw10_May2Rule.f k tS tI tO aS aI aO bS bI bO) ?_
  have j0t : Cm (fun k => transomlaw10_May2Rule.j0 k true tS tI tO aS aI bS bI) true := Cm.step (fun _ => transomlaw10_May2Rule.j0.eq_2 ..) (Cm.pos rfl (Cm.here _))
  have j1t : Cm (fun k => transomlaw10_May2Rule.j1 k true tS tI tO aS aI bS bI) true := Cm.step (fun _ => transomlaw10_May2Rule.j1.eq_2 ..) (Cm.pos rfl (Cm.here _))
  refine Cm.bind begun10_cm (Cm.pos rfl (Cm.bind (rMay_cm tS tI tO (by omega) (by omega) (by omega)) (Cm.ite (fun ht => Cm.bind (rMay_cm aS aI [] (by omega) (by omega) (by simp)) (Cm.ite (fun ha => Cm.bind (rMay_cm bS bI [] (by omega) (by omega) (by simp)) ?_) (fun _ => j0t))) (fun _ => j0t))))
  cases hb : may bS bI [] with
  | false => exact j0t
  | true =>
    obtain ⟨r1, r2, r3⟩ := may_R ht
    obtain ⟨r4, r5, _⟩ := may_R ha
    obtain ⟨r6, r7, _⟩ := may_R hb
    have l3 := r3.2
    have l4 := r4.2
    have l5 := r5.2
    have l6 := r6.2
    have l7 := r7.2
    have n1 := le_len aS tO
    have n2 := le_len bI tO
    refine Cm.step (fun _ => transomlaw10_May2Rule.j0.eq_2 ..) (Cm.neg (by simp) (Cm.bind (Sees_cm [] r1 r2 r3 r4 r5) (Cm.ite (fun hs => Cm.bind (Turns_cm [] r1 r2 r3 r6 r7) ?_) (fun _ => j1t))))
    cases hu : turns tS tI tO bS bI with
    | false => exact j1t
    | true =>
      obtain ⟨s1, s2⟩ := (sees_iff r1 r2 r3 r4 r5).1 hs
      obtain ⟨u1, u2⟩ := (turns_iff r1 r2 r3 r6 r7).1 hu
      refine Cm.step (fun _ => transomlaw10_May2Rule.j1.eq_2 ..) (Cm.neg (by simp) (Cm.bind ((RLess_cm aS tO (by omega) (by omega)).of (fl_le r4.1 r3.1)) (Cm.bind (RIn_cm _ bS (by omega) (by omega)) ?_)))
      rw [fl_le (le_asc r4.1 r3.1) r6.1, (le_nil (le_asc r4.1 r3.1) r6.1).2 (fun c hc => by
        rw [le_mem r4.1 r3.1] at hc
        exact u1 c ((s1 c hc.1).resolve_right hc.2))]
      refine Cm.pos rfl (Cm.bind ((RLess_cm bI tO (by omega) (by omega)).of (fl_le r7.1 r3.1)) (Cm.bind (RIn_cm _ aI (by omega) (by omega)) ?_))
      rw [fl_le (le_asc r7.1 r3.1) r5.1, (le_nil (le_asc r7.1 r3.1) r5.1).2 (fun c hc => by
        rw [le_mem r7.1 r3.1] at hc
        exact s2 c ((u2 c hc.1).resolve_right hc.2))]
      exact Cm.here _
end Go.Proofs.Ytfgndnackofenaa.Pure
