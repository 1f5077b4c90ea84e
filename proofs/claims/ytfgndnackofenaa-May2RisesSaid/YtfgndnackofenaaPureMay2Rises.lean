/-
  May2Rises, in plain Lean. Conditions: the lengths that the row gives.
-/
import Derived.Test.YtfgndnackofenaaQMay2
import Derived.Test.YtfgndnackofenaaPMx8
namespace Go.Proofs.Ytfgndnackofenaa.Pure
open Go Go.RowKit Go.Proofs.Ytfgndnackofenaa.PM Go.Proofs.YtfgndnackofenaaW.PrintWords Go.Proofs.YtfgndnackofenaaW.PrintLast Go.Proofs.YtfgndnackofenaaW.PJ

theorem May2Rises : transomlaw10_May2Rises.Pure := by
  intro tS tI tO sS sI sO oS oI oO ⟨_, h1, _⟩ ⟨_, h2, _⟩ ⟨_, h3, _⟩ ⟨_, h4, _⟩ ⟨_, h5, _⟩ ⟨_, h6, _⟩ ⟨_, h7, _⟩ ⟨_, h8, _⟩ ⟨_, h9, _⟩
  refine Cm.ex (F := fun k => transomlaw10_May2Rises.f k tS tI tO sS sI sO oS oI oO) ?_
  have j0t : Cm (fun k => transomlaw10_May2Rises.j0 k true tS tI tO sS sI sO oS oI) true := Cm.step (fun _ => transomlaw10_May2Rises.j0.eq_2 ..) (Cm.pos rfl (Cm.here _))
  refine Cm.bind begun10_cm (Cm.pos rfl (Cm.bind (rMay_cm tS tI tO (by omega) (by omega) (by omega)) (Cm.ite (fun ht => Cm.bind (rMay_cm sS sI sO (by omega) (by omega) (by omega)) (Cm.ite (fun hs => Cm.bind (rMay_cm oS oI [] (by omega) (by omega) (by simp)) (Cm.ite (fun ho => ?_) (fun _ => j0t))) (fun _ => j0t))) (fun _ => j0t))))
  obtain ⟨r1, r2, r3⟩ := may_R ht
  obtain ⟨r4, r5, r6⟩ := may_R hs
  obtain ⟨r7, r8, _⟩ := may_R ho
  refine Cm.bind (Rises_cm r1 r2 r3 r4 r5 r6) ?_
  by_cases hr : rises tS tI tO sS sI sO = 0
  · rw [hr, bne_self_eq_false]
    obtain ⟨q1, q2⟩ := (rises_iff r3 r6).1 hr
    obtain ⟨q3, q4⟩ := (turns_iff r1 r2 r3 r4 r5).1 q2
    have self : rises sS sI sO sS sI sO = 0 := (rises_iff r6 r6).2 ⟨fun _ h => h, (turns_iff r4 r5 r6 r4 r5).2 ⟨fun _ h => h, fun _ h => Or.inl h⟩⟩
    have last : Cm (fun k => (may2_Rises.f k sS sI sO sS sI sO).bind fun t => some (t == 0)) true := Cm.bind (Rises_cm r4 r5 r6 r4 r5 r6) (Cm.eq (by rw [self]; rfl))
    have rest : Cm (fun k => if (tO.length : Int) = (sO.length : Int) then ((may2_Sees.f k tS tI tO oS oI []).bind fun t => if t = true then ((may2_Sees.f k sS sI sO oS oI []).bind fun t => if t = true then ((may2_Rises.f k sS sI sO sS sI sO).bind fun t => some (t == 0)) else some false) else ((may2_Rises.f k sS sI sO sS sI sO).bind fun t => some (t == 0))) else ((may2_Rises.f k sS sI sO sS sI sO).bind fun t => some (t == 0))) true := by
      refine Cm.ite (fun hk => Cm.bind (Sees_cm [] r1 r2 r3 r7 r8) (Cm.ite (fun hx => Cm.bind (Sees_cm [] r4 r5 r6 r7 r8) (Cm.pos ?_ last)) (fun _ => last))) (fun _ => last)
      have he : sO = tO := sub_len r6.1 r3.1 q1 (by omega)
      obtain ⟨x1, x2⟩ := (sees_iff r1 r2 r3 r7 r8).1 hx
      refine (sees_iff r4 r5 r6 r7 r8).2 ⟨fun c hc => ?_, fun c hc => ?_⟩
      · rcases x1 c hc with h | h
        · exact Or.inl (q3 c h)
        · exact Or.inr (he ▸ h)
      · rcases q4 c hc with h | h
        · exact x2 c h
        · exact (may_apart hs c hc (he ▸ h)).elim
    refine Cm.step (fun _ => transomlaw10_May2Rises.j0.eq_2 ..) (Cm.neg (by simp) (Cm.bind (Turns_cm [] r4 r5 r6 r7 r8) (Cm.ite (fun hx => Cm.bind (Turns_cm [] r1 r2 r3 r7 r8) (Cm.pos ?_ rest)) (fun _ => rest))))
    obtain ⟨x1, x2⟩ := (turns_iff r4 r5 r6 r7 r8).1 hx
    refine (turns_iff r1 r2 r3 r7 r8).2 ⟨fun c hc => x1 c (q3 c hc), fun c hc => ?_⟩
    rcases x2 c hc with h | h
    · exact q4 c h
    · exact Or.inr (q1 c h)
  · rw [bne_iff_ne.2 hr]
    exact j0t
end Go.Proofs.Ytfgndnackofenaa.Pure
