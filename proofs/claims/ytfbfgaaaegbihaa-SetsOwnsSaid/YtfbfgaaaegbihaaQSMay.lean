/-
  Which labels of sets may be, by sets.May. No condition but lengths.
-/
import Derived.Test.YtfbfgaaaegbihaaQCats
import Derived.Test.YtfbfgaaaegbihaaXUn
import Derived.Test.YtfbfgaaaegbihaaPAx3
import Derived.Test.YtfbfgaaaegbihaaPAx7
namespace Go.Proofs.Ytfbfgaaaegbihaa.PA
open Go Go.RowKit Go.Proofs.YtfbfgaaaegbihaaW.PrintWords Go.Proofs.YtfbfgaaaegbihaaW.PJ

theorem CMay (l : List Int) (h : l.length < 4611686018427387904) : Cm (fun k => cats_May.f k l) (ok1 l) := (cats_May_ev l h).of (by unfold ok1; exact Bool.and_comm _ _)

theorem sMay_cm (S I O : List Int) (hS : S.length < 70368744177000) (hI : I.length < 70368744177000) (hO : O.length < 70368744177000) : Cm (fun k => sets_May.f k S I O) (may S I O) := by
  refine Cm.bind (Cm.here _) ?_
  have e0 : wrap64 (0 + 1) = 1 := by simp [wrap64]
  have e1 : wrap64 (1 + 1) = 2 := by simp [wrap64]
  have e2 : wrap64 (2 + 1) = 3 := by simp [wrap64]
  rw [may_ok1]
  refine Cm.step (fun _ => sets_May.l0.eq_2 ..) (Cm.pos (by simp) (Cm.pos (by omega) (Cm.pos (by simp) (Cm.bind (CMay S (by omega)) (Cm.ite (fun h0 => ?_) (fun h0 => ?_))))))
  · rw [e0]
    refine Cm.step (fun _ => sets_May.l0.eq_2 ..) (Cm.pos (by simp) (Cm.pos (by omega) (Cm.pos (by simp) (Cm.bind (CMay I (by omega)) (Cm.ite (fun h1 => ?_) (fun h1 => ?_))))))
    · rw [e1]
      refine Cm.step (fun _ => sets_May.l0.eq_2 ..) (Cm.pos (by simp) (Cm.pos (by omega) (Cm.pos (by simp) (Cm.bind (CMay O (by omega)) (Cm.ite (fun h2 => ?_) (fun h2 => ?_))))))
      · rw [e2]
        have rS := ok1_R h0
        have rI := ok1_R h1
        have rO := ok1_R h2
        have lS := rS.2
        have lI := rI.2
        have lO := rO.2
        rw [h0, h1, h2]
        refine Cm.step (fun _ => sets_May.l0.eq_2 ..) (Cm.neg (by simp) ?_)
        have ew : wrap64 (wrap64 ((S.length : Int) + (I.length : Int)) + (O.length : Int)) = ((S.length + I.length + O.length : Nat) : Int) := by unfold wrap64; omega
        rw [ew]
        refine Cm.ite (fun h => ?_) (fun h => ?_)
        · have hl := un_len I O
          refine Cm.bind (cats_Or_ev I O (by omega)) (Cm.bind (cats_Or_ev S (un I O) (by omega)) (Cm.eq ?_))
          have eu : mg (fun _ _ => true) S (un I O) = un (un S I) O :=
            asc_ext (un_asc rS.1 (un_asc rI.1 rO.1)) (un_asc (un_asc rS.1 rI.1) rO.1) fun x => by
              show x ∈ un S (un I O) ↔ _
              rw [un_mem rS.1 (un_asc rI.1 rO.1), un_mem rI.1 rO.1, un_mem (un_asc rS.1 rI.1) rO.1, un_mem rS.1 rI.1]; grind
          rw [eu, decide_eq_true (by omega : S.length + I.length + O.length ≤ 16)]
          rw [Bool.eq_iff_iff]
          simp
          omega
        · rw [decide_eq_false (by omega : ¬ S.length + I.length + O.length ≤ 16)]
          exact Cm.eq (by simp)
      · rw [Bool.not_eq_true] at h2; rw [h2]; exact Cm.eq (by simp)
    · rw [Bool.not_eq_true] at h1; rw [h1]; exact Cm.eq (by simp)
  · rw [Bool.not_eq_true] at h0; rw [h0]; exact Cm.eq (by simp)

theorem begun8_cm : Cm (fun k => transomlaw8_begun.f k) true := Cm.of_ex (transomlaw8_begun.mono) 60 (by decide +kernel)
end Go.Proofs.Ytfbfgaaaegbihaa.PA
