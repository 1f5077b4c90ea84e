/-
  Which labels of sets may be, by the document's answer. No condition but lengths.
-/
import Derived.Test.YtfbfgaaaegbihaaQRef
import Derived.Test.YtfbfgaaaegbihaaXUn
import Derived.Test.YtfbfgaaaegbihaaPAx9
namespace Go.Proofs.Ytfbfgaaaegbihaa.PA
open Go Go.RowKit Go.Proofs.YtfbfgaaaegbihaaW.PrintWords Go.Proofs.YtfbfgaaaegbihaaW.PJ

theorem RMay (l : List Int) (h : l.length < 4611686018427387904) : Cm (fun k => transomref1_MaySet.f k l) (ok1 l) := MaySet_cm l h
theorem rMay_j0 (S I O : List Int) : Cm (fun k => transomref8_MaySets.j0 k true S I O) false :=
  Cm.step (fun _ => transomref8_MaySets.j0.eq_2 ..) (Cm.pos rfl (Cm.here _))
theorem rMay_cm (S I O : List Int) (hS : S.length < 70368744177000) (hI : I.length < 70368744177000) (hO : O.length < 70368744177000) : Cm (fun k => transomref8_MaySets.f k S I O) (may S I O) := by
  rw [may_ok1]
  refine Cm.bind (RMay S (by omega)) (Cm.ite (fun h0 => Cm.bind (RMay I (by omega)) (Cm.ite (fun h1 => Cm.bind (RMay O (by omega)) ?_) (fun h1 => (rMay_j0 ..).of ?_))) (fun h0 => (rMay_j0 ..).of ?_))
  · cases h2 : ok1 O with
    | false => rw [h0, h1]; exact (rMay_j0 ..).of (by simp)
    | true =>
      have rS := ok1_R h0
      have rI := ok1_R h1
      have rO := ok1_R h2
      have lS := rS.2
      have lI := rI.2
      have lO := rO.2
      have hl := un_len S I
      rw [h0, h1]
      refine Cm.step (fun _ => transomref8_MaySets.j0.eq_2 ..) (Cm.neg (by simp) (Cm.bind (ROr_cm S I (by omega)) ?_))
      rw [mk_un rS.1 rI.1]
      refine Cm.bind (ROr_cm (un S I) O (by omega)) ?_
      rw [mk_un (un_asc rS.1 rI.1) rO.1]
      have ew : wrap64 (wrap64 ((S.length : Int) + (I.length : Int)) + (O.length : Int)) = ((S.length + I.length + O.length : Nat) : Int) := by unfold wrap64; omega
      rw [ew]
      refine Cm.ite (fun h => Cm.eq ?_) (fun h => Cm.eq ?_)
      · have e : (un (un S I) O).length = S.length + I.length + O.length := by omega
        rw [e]; rw [Bool.eq_iff_iff]; simp; omega
      · have e : ¬ (un (un S I) O).length = S.length + I.length + O.length := by omega
        rw [Bool.eq_iff_iff]; simp [e]
  · rw [Bool.not_eq_true] at h1; rw [h1]; simp
  · rw [Bool.not_eq_true] at h0; rw [h0]; simp

end Go.Proofs.Ytfbfgaaaegbihaa.PA
