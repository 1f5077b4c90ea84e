/-
  What sets does, and what the document's answer says of it: the same values. No condition but lengths.
-/
import Derived.Test.YtfbfgaaaegbihaaQSMay
import Derived.Test.YtfbfgaaaegbihaaQRMay
import Derived.Test.YtfbfgaaaegbihaaPAx10
import Derived.Test.YtfbfgaaaegbihaaPAx11
import Derived.Test.YtfbfgaaaegbihaaPAx3
import Derived.Test.YtfbfgaaaegbihaaPAx5
import Derived.Test.YtfbfgaaaegbihaaPAx7
import Derived.Test.YtfbfgaaaegbihaaPAx9
namespace Go.Proofs.Ytfbfgaaaegbihaa.PA
open Go Go.RowKit Go.Proofs.YtfbfgaaaegbihaaW.PrintWords Go.Proofs.YtfbfgaaaegbihaaW.PJ

theorem Eq_l0 (l m : List Int) (hl : l.length < 4611686018427387904) (he : l.length = m.length) : ∀ (n i : Nat), l.length - i ≤ n → Cm (fun k => slices_Equal_uint16_uint16.l0 k l m (l.length : Int) (i : Int)) (decide (l.drop i = m.drop i))
  | 0, i, hn => by
    refine Cm.step (fun _ => slices_Equal_uint16_uint16.l0.eq_2 ..) (Cm.neg (by omega) ?_)
    rw [List.drop_eq_nil_of_le (by omega), List.drop_eq_nil_of_le (by omega)]
    exact Cm.eq (by simp)
  | n + 1, i, hn => by
    refine Cm.step (fun _ => slices_Equal_uint16_uint16.l0.eq_2 ..) (Cm.ite (fun h => ?_) (fun h => ?_))
    · have hi : i < l.length := by omega
      have hj : i < m.length := by omega
      rw [wup i (by omega), rd_at l i hi, rd_at m i hj]
      refine Cm.pos (by omega) (Cm.pos (by omega) (Cm.pos (by omega) (Cm.ite (fun h => ?_) (fun h => ?_))))
      · refine (Eq_l0 l m hl he n (i + 1) (by omega)).of ?_
        rw [List.drop_eq_getElem_cons hi, List.drop_eq_getElem_cons hj, h]
        generalize l.drop (i + 1) = A
        generalize m.drop (i + 1) = B
        generalize m[i] = x
        simp
      · refine Cm.eq ?_
        rw [List.drop_eq_getElem_cons hi, List.drop_eq_getElem_cons hj]
        generalize l.drop (i + 1) = A
        generalize m.drop (i + 1) = B
        generalize m[i] = x at *
        generalize l[i] = y at *
        simp [h]
    · rw [List.drop_eq_nil_of_le (by omega), List.drop_eq_nil_of_le (by omega)]
      exact Cm.eq (by simp)
theorem Equal_cm (l m : List Int) (hl : l.length < 4611686018427387904) : Cm (fun k => slices_Equal_uint16_uint16.f k l m) (decide (l = m)) := by
  refine Cm.ite (fun h => ?_) (fun h => ?_)
  · exact (Eq_l0 l m hl (by omega) _ 0 (Nat.le_refl _)).of (by simp)
  · refine Cm.eq ?_
    have : l ≠ m := fun e => h (by rw [e])
    simp [this]

def same (S I O S' I' O' : List Int) : Bool := decide (S = S') && decide (I = I') && decide (O = O')
theorem sSame_cm (S I O S' I' O' : List Int) (hS : S.length < 70368744177000) (hI : I.length < 70368744177000) (hO : O.length < 70368744177000) : Cm (fun k => sets_Same.f k S I O S' I' O') (same S I O S' I' O') := by
  unfold same
  refine Cm.bind (Equal_cm S S' (by omega)) (Cm.ite (fun h0 => Cm.bind (Equal_cm I I' (by omega)) (Cm.ite (fun h1 => Cm.bind (Equal_cm O O' (by omega)) (Cm.eq ?_)) (fun h1 => Cm.eq ?_))) (fun h0 => Cm.eq ?_))
  · rw [h0, h1]; simp
  · simp only [Bool.not_eq_true] at h1; rw [h1]; simp
  · simp only [Bool.not_eq_true] at h0; rw [h0]; simp
theorem rSame_cm (S I O S' I' O' : List Int) (hS : S.length < 70368744177000) (hI : I.length < 70368744177000) (hO : O.length < 70368744177000) : Cm (fun k => transomref8_SameSets.f k S I O S' I' O') (same S I O S' I' O') := by
  unfold same
  refine Cm.bind (SameSet_cm S S' (by omega)) (Cm.ite (fun h0 => Cm.bind (SameSet_cm I I' (by omega)) (Cm.ite (fun h1 => Cm.bind (SameSet_cm O O' (by omega)) (Cm.eq ?_)) (fun h1 => Cm.eq ?_))) (fun h0 => Cm.eq ?_))
  · rw [h0, h1]; simp
  · simp only [Bool.not_eq_true] at h1; rw [h1]; simp
  · simp only [Bool.not_eq_true] at h0; rw [h0]; simp

theorem sAdd_cm {S I O : List Int} (hS : R S) (hI : R I) (hO : R O) (c : Int) : Cm (fun k => sets_Add.f k S I O c) (le S [c], le I [c], un O [c]) := by
  have := hS.2
  have := hI.2
  have := hO.2
  exact Cm.bind (Cm.here _) (Cm.bind (cats_Less_ev S [c] (by first | omega | (simp; done) | (simp; omega))) (Cm.bind (cats_Less_ev I [c] (by first | omega | (simp; done) | (simp; omega))) (Cm.bind (cats_Or_ev O [c] (by first | omega | (simp; done) | (simp; omega))) (Cm.here _))))
theorem rAdd_cm {S I O : List Int} (hS : R S) (hI : R I) (hO : R O) (c : Int) : Cm (fun k => transomref8_Add.f k S I O c) (le S [c], le I [c], un O [c]) := by
  have := hS.2
  have := hI.2
  have := hO.2
  refine Cm.bind (Cm.here _) (Cm.bind (RLess_cm S [c] (by first | omega | (simp; done) | (simp; omega)) (by first | omega | (simp; done) | (simp; omega))) (Cm.bind (RLess_cm I [c] (by first | omega | (simp; done) | (simp; omega)) (by first | omega | (simp; done) | (simp; omega))) (Cm.bind (ROr_cm O [c] (by first | omega | (simp; done) | (simp; omega))) (Cm.eq ?_))))
  rw [fl_le hS.1 (R_one c).1, fl_le hI.1 (R_one c).1, mk_un hO.1 (R_one c).1]

def flows (S I S' I' : List Int) : Bool := (le S S' == []) && (le I' I == [])
theorem sFlows_cm (S I O S' I' O' : List Int) (h1 : S.length < 7036874417700) (h2 : I.length < 7036874417700) (h3 : S'.length < 7036874417700) (h4 : I'.length < 7036874417700) :
    Cm (fun k => sets_Flows.f k S I O S' I' O') (flows S I S' I') := by
  unfold flows
  refine Cm.bind (cats_In_ev S S' (by omega)) (Cm.ite (fun h0 => Cm.bind (cats_In_ev I' I (by omega)) (Cm.eq ?_)) (fun h0 => Cm.eq ?_))
  · show _ = ((mg (fun _ b => !b) S S' == []) && _); rw [h0]; rfl
  · show _ = ((mg (fun _ b => !b) S S' == []) && _); rw [Bool.not_eq_true] at h0; rw [h0]; rfl
theorem rFlows_cm {S I S' I' : List Int} (O O' : List Int) (hS : R S) (hI : R I) (hS' : R S') (hI' : R I') :
    Cm (fun k => transomref8_Flows.f k S I O S' I' O') (flows S I S' I') := by
  have := hS.2
  have := hI.2
  have := hS'.2
  have := hI'.2
  unfold flows
  rw [← fl_le hS.1 hS'.1, ← fl_le hI'.1 hI.1]
  refine Cm.bind (RIn_cm S S' (by omega) (by omega)) (Cm.ite (fun h0 => Cm.bind (RIn_cm I' I (by omega) (by omega)) (Cm.eq ?_)) (fun h0 => Cm.eq ?_))
  · rw [h0]; rfl
  · rw [Bool.not_eq_true] at h0; rw [h0]; rfl
theorem flows_iff {S I S' I' : List Int} (hS : R S) (hI : R I) (hS' : S'.Pairwise (· < ·)) (hI' : I'.Pairwise (· < ·)) : flows S I S' I' = true ↔ (∀ c ∈ S, c ∈ S') ∧ ∀ c ∈ I', c ∈ I := by
  unfold flows
  rw [Bool.and_eq_true, le_nil hS.1 hS', le_nil hI' hI.1]
theorem flows_iff' {S I S' I' : List Int} (hS : S.Pairwise (· < ·)) (hI : I.Pairwise (· < ·)) (hS' : S'.Pairwise (· < ·)) (hI' : I'.Pairwise (· < ·)) : flows S I S' I' = true ↔ (∀ c ∈ S, c ∈ S') ∧ ∀ c ∈ I', c ∈ I := by
  unfold flows
  rw [Bool.and_eq_true, le_nil hS hS', le_nil hI' hI]

theorem sJoin_cm {S I S' I' : List Int} (O O' : List Int) (hS : R S) (hI : R I) (hS' : R S') (hI' : R I') : Cm (fun k => sets_Join.f k S I O S' I' O') (un S S', an I I', []) := by
  have := hS.2
  have := hI.2
  have := hS'.2
  have := hI'.2
  exact Cm.bind (cats_Or_ev S S' (by omega)) (Cm.bind (cats_And_ev I I' (by omega)) (Cm.here _))
theorem rJoin_cm {S I S' I' : List Int} (O O' : List Int) (hS : R S) (hI : R I) (hS' : R S') (hI' : R I') : Cm (fun k => transomref8_Join.f k S I O S' I' O') (un S S', an I I', []) := by
  have := hS.2
  have := hI.2
  have := hS'.2
  have := hI'.2
  refine Cm.bind (ROr_cm S S' (by omega)) (Cm.bind (RAnd_cm I I' (by omega) (by omega)) (Cm.eq ?_))
  rw [mk_un hS.1 hS'.1, fl_an hI.1 hI'.1]

theorem same_refl (S I O : List Int) : same S I O S I O = true := by simp [same]
end Go.Proofs.Ytfbfgaaaegbihaa.PA
