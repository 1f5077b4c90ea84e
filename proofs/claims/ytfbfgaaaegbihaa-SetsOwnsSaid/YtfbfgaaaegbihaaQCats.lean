/-
  What cats does: rises, May, Or, And, Less, In, of rising lists. No condition but lengths.
-/
import Derived.Test.YtfbfgaaaegbihaaPAx1
import Derived.Test.YtfbfgaaaegbihaaPAx2
import Derived.Test.YtfbfgaaaegbihaaPAx4
import Derived.Test.YtfbfgaaaegbihaaPAx5
import Derived.Test.YtfbfgaaaegbihaaPAx6
import Derived.Test.YtfbfgaaaegbihaaXEv
namespace Go.Proofs.Ytfbfgaaaegbihaa.PA
open Go Go.RowKit Go.Proofs.YtfbfgaaaegbihaaW.PrintWords Go.Proofs.YtfbfgaaaegbihaaW.PJ

theorem rd_nat (l : List Int) (i : Nat) (h : i < l.length) : rd l (i : Int) = l[i] := by
  unfold rd; simp [List.getD_eq_getElem?_getD, h]
theorem w64 {n : Int} (h : -9223372036854775808 ≤ n) (h' : n ≤ 9223372036854775807) : wrap64 n = n := by unfold wrap64; omega

theorem rises_ev (l : List Int) (hl : l.length < 4611686018427387904) : ∀ (n i : Nat), 1 ≤ i → l.length + 1 - i ≤ n → Cm (fun k => cats_rises.l0 k l (i : Int)) (asc (l.drop (i - 1)))
  | 0, i, h1, hn => by
    refine Cm.step (fun _ => cats_rises.l0.eq_2 ..) (Cm.pos (by omega) ?_)
    rw [List.drop_eq_nil_of_le (by omega)]
    exact Cm.here _
  | n + 1, i, h1, hn => by
    refine Cm.step (fun _ => cats_rises.l0.eq_2 ..) (Cm.ite (fun h => ?_) (fun h => ?_))
    · by_cases h2 : i - 1 < l.length
      · rw [List.drop_eq_getElem_cons h2, List.drop_eq_nil_of_le (by omega)]
        exact Cm.here _
      · rw [List.drop_eq_nil_of_le (by omega)]
        exact Cm.here _
    · have e1 : wrap64 ((i : Int) - 1) = ((i - 1 : Nat) : Int) := by rw [w64 (by omega) (by omega)]; omega
      have e2 : wrap64 ((i : Int) + 1) = ((i + 1 : Nat) : Int) := by rw [w64 (by omega) (by omega)]; omega
      have hi : i < l.length := by omega
      rw [e1, e2, rd_nat l i hi, rd_nat l (i - 1) (by omega)]
      refine Cm.pos (by omega) (Cm.pos (by omega) (Cm.pos (by omega) (Cm.pos (by omega) ?_)))
      have e3 : l.drop (i - 1) = l[i - 1] :: l.drop i := by
        rw [List.drop_eq_getElem_cons (by omega : i - 1 < l.length)]
        congr 1
        congr 1
        omega
      rw [e3, List.drop_eq_getElem_cons hi, asc]
      refine Cm.ite (fun h => ?_) (fun h => ?_)
      · exact Cm.eq (by simp only [ge_iff_le] at h; simp; intro h'; omega)
      · refine (rises_ev l hl n (i + 1) (by omega) (by omega)).of ?_
        have : l[i - 1] < l[i] := by omega
        simp only [Nat.add_sub_cancel, List.drop_eq_getElem_cons hi, this, decide_true, Bool.true_and]

theorem cats_May_ev (l : List Int) (hl : l.length < 4611686018427387904) : Cm (fun k => cats_May.f k l) (decide (l.length ≤ 16) && asc l) := by
  refine Cm.ite (fun h => ?_) (fun h => ?_)
  · refine Cm.bind (rises_ev l hl _ 1 (Nat.le_refl _) (Nat.le_refl _)) ?_
    refine Cm.eq ?_
    have : l.length ≤ 16 := by omega
    simp [this]
  · refine Cm.eq ?_
    have : ¬ l.length ≤ 16 := by omega
    simp [this]

theorem Or_1_ev (a b : Bool) : Cm (fun _ => cats_Or_1.f a b) true := Cm.here _
theorem And_1_ev (a b : Bool) : Cm (fun _ => cats_And_1.f a b) (a && b) := by
  cases a
  · exact Cm.neg (by simp) (Cm.here _)
  · exact Cm.pos rfl (Cm.here _)
theorem Less_1_ev (a b : Bool) : Cm (fun _ => cats_Less_1.f a b) (!b) := Cm.here _
theorem rd0 (x : Int) (a : List Int) : rd (x :: a) 0 = x := rfl

theorem Or_j3in {v : List Int} {x : Int} {a b acc : List Int} {too : Bool} {c : Int} (hl : acc.length < 70368744177664)
    (h : Cm (fun k => cats_merge_at_53.l0 k a b (if ((fun _ _ => true) : Bool → Bool → Bool) true too then acc ++ [x] else acc)) v) : Cm (fun k => cats_merge_at_53.j3 k (x :: a) b acc true too c) v := by
  refine Cm.step (fun _ => cats_merge_at_53.j3.eq_2 ..) (Cm.pos rfl (Cm.pos (by first | omega | (simp; done) | (simp; omega)) (Cm.pos (by first | omega | (simp; done) | (simp; omega)) (Cm.bind (Cm.here _) (Cm.bind (Or_1_ev _ _) (Cm.ite (fun hk => Cm.pos hl ?_) (fun hk => ?_)))))))
  · rw [if_pos hk] at h; simpa [rd0] using h
  · rw [if_neg hk] at h; simpa [rd0] using h
theorem Or_j3out {v : List Int} {a b acc : List Int} {too : Bool} {c : Int} (hl : acc.length < 70368744177664)
    (h : Cm (fun k => cats_merge_at_53.l0 k a b (if ((fun _ _ => true) : Bool → Bool → Bool) false too then acc ++ [c] else acc)) v) : Cm (fun k => cats_merge_at_53.j3 k a b acc false too c) v := by
  refine Cm.step (fun _ => cats_merge_at_53.j3.eq_2 ..) (Cm.neg (by simp) (Cm.bind (Or_1_ev _ _) (Cm.ite (fun hk => Cm.pos hl ?_) (fun hk => ?_))))
  · rw [if_pos hk] at h; exact h
  · rw [if_neg hk] at h; exact h
theorem Or_j2too {v : List Int} {y : Int} {a b acc : List Int} {i : Bool}
    (h : Cm (fun k => cats_merge_at_53.j3 k a b acc i true y) v) : Cm (fun k => cats_merge_at_53.j2 k a (y :: b) acc i true) v := by
  refine Cm.step (fun _ => cats_merge_at_53.j2.eq_2 ..) (Cm.pos rfl (Cm.pos (by first | omega | (simp; done) | (simp; omega)) (Cm.pos (by first | omega | (simp; done) | (simp; omega)) ?_)))
  simpa [rd0] using h
theorem Or_j2not {v : List Int} {a b acc : List Int} {i : Bool}
    (h : Cm (fun k => cats_merge_at_53.j3 k a b acc i false 0) v) : Cm (fun k => cats_merge_at_53.j2 k a b acc i false) v :=
  Cm.step (fun _ => cats_merge_at_53.j2.eq_2 ..) (Cm.neg (by simp) h)
theorem Or_merge_ev (n : Nat) : ∀ (a b acc : List Int), a.length + b.length ≤ n → a.length + b.length + acc.length < 70368744177664 → Cm (fun k => cats_merge_at_53.l0 k a b acc) (acc ++ mg (fun _ _ => true) a b) := by
  induction n with
  | zero =>
    intro a b acc hn hl
    obtain rfl := List.eq_nil_of_length_eq_zero (by omega : a.length = 0)
    obtain rfl := List.eq_nil_of_length_eq_zero (by omega : b.length = 0)
    exact Cm.step (fun _ => cats_merge_at_53.l0.eq_2 ..) (Cm.pos (by simp [wrap64]) (Cm.eq (by simp [mg])))
  | succ n ih =>
    intro a b acc hn hl
    refine Cm.step (fun _ => cats_merge_at_53.l0.eq_2 ..) ?_
    cases a with
    | nil =>
      cases b with
      | nil => exact Cm.pos (by simp [wrap64]) (Cm.eq (by simp [mg]))
      | cons y b =>
        simp only [List.length_cons, List.length_nil] at hn hl
        refine Cm.neg (by rw [w64 (by omega) (by first | omega | (simp; done) | (simp; omega))]; simp; omega) (Cm.neg (by first | omega | (simp; done) | (simp; omega)) (Cm.neg (by simp) ?_))
        refine Cm.step (fun _ => cats_merge_at_53.j1.eq_2 ..) (Cm.pos (by simp) (Or_j2too (Or_j3out (by omega) ?_)))
        refine (ih [] b _ (by first | omega | (simp; done) | (simp; omega)) ?_).of ?_
        · split <;> first | omega | (simp; done) | (simp; omega)
        · rw [mg]; split <;> simp
    | cons x a =>
      cases b with
      | nil =>
        simp only [List.length_cons, List.length_nil] at hn hl
        refine Cm.neg (by rw [w64 (by omega) (by first | omega | (simp; done) | (simp; omega))]; simp; omega) (Cm.pos (by simp) ?_)
        refine Cm.step (fun _ => cats_merge_at_53.j1.eq_2 ..) (Cm.neg (by first | omega | (simp; done) | (simp; omega)) (Cm.neg (by simp) (Or_j2not (Or_j3in (by omega) ?_))))
        refine (ih a [] _ (by first | omega | (simp; done) | (simp; omega)) ?_).of ?_
        · split <;> first | omega | (simp; done) | (simp; omega)
        · rw [mg]; split <;> simp
      | cons y b =>
        simp only [List.length_cons] at hn hl
        refine Cm.neg (by rw [w64 (by omega) (by first | omega | (simp; done) | (simp; omega))]; simp; omega) (Cm.neg (by first | omega | (simp; done) | (simp; omega)) (Cm.pos (by first | omega | (simp; done) | (simp; omega)) (Cm.pos (by first | omega | (simp; done) | (simp; omega)) (Cm.pos (by first | omega | (simp; done) | (simp; omega)) ?_))))
        refine Cm.step (fun _ => cats_merge_at_53.j1.eq_2 ..) (Cm.neg (by first | omega | (simp; done) | (simp; omega)) (Cm.pos (by first | omega | (simp; done) | (simp; omega)) (Cm.pos (by first | omega | (simp; done) | (simp; omega)) (Cm.pos (by first | omega | (simp; done) | (simp; omega)) ?_))))
        rw [rd0, rd0, mg]
        by_cases hxy : x = y
        · subst hxy
          rw [decide_eq_true (Int.le_refl x), if_pos rfl]
          refine Or_j2too (Or_j3in (by omega) ?_)
          refine (ih a b _ (by omega) ?_).of ?_
          · split <;> first | omega | (simp; done) | (simp; omega)
          · split <;> simp
        · rw [if_neg hxy]
          by_cases hlt : x < y
          · rw [if_pos hlt, decide_eq_true (by omega : x ≤ y), decide_eq_false (by omega : ¬ y ≤ x)]
            refine Or_j2not (Or_j3in (by omega) ?_)
            refine (ih a (y :: b) _ (by first | omega | (simp; done) | (simp; omega)) ?_).of ?_
            · split <;> first | omega | (simp; done) | (simp; omega)
            · split <;> simp
          · rw [if_neg hlt, decide_eq_false (by omega : ¬ x ≤ y), decide_eq_true (by omega : y ≤ x)]
            refine Or_j2too (Or_j3out (by omega) ?_)
            refine (ih (x :: a) b _ (by first | omega | (simp; done) | (simp; omega)) ?_).of ?_
            · split <;> first | omega | (simp; done) | (simp; omega)
            · split <;> simp
theorem cats_Or_ev (a b : List Int) (hl : a.length + b.length < 70368744177664) : Cm (fun k => cats_Or.f k a b) (mg (fun _ _ => true) a b) :=
  Cm.bind ((Or_merge_ev _ a b [] (Nat.le_refl _) (by simpa using hl)).of (by simp)) (Cm.here _)
theorem And_j3in {v : List Int} {x : Int} {a b acc : List Int} {too : Bool} {c : Int} (hl : acc.length < 70368744177664)
    (h : Cm (fun k => cats_merge_at_57.l0 k a b (if ((fun a b => a && b) : Bool → Bool → Bool) true too then acc ++ [x] else acc)) v) : Cm (fun k => cats_merge_at_57.j3 k (x :: a) b acc true too c) v := by
  refine Cm.step (fun _ => cats_merge_at_57.j3.eq_2 ..) (Cm.pos rfl (Cm.pos (by first | omega | (simp; done) | (simp; omega)) (Cm.pos (by first | omega | (simp; done) | (simp; omega)) (Cm.bind (Cm.here _) (Cm.bind (And_1_ev _ _) (Cm.ite (fun hk => Cm.pos hl ?_) (fun hk => ?_)))))))
  · rw [if_pos hk] at h; simpa [rd0] using h
  · rw [if_neg hk] at h; simpa [rd0] using h
theorem And_j3out {v : List Int} {a b acc : List Int} {too : Bool} {c : Int} (hl : acc.length < 70368744177664)
    (h : Cm (fun k => cats_merge_at_57.l0 k a b (if ((fun a b => a && b) : Bool → Bool → Bool) false too then acc ++ [c] else acc)) v) : Cm (fun k => cats_merge_at_57.j3 k a b acc false too c) v := by
  refine Cm.step (fun _ => cats_merge_at_57.j3.eq_2 ..) (Cm.neg (by simp) (Cm.bind (And_1_ev _ _) (Cm.ite (fun hk => Cm.pos hl ?_) (fun hk => ?_))))
  · rw [if_pos hk] at h; exact h
  · rw [if_neg hk] at h; exact h
theorem And_j2too {v : List Int} {y : Int} {a b acc : List Int} {i : Bool}
    (h : Cm (fun k => cats_merge_at_57.j3 k a b acc i true y) v) : Cm (fun k => cats_merge_at_57.j2 k a (y :: b) acc i true) v := by
  refine Cm.step (fun _ => cats_merge_at_57.j2.eq_2 ..) (Cm.pos rfl (Cm.pos (by first | omega | (simp; done) | (simp; omega)) (Cm.pos (by first | omega | (simp; done) | (simp; omega)) ?_)))
  simpa [rd0] using h
theorem And_j2not {v : List Int} {a b acc : List Int} {i : Bool}
    (h : Cm (fun k => cats_merge_at_57.j3 k a b acc i false 0) v) : Cm (fun k => cats_merge_at_57.j2 k a b acc i false) v :=
  Cm.step (fun _ => cats_merge_at_57.j2.eq_2 ..) (Cm.neg (by simp) h)
theorem And_merge_ev (n : Nat) : ∀ (a b acc : List Int), a.length + b.length ≤ n → a.length + b.length + acc.length < 70368744177664 → Cm (fun k => cats_merge_at_57.l0 k a b acc) (acc ++ mg (fun a b => a && b) a b) := by
  induction n with
  | zero =>
    intro a b acc hn hl
    obtain rfl := List.eq_nil_of_length_eq_zero (by omega : a.length = 0)
    obtain rfl := List.eq_nil_of_length_eq_zero (by omega : b.length = 0)
    exact Cm.step (fun _ => cats_merge_at_57.l0.eq_2 ..) (Cm.pos (by simp [wrap64]) (Cm.eq (by simp [mg])))
  | succ n ih =>
    intro a b acc hn hl
    refine Cm.step (fun _ => cats_merge_at_57.l0.eq_2 ..) ?_
    cases a with
    | nil =>
      cases b with
      | nil => exact Cm.pos (by simp [wrap64]) (Cm.eq (by simp [mg]))
      | cons y b =>
        simp only [List.length_cons, List.length_nil] at hn hl
        refine Cm.neg (by rw [w64 (by omega) (by first | omega | (simp; done) | (simp; omega))]; simp; omega) (Cm.neg (by first | omega | (simp; done) | (simp; omega)) (Cm.neg (by simp) ?_))
        refine Cm.step (fun _ => cats_merge_at_57.j1.eq_2 ..) (Cm.pos (by simp) (And_j2too (And_j3out (by omega) ?_)))
        refine (ih [] b _ (by first | omega | (simp; done) | (simp; omega)) ?_).of ?_
        · split <;> first | omega | (simp; done) | (simp; omega)
        · rw [mg]; split <;> simp
    | cons x a =>
      cases b with
      | nil =>
        simp only [List.length_cons, List.length_nil] at hn hl
        refine Cm.neg (by rw [w64 (by omega) (by first | omega | (simp; done) | (simp; omega))]; simp; omega) (Cm.pos (by simp) ?_)
        refine Cm.step (fun _ => cats_merge_at_57.j1.eq_2 ..) (Cm.neg (by first | omega | (simp; done) | (simp; omega)) (Cm.neg (by simp) (And_j2not (And_j3in (by omega) ?_))))
        refine (ih a [] _ (by first | omega | (simp; done) | (simp; omega)) ?_).of ?_
        · split <;> first | omega | (simp; done) | (simp; omega)
        · rw [mg]; split <;> simp
      | cons y b =>
        simp only [List.length_cons] at hn hl
        refine Cm.neg (by rw [w64 (by omega) (by first | omega | (simp; done) | (simp; omega))]; simp; omega) (Cm.neg (by first | omega | (simp; done) | (simp; omega)) (Cm.pos (by first | omega | (simp; done) | (simp; omega)) (Cm.pos (by first | omega | (simp; done) | (simp; omega)) (Cm.pos (by first | omega | (simp; done) | (simp; omega)) ?_))))
        refine Cm.step (fun _ => cats_merge_at_57.j1.eq_2 ..) (Cm.neg (by first | omega | (simp; done) | (simp; omega)) (Cm.pos (by first | omega | (simp; done) | (simp; omega)) (Cm.pos (by first | omega | (simp; done) | (simp; omega)) (Cm.pos (by first | omega | (simp; done) | (simp; omega)) ?_))))
        rw [rd0, rd0, mg]
        by_cases hxy : x = y
        · subst hxy
          rw [decide_eq_true (Int.le_refl x), if_pos rfl]
          refine And_j2too (And_j3in (by omega) ?_)
          refine (ih a b _ (by omega) ?_).of ?_
          · split <;> first | omega | (simp; done) | (simp; omega)
          · split <;> simp
        · rw [if_neg hxy]
          by_cases hlt : x < y
          · rw [if_pos hlt, decide_eq_true (by omega : x ≤ y), decide_eq_false (by omega : ¬ y ≤ x)]
            refine And_j2not (And_j3in (by omega) ?_)
            refine (ih a (y :: b) _ (by first | omega | (simp; done) | (simp; omega)) ?_).of ?_
            · split <;> first | omega | (simp; done) | (simp; omega)
            · split <;> simp
          · rw [if_neg hlt, decide_eq_false (by omega : ¬ x ≤ y), decide_eq_true (by omega : y ≤ x)]
            refine And_j2too (And_j3out (by omega) ?_)
            refine (ih (x :: a) b _ (by first | omega | (simp; done) | (simp; omega)) ?_).of ?_
            · split <;> first | omega | (simp; done) | (simp; omega)
            · split <;> simp
theorem cats_And_ev (a b : List Int) (hl : a.length + b.length < 70368744177664) : Cm (fun k => cats_And.f k a b) (mg (fun a b => a && b) a b) :=
  Cm.bind ((And_merge_ev _ a b [] (Nat.le_refl _) (by simpa using hl)).of (by simp)) (Cm.here _)
theorem Less_j3in {v : List Int} {x : Int} {a b acc : List Int} {too : Bool} {c : Int} (hl : acc.length < 70368744177664)
    (h : Cm (fun k => cats_merge_at_55.l0 k a b (if ((fun _ b => !b) : Bool → Bool → Bool) true too then acc ++ [x] else acc)) v) : Cm (fun k => cats_merge_at_55.j3 k (x :: a) b acc true too c) v := by
  refine Cm.step (fun _ => cats_merge_at_55.j3.eq_2 ..) (Cm.pos rfl (Cm.pos (by first | omega | (simp; done) | (simp; omega)) (Cm.pos (by first | omega | (simp; done) | (simp; omega)) (Cm.bind (Cm.here _) (Cm.bind (Less_1_ev _ _) (Cm.ite (fun hk => Cm.pos hl ?_) (fun hk => ?_)))))))
  · rw [if_pos hk] at h; simpa [rd0] using h
  · rw [if_neg hk] at h; simpa [rd0] using h
theorem Less_j3out {v : List Int} {a b acc : List Int} {too : Bool} {c : Int} (hl : acc.length < 70368744177664)
    (h : Cm (fun k => cats_merge_at_55.l0 k a b (if ((fun _ b => !b) : Bool → Bool → Bool) false too then acc ++ [c] else acc)) v) : Cm (fun k => cats_merge_at_55.j3 k a b acc false too c) v := by
  refine Cm.step (fun _ => cats_merge_at_55.j3.eq_2 ..) (Cm.neg (by simp) (Cm.bind (Less_1_ev _ _) (Cm.ite (fun hk => Cm.pos hl ?_) (fun hk => ?_))))
  · rw [if_pos hk] at h; exact h
  · rw [if_neg hk] at h; exact h
theorem Less_j2too {v : List Int} {y : Int} {a b acc : List Int} {i : Bool}
    (h : Cm (fun k => cats_merge_at_55.j3 k a b acc i true y) v) : Cm (fun k => cats_merge_at_55.j2 k a (y :: b) acc i true) v := by
  refine Cm.step (fun _ => cats_merge_at_55.j2.eq_2 ..) (Cm.pos rfl (Cm.pos (by first | omega | (simp; done) | (simp; omega)) (Cm.pos (by first | omega | (simp; done) | (simp; omega)) ?_)))
  simpa [rd0] using h
theorem Less_j2not {v : List Int} {a b acc : List Int} {i : Bool}
    (h : Cm (fun k => cats_merge_at_55.j3 k a b acc i false 0) v) : Cm (fun k => cats_merge_at_55.j2 k a b acc i false) v :=
  Cm.step (fun _ => cats_merge_at_55.j2.eq_2 ..) (Cm.neg (by simp) h)
theorem Less_merge_ev (n : Nat) : ∀ (a b acc : List Int), a.length + b.length ≤ n → a.length + b.length + acc.length < 70368744177664 → Cm (fun k => cats_merge_at_55.l0 k a b acc) (acc ++ mg (fun _ b => !b) a b) := by
  induction n with
  | zero =>
    intro a b acc hn hl
    obtain rfl := List.eq_nil_of_length_eq_zero (by omega : a.length = 0)
    obtain rfl := List.eq_nil_of_length_eq_zero (by omega : b.length = 0)
    exact Cm.step (fun _ => cats_merge_at_55.l0.eq_2 ..) (Cm.pos (by simp [wrap64]) (Cm.eq (by simp [mg])))
  | succ n ih =>
    intro a b acc hn hl
    refine Cm.step (fun _ => cats_merge_at_55.l0.eq_2 ..) ?_
    cases a with
    | nil =>
      cases b with
      | nil => exact Cm.pos (by simp [wrap64]) (Cm.eq (by simp [mg]))
      | cons y b =>
        simp only [List.length_cons, List.length_nil] at hn hl
        refine Cm.neg (by rw [w64 (by omega) (by first | omega | (simp; done) | (simp; omega))]; simp; omega) (Cm.neg (by first | omega | (simp; done) | (simp; omega)) (Cm.neg (by simp) ?_))
        refine Cm.step (fun _ => cats_merge_at_55.j1.eq_2 ..) (Cm.pos (by simp) (Less_j2too (Less_j3out (by omega) ?_)))
        refine (ih [] b _ (by first | omega | (simp; done) | (simp; omega)) ?_).of ?_
        · split <;> first | omega | (simp; done) | (simp; omega)
        · rw [mg]; split <;> simp
    | cons x a =>
      cases b with
      | nil =>
        simp only [List.length_cons, List.length_nil] at hn hl
        refine Cm.neg (by rw [w64 (by omega) (by first | omega | (simp; done) | (simp; omega))]; simp; omega) (Cm.pos (by simp) ?_)
        refine Cm.step (fun _ => cats_merge_at_55.j1.eq_2 ..) (Cm.neg (by first | omega | (simp; done) | (simp; omega)) (Cm.neg (by simp) (Less_j2not (Less_j3in (by omega) ?_))))
        refine (ih a [] _ (by first | omega | (simp; done) | (simp; omega)) ?_).of ?_
        · split <;> first | omega | (simp; done) | (simp; omega)
        · rw [mg]; split <;> simp
      | cons y b =>
        simp only [List.length_cons] at hn hl
        refine Cm.neg (by rw [w64 (by omega) (by first | omega | (simp; done) | (simp; omega))]; simp; omega) (Cm.neg (by first | omega | (simp; done) | (simp; omega)) (Cm.pos (by first | omega | (simp; done) | (simp; omega)) (Cm.pos (by first | omega | (simp; done) | (simp; omega)) (Cm.pos (by first | omega | (simp; done) | (simp; omega)) ?_))))
        refine Cm.step (fun _ => cats_merge_at_55.j1.eq_2 ..) (Cm.neg (by first | omega | (simp; done) | (simp; omega)) (Cm.pos (by first | omega | (simp; done) | (simp; omega)) (Cm.pos (by first | omega | (simp; done) | (simp; omega)) (Cm.pos (by first | omega | (simp; done) | (simp; omega)) ?_))))
        rw [rd0, rd0, mg]
        by_cases hxy : x = y
        · subst hxy
          rw [decide_eq_true (Int.le_refl x), if_pos rfl]
          refine Less_j2too (Less_j3in (by omega) ?_)
          refine (ih a b _ (by omega) ?_).of ?_
          · split <;> first | omega | (simp; done) | (simp; omega)
          · split <;> simp
        · rw [if_neg hxy]
          by_cases hlt : x < y
          · rw [if_pos hlt, decide_eq_true (by omega : x ≤ y), decide_eq_false (by omega : ¬ y ≤ x)]
            refine Less_j2not (Less_j3in (by omega) ?_)
            refine (ih a (y :: b) _ (by first | omega | (simp; done) | (simp; omega)) ?_).of ?_
            · split <;> first | omega | (simp; done) | (simp; omega)
            · split <;> simp
          · rw [if_neg hlt, decide_eq_false (by omega : ¬ x ≤ y), decide_eq_true (by omega : y ≤ x)]
            refine Less_j2too (Less_j3out (by omega) ?_)
            refine (ih (x :: a) b _ (by first | omega | (simp; done) | (simp; omega)) ?_).of ?_
            · split <;> first | omega | (simp; done) | (simp; omega)
            · split <;> simp
theorem cats_Less_ev (a b : List Int) (hl : a.length + b.length < 70368744177664) : Cm (fun k => cats_Less.f k a b) (mg (fun _ b => !b) a b) :=
  Cm.bind ((Less_merge_ev _ a b [] (Nat.le_refl _) (by simpa using hl)).of (by simp)) (Cm.here _)
theorem cats_In_ev (a b : List Int) (hl : a.length + b.length < 70368744177664) : Cm (fun k => cats_In.f k a b) (mg (fun _ b => !b) a b == []) :=
  Cm.bind (cats_Less_ev a b hl) (Cm.eq (by cases mg (fun _ b => !b) a b <;> simp <;> omega))
end Go.Proofs.Ytfbfgaaaegbihaa.PA
