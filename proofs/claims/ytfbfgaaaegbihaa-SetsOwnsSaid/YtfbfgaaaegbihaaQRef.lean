/-
  What the document's answer does with sets: MaySet, Make, Or, part, Has, SameSet. No condition but lengths.
-/
import Derived.Test.YtfbfgaaaegbihaaPAx10
import Derived.Test.YtfbfgaaaegbihaaPAx7
import Derived.Test.YtfbfgaaaegbihaaPAx8
import Derived.Test.YtfbfgaaaegbihaaPAx9
import Derived.Test.YtfbfgaaaegbihaaXEv
namespace Go.Proofs.Ytfbfgaaaegbihaa.PA
open Go Go.RowKit Go.Proofs.YtfbfgaaaegbihaaW.PrintWords Go.Proofs.YtfbfgaaaegbihaaW.PJ

theorem rd_at (l : List Int) (i : Nat) (h : i < l.length) : rd l (i : Int) = l[i] := by
  unfold rd; simp [List.getD_eq_getElem?_getD, h]
theorem wup (i : Nat) (h : i < 4611686018427387904) : wrap64 ((i : Int) + 1) = ((i + 1 : Nat) : Int) := by unfold wrap64; omega
theorem wdn (i : Nat) (h : i < 4611686018427387904) (h1 : 1 ≤ i) : wrap64 ((i : Int) - 1) = ((i - 1 : Nat) : Int) := by unfold wrap64; omega

theorem MaySet_l0 (l : List Int) (hl : l.length < 4611686018427387904) : ∀ (n i : Nat), 1 ≤ i → l.length + 1 - i ≤ n → Cm (fun k => transomref1_MaySet.l0 k l (i : Int)) (asc (l.drop (i - 1)) && decide (l.length ≤ 16))
  | 0, i, h1, hn => by
    refine Cm.step (fun _ => transomref1_MaySet.l0.eq_2 ..) (Cm.neg (by omega) ?_)
    rw [List.drop_eq_nil_of_le (by omega)]
    exact Cm.eq (by simp [asc]; omega)
  | n + 1, i, h1, hn => by
    refine Cm.step (fun _ => transomref1_MaySet.l0.eq_2 ..) (Cm.ite (fun h => ?_) (fun h => ?_))
    · have hi : i < l.length := by omega
      rw [wdn i (by omega) h1, wup i (by omega), rd_at l i hi, rd_at l (i - 1) (by omega)]
      refine Cm.pos (by omega) (Cm.pos (by omega) (Cm.pos (by omega) ?_))
      have e3 : l.drop (i - 1) = l[i - 1] :: l.drop i := by
        rw [List.drop_eq_getElem_cons (by omega : i - 1 < l.length)]
        congr 1
        congr 1
        omega
      rw [e3, List.drop_eq_getElem_cons hi, asc]
      refine Cm.ite (fun h => ?_) (fun h => ?_)
      · have : ¬ l[i - 1] < l[i] := by omega
        exact Cm.eq (by simp [this])
      · refine (MaySet_l0 l hl n (i + 1) (by omega) (by omega)).of ?_
        have : l[i - 1] < l[i] := by omega
        simp only [Nat.add_sub_cancel, List.drop_eq_getElem_cons hi, this, decide_true, Bool.true_and]
    · have e : asc (l.drop (i - 1)) = true := by
        by_cases h2 : i - 1 < l.length
        · rw [List.drop_eq_getElem_cons h2, List.drop_eq_nil_of_le (by omega)]; rfl
        · rw [List.drop_eq_nil_of_le (by omega)]; rfl
      rw [e]
      exact Cm.eq (by simp; omega)
theorem MaySet_cm (l : List Int) (hl : l.length < 4611686018427387904) : Cm (fun k => transomref1_MaySet.f k l) (asc l && decide (l.length ≤ 16)) :=
  MaySet_l0 l hl _ 1 (Nat.le_refl _) (Nat.le_refl _)

theorem Same_l0 (l m : List Int) (hl : l.length < 4611686018427387904) (he : l.length = m.length) : ∀ (n i : Nat), l.length - i ≤ n → Cm (fun k => transomref1_SameSet.l0 k l m (i : Int)) (decide (l.drop i = m.drop i))
  | 0, i, hn => by
    refine Cm.step (fun _ => transomref1_SameSet.l0.eq_2 ..) (Cm.neg (by omega) ?_)
    rw [List.drop_eq_nil_of_le (by omega), List.drop_eq_nil_of_le (by omega)]
    exact Cm.eq (by simp)
  | n + 1, i, hn => by
    refine Cm.step (fun _ => transomref1_SameSet.l0.eq_2 ..) (Cm.ite (fun h => ?_) (fun h => ?_))
    · have hi : i < l.length := by omega
      have hj : i < m.length := by omega
      rw [wup i (by omega), rd_at l i hi, rd_at m i hj]
      refine Cm.pos (by omega) (Cm.pos (by omega) (Cm.ite (fun h => ?_) (fun h => ?_)))
      · refine (Same_l0 l m hl he n (i + 1) (by omega)).of ?_
        rw [List.drop_eq_getElem_cons hi, List.drop_eq_getElem_cons hj, h]
        generalize l.drop (i + 1) = A
        generalize m.drop (i + 1) = B
        generalize m[i] = x
        simp
      · refine Cm.eq ?_
        rw [List.drop_eq_getElem_cons hi, List.drop_eq_getElem_cons hj]
        generalize l.drop (i + 1) = A
        generalize m.drop (i + 1) = B
        generalize m[i] = x at *
        generalize l[i] = y at *
        simp [h]
    · rw [List.drop_eq_nil_of_le (by omega), List.drop_eq_nil_of_le (by omega)]
      exact Cm.eq (by simp)
theorem SameSet_cm (l m : List Int) (hl : l.length < 4611686018427387904) : Cm (fun k => transomref1_SameSet.f k l m) (decide (l = m)) := by
  refine Cm.ite (fun h => ?_) (fun h => ?_)
  · exact (Same_l0 l m hl (by omega) _ 0 (Nat.le_refl _)).of (by simp)
  · refine Cm.eq ?_
    have : l ≠ m := fun e => h (by rw [e])
    simp [this]

theorem Has_l0 (l : List Int) (c : Int) (hl : l.length < 4611686018427387904) : ∀ (n i : Nat), l.length - i ≤ n → Cm (fun k => transomref1_Has.l0 k l c (i : Int)) (decide (c ∈ l.drop i))
  | 0, i, hn => by
    refine Cm.step (fun _ => transomref1_Has.l0.eq_2 ..) (Cm.neg (by omega) ?_)
    rw [List.drop_eq_nil_of_le (by omega)]
    exact Cm.eq (by simp)
  | n + 1, i, hn => by
    refine Cm.step (fun _ => transomref1_Has.l0.eq_2 ..) (Cm.ite (fun h => ?_) (fun h => ?_))
    · have hi : i < l.length := by omega
      rw [wup i (by omega), rd_at l i hi, List.drop_eq_getElem_cons hi]
      refine Cm.pos (by omega) (Cm.ite (fun h => ?_) (fun h => ?_))
      · exact Cm.eq (by simp [h])
      · refine (Has_l0 l c hl n (i + 1) (by omega)).of ?_
        have : ¬ c = l[i] := fun e => h e.symm
        generalize l.drop (i + 1) = A
        generalize l[i] = y at *
        simp [this]
    · rw [List.drop_eq_nil_of_le (by omega)]
      exact Cm.eq (by simp)
theorem Has_cm (l : List Int) (c : Int) (hl : l.length < 4611686018427387904) : Cm (fun k => transomref1_Has.f k l c) (decide (c ∈ l)) :=
  (Has_l0 l c hl _ 0 (Nat.le_refl _)).of (by simp)

theorem part_l0 (a b : List Int) (q : Bool) (hb : b.length < 4611686018427387904) : ∀ (n i : Nat) (acc : List Int), i ≤ a.length → a.length - i ≤ n → acc.length + (a.length - i) < 70368744177664 → a.length < 4611686018427387904 →
    Cm (fun k => transomref1_part.l0 k a b q acc (i : Int)) (acc ++ (a.drop i).filter fun c => decide (c ∈ b) == q)
  | 0, i, acc, hi', hn, hacc, ha => by
    refine Cm.step (fun _ => transomref1_part.l0.eq_2 ..) (Cm.neg (by omega) ?_)
    rw [List.drop_eq_nil_of_le (by omega)]
    exact Cm.eq (by simp)
  | n + 1, i, acc, hi', hn, hacc, ha => by
    refine Cm.step (fun _ => transomref1_part.l0.eq_2 ..) (Cm.ite (fun h => ?_) (fun h => ?_))
    · have hi : i < a.length := by omega
      rw [wup i (by omega), rd_at a i hi, List.drop_eq_getElem_cons hi]
      refine Cm.pos (by omega) (Cm.bind (Has_cm b _ hb) (Cm.ite (fun h => Cm.pos (by omega) ?_) (fun h => ?_)))
      · refine (part_l0 a b q hb n (i + 1) _ (by omega) (by omega) (by simp; omega) ha).of ?_
        rw [List.filter_cons_of_pos (by simpa using h)]
        simp
      · refine (part_l0 a b q hb n (i + 1) _ (by omega) (by omega) (by omega) ha).of ?_
        rw [List.filter_cons_of_neg (by simpa using h)]
    · rw [List.drop_eq_nil_of_le (by omega)]
      exact Cm.eq (by simp)
theorem part_cm (a b : List Int) (q : Bool) (ha : a.length < 70368744177664) (hb : b.length < 4611686018427387904) : Cm (fun k => transomref1_part.f k a b q) (a.filter fun c => decide (c ∈ b) == q) :=
  (part_l0 a b q hb _ 0 [] (by omega) (Nat.le_refl _) (by simpa using ha) (by omega)).of (by simp)
theorem RLess_cm (a b : List Int) (ha : a.length < 70368744177664) (hb : b.length < 4611686018427387904) : Cm (fun k => transomref1_Less.f k a b) (a.filter fun c => decide (c ∈ b) == false) :=
  Cm.bind (part_cm a b false ha hb) (Cm.here _)
theorem RAnd_cm (a b : List Int) (ha : a.length < 70368744177664) (hb : b.length < 4611686018427387904) : Cm (fun k => transomref1_And.f k a b) (a.filter fun c => decide (c ∈ b) == true) :=
  Cm.bind (part_cm a b true ha hb) (Cm.here _)
theorem RIn_cm (a b : List Int) (ha : a.length < 70368744177664) (hb : b.length < 4611686018427387904) : Cm (fun k => transomref1_In.f k a b) ((a.filter fun c => decide (c ∈ b) == false) == []) :=
  Cm.bind (part_cm a b false ha hb) (Cm.eq (by cases (a.filter fun c => decide (c ∈ b) == false) <;> simp <;> omega))

theorem Make_j3t (l : List Int) (i : Nat) (hi : i < l.length) (hl : l.length < 4611686018427387904) (v : List Int) (out : List Int) (ho : out.length < 70368744177000) (j : Nat) (hj : j ≤ out.length)
    (h0 : Cm (fun k => transomref1_Make.l0 k l (out.take j ++ l[i] :: out.drop j) ((i + 1 : Nat) : Int)) v) : Cm (fun k => transomref1_Make.j3 k l out (i : Int) (j : Int) true) v := by
  refine Cm.step (fun _ => transomref1_Make.j3.eq_2 ..) (Cm.pos rfl (Cm.bind (Cm.here _) (Cm.pos (by omega) (Cm.pos (by omega) (Cm.bind (Cm.here _) ?_)))))
  rw [rd_at l i hi, wup i (by omega)]
  refine Cm.pos (by first | omega | (simp; done) | (simp; omega)) (Cm.bind (Cm.here _) (Cm.pos (by omega) (Cm.pos (by omega) (Cm.bind (Cm.here _) (Cm.pos (by first | omega | (simp; done) | (simp; omega)) (Cm.bind (Cm.here _) (Cm.bind (Cm.here _) (Cm.pos (by first | omega | (simp; done) | (simp; omega)) ?_))))))))
  have e : ([] ++ List.take (j : Int).toNat out ++ [l[i]] ++ List.drop (j : Int).toNat out) = out.take j ++ l[i] :: out.drop j := by simp
  rw [e]
  exact h0
theorem Make_j3f (l : List Int) (i : Nat) (hi : i < l.length) (hl : l.length < 4611686018427387904) (v : List Int) (out : List Int) (j : Nat)
    (h0 : Cm (fun k => transomref1_Make.l0 k l out ((i + 1 : Nat) : Int)) v) : Cm (fun k => transomref1_Make.j3 k l out (i : Int) (j : Int) false) v := by
  refine Cm.step (fun _ => transomref1_Make.j3.eq_2 ..) (Cm.neg (by simp) ?_)
  rw [wup i (by omega)]
  exact h0
theorem Make_l1 (l : List Int) (hl : l.length < 4611686018427387904) (i : Nat) (hi : i < l.length) (v : List Int) (out : List Int) (ho : out.length < 70368744177000)
    (h0 : Cm (fun k => transomref1_Make.l0 k l (ins l[i] out) ((i + 1 : Nat) : Int)) v) : ∀ (n j : Nat), out.length - j ≤ n → j ≤ out.length → out.take j ++ ins l[i] (out.drop j) = ins l[i] out →
    Cm (fun k => transomref1_Make.l1 k l out (i : Int) (j : Int)) v := by
  have last : ∀ j : Nat, j = out.length → out.take j ++ ins l[i] (out.drop j) = ins l[i] out → Cm (fun k => transomref1_Make.l1 k l out (i : Int) (j : Int)) v := by
    intro j hj he
    subst hj
    refine Cm.step (fun _ => transomref1_Make.l1.eq_2 ..) (Cm.neg (by omega) (Cm.step (fun _ => transomref1_Make.j2.eq_2 ..) (Cm.neg (by simp) (Cm.pos rfl (Make_j3t l i hi hl v out ho _ (Nat.le_refl _) ?_)))))
    rw [List.drop_length, ins] at he
    rw [List.drop_length, he]
    exact h0
  intro n
  induction n with
  | zero =>
    intro j hn hj he
    exact last j (by omega) he
  | succ n ih =>
    intro j hn hj he
    by_cases h : j < out.length
    · refine Cm.step (fun _ => transomref1_Make.l1.eq_2 ..) (Cm.pos (by omega) (Cm.pos (by omega) (Cm.pos (by omega) (Cm.pos (by omega) ?_))))
      rw [rd_at l i hi, rd_at out j h]
      rw [List.drop_eq_getElem_cons h, ins] at he
      by_cases hlt : out[j] < l[i]
      · rw [decide_eq_true hlt]
        refine Cm.step (fun _ => transomref1_Make.j2.eq_2 ..) (Cm.pos rfl ?_)
        rw [wup j (by omega)]
        refine ih (j + 1) (by omega) (by omega) ?_
        rw [if_pos hlt] at he
        rw [← he, List.take_succ_eq_append_getElem h, List.append_assoc]
        rfl
      · rw [decide_eq_false hlt]
        refine Cm.step (fun _ => transomref1_Make.j2.eq_2 ..) (Cm.neg (by simp) (Cm.neg (by omega) (Cm.pos (by omega) (Cm.pos (by omega) (Cm.pos (by omega) (Cm.pos (by omega) ?_))))))
        rw [rd_at l i hi, rd_at out j h]
        rw [if_neg hlt] at he
        by_cases heq : out[j] = l[i]
        · rw [heq, bne_self_eq_false]
          refine Make_j3f l i hi hl v out j ?_
          rw [if_pos heq] at he
          have : ins l[i] out = out := by rw [← he, ← List.drop_eq_getElem_cons h, List.take_append_drop]
          rw [this] at h0
          exact h0
        · rw [bne_iff_ne.2 heq]
          refine Make_j3t l i hi hl v out ho j (by omega) ?_
          rw [if_neg heq, ← List.drop_eq_getElem_cons h] at he
          rw [he]
          exact h0
    · exact last j (by omega) he
theorem Make_l0 (l : List Int) (hl : l.length < 4611686018427387904) : ∀ (n i : Nat) (out : List Int), l.length - i ≤ n → out.length + (l.length - i) < 70368744177000 → Cm (fun k => transomref1_Make.l0 k l out (i : Int)) (mk (l.drop i) out)
  | 0, i, out, hn, ho => by
    refine Cm.step (fun _ => transomref1_Make.l0.eq_2 ..) (Cm.neg (by omega) ?_)
    rw [List.drop_eq_nil_of_le (by omega)]
    exact Cm.here _
  | n + 1, i, out, hn, ho => by
    refine Cm.step (fun _ => transomref1_Make.l0.eq_2 ..) (Cm.ite (fun h => ?_) (fun h => ?_))
    · have hi : i < l.length := by omega
      have hlen := ins_len l[i] out
      have h0 := Make_l0 l hl n (i + 1) (ins l[i] out) (by omega) (by omega)
      rw [List.drop_eq_getElem_cons hi]
      exact Make_l1 l hl i hi _ out (by omega) h0 _ 0 (Nat.le_refl _) (by omega) (by simp)
    · rw [List.drop_eq_nil_of_le (by omega)]
      exact Cm.here _
theorem Make_cm (l : List Int) (hl : l.length < 70368744177000) : Cm (fun k => transomref1_Make.f k l) (mk l []) :=
  (Make_l0 l (by omega) _ 0 [] (Nat.le_refl _) (by simpa using hl)).of (by simp)
theorem ROr_cm (a b : List Int) (hl : a.length + b.length < 70368744177000) : Cm (fun k => transomref1_Or.f k a b) (mk (a ++ b) []) := by
  refine Cm.bind (Cm.here _) (Cm.pos (by first | omega | (simp; done) | (simp; omega)) (Cm.bind (Cm.here _) (Cm.pos (by first | omega | (simp; done) | (simp; omega)) (Cm.bind (Make_cm _ (by first | omega | (simp; done) | (simp; omega))) ?_))))
  exact Cm.eq (by simp)
end Go.Proofs.Ytfbfgaaaegbihaa.PA
