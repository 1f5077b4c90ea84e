/-
  NameAll, in plain Lean. Conditions: numbers of 64 bits.
-/
import Derived.Test.YtfgndnackofenaaQNames
import Derived.OpenShut
import Derived.Test.YtfgndnackofenaaPNx3
namespace Go.Proofs.Ytfgndnackofenaa.Pure
open Go Go.RowKit Go.Proofs.Ytfgndnackofenaa.PN Go.Proofs.YtfgndnackofenaaW.PrintWords Go.Proofs.YtfgndnackofenaaW.PJ

theorem Same_l0 (l : List Int) (hl : l.length < 4611686018427387904) : ∀ (n i : Nat), l.length - i ≤ n → Cm (fun k => transomref14_SameIDs.l0 k l l (i : Int)) true
  | 0, i, hn => Cm.step (fun _ => transomref14_SameIDs.l0.eq_2 ..) (Cm.neg (by omega) (Cm.here _))
  | n + 1, i, hn => by
    refine Cm.step (fun _ => transomref14_SameIDs.l0.eq_2 ..) (Cm.ite (fun h => ?_) (fun h => Cm.here _))
    rw [wup i (by omega)]
    exact Cm.pos (by omega) (Cm.pos h (Cm.pos rfl (Same_l0 l hl n (i + 1) (by omega))))
theorem Same_cm (l : List Int) (hl : l.length < 4611686018427387904) : Cm (fun k => transomref14_SameIDs.f k l l) true :=
  Cm.pos rfl (Same_l0 l hl _ 0 (Nat.le_refl _))
theorem RWithin_l0 (l : List Int) (c : Int) (hl : l.length < 4611686018427387904) : ∀ (n i : Nat), l.length - i ≤ n → Cm (fun k => transomref14_Within.l0 k c l (i : Int)) (decide (c ∈ l.drop i))
  | 0, i, hn => by
    refine Cm.step (fun _ => transomref14_Within.l0.eq_2 ..) (Cm.neg (by omega) ?_)
    rw [List.drop_eq_nil_of_le (by omega)]
    exact Cm.eq (by simp)
  | n + 1, i, hn => by
    refine Cm.step (fun _ => transomref14_Within.l0.eq_2 ..) (Cm.ite (fun h => ?_) (fun h => ?_))
    · have hi : i < l.length := by omega
      rw [wup i (by omega), rd_at l i hi, List.drop_eq_getElem_cons hi]
      refine Cm.pos (by omega) (Cm.ite (fun h => ?_) (fun h => ?_))
      · exact Cm.eq (by simp [h])
      · refine (RWithin_l0 l c hl n (i + 1) (by omega)).of ?_
        have : ¬ c = l[i] := fun e => h e.symm
        generalize l.drop (i + 1) = A
        generalize l[i] = y at *
        simp [this]
    · rw [List.drop_eq_nil_of_le (by omega)]
      exact Cm.eq (by simp)
theorem RWithin_cm (id b : Nat) (h : id < 18446744073709551616) : Cm (fun k => transomref14_Within.f k (id : Int) (b : Int)) (decide (b ∈ path id)) := by
  have hp := path_len id
  refine Cm.bind (RPath_cm id h) ((RWithin_l0 _ _ (by rw [ints_len]; omega) _ 0 (Nat.le_refl _)).of ?_)
  simp only [List.drop_zero, ints_mem]
theorem u64_nat {a : Int} (h : (Lit.int .u64 a).wf = true) : ∃ n : Nat, a = (n : Int) ∧ n < 18446744073709551616 := by
  have hb := bounds_u64 h
  obtain ⟨n, rfl⟩ := Int.eq_ofNat_of_zero_le hb.1
  exact ⟨n, rfl, by omega⟩

theorem NameAll : transomlaw14_NameAll.Pure := by
  intro a b n wa wb _
  obtain ⟨a, rfl, ha⟩ := u64_nat wa
  obtain ⟨b, rfl, hb⟩ := u64_nat wb
  have hp := path_len a
  refine Cm.ex (F := fun k => transomlaw14_NameAll.f k a b n) ?_
  refine Cm.bind begun14_cm (Cm.pos rfl (Cm.bind (Of_cm b n hb) (Cm.bind (ROf_cm b n hb) (Cm.pos rfl (Cm.pos rfl ?_)))))
  refine Cm.bind (May_cm a ha) (Cm.bind (RMay_cm a ha) (Cm.pos (by simp) ?_))
  refine Cm.bind (Parent_cm a ha) (Cm.bind (RParent_cm a ha) (Cm.pos rfl ?_))
  refine Cm.bind (Number_cm a ha) (Cm.bind (RNumber_cm a ha) (Cm.pos rfl ?_))
  refine Cm.bind (Depth_cm a ha) (Cm.bind (RDepth_cm a ha) (Cm.pos rfl ?_))
  refine Cm.bind (Path_cm a ha) (Cm.bind (RPath_cm a ha) (Cm.bind (Same_cm _ (by rw [ints_len]; omega)) (Cm.pos rfl ?_)))
  refine Cm.bind (Within_cm a b ha) (Cm.bind (RMay_cm b hb) (Cm.ite (fun _ => ?_) (fun h => ?_)))
  · exact Cm.bind (RWithin_cm a b ha) (Cm.eq (by simp))
  · refine Cm.eq ?_
    have : b ∉ path a := fun hm => h (by
      unfold path at hm
      cases hn : nm a with
      | none => rw [hn] at hm; cases hm
      | some c =>
        rw [hn] at hm
        obtain ⟨hc, hl⟩ := nm_chn hn
        rcases List.mem_cons.1 hm with rfl | hm
        · rfl
        · obtain ⟨p, s, he⟩ := List.append_of_mem (List.mem_reverse.1 hm)
          rw [chn_nm (chn_at (he ▸ hc)) (by rw [he] at hl; simp at hl ⊢; omega)]
          rfl)
    simp [this]
end Go.Proofs.Ytfgndnackofenaa.Pure
