/-
  NameWithin, in plain Lean. Conditions: numbers of 64 bits.
-/
import Derived.Test.YtfgndnackofenaaQNames
import Derived.OpenShut
import Derived.Test.YtfgndnackofenaaPNx6
namespace Go.Proofs.Ytfgndnackofenaa.Pure
open Go Go.RowKit Go.Proofs.Ytfgndnackofenaa.PN Go.Proofs.YtfgndnackofenaaW.PrintWords Go.Proofs.YtfgndnackofenaaW.PJ

theorem u64_nat' {a : Int} (h : (Lit.int .u64 a).wf = true) : ∃ n : Nat, a = (n : Int) ∧ n < 18446744073709551616 := by
  have hb := bounds_u64 h
  obtain ⟨n, rfl⟩ := Int.eq_ofNat_of_zero_le hb.1
  exact ⟨n, rfl, by omega⟩
theorem path_sub {a b c : Nat} (h : b ∈ path a) (k : c ∈ path b) : c ∈ path a := by
  unfold path at h k ⊢
  cases hn : nm a with
  | none => rw [hn] at h; cases h
  | some d =>
    rw [hn] at h
    obtain ⟨hc, hl⟩ := nm_chn hn
    rcases List.mem_cons.1 h with rfl | h
    · have : nm 1 = some [] := rfl
      rw [this] at k
      have : c = 1 := by simpa using k
      subst this
      simp
    · obtain ⟨p, s, he⟩ := List.append_of_mem (List.mem_reverse.1 h)
      have hb : nm b = some (b :: s) := chn_nm (chn_at (he ▸ hc)) (by rw [he] at hl; simp at hl ⊢; omega)
      rw [hb] at k
      simp only [List.mem_cons, List.mem_reverse] at k ⊢
      rw [he]
      rcases k with k | k | k
      · exact Or.inl k
      · exact Or.inr (by simp [k])
      · exact Or.inr (by simp [k])
theorem path_le {a b : Nat} (h : b ∈ path a) : b ≤ a := by
  unfold path at h
  cases hn : nm a with
  | none => rw [hn] at h; cases h
  | some d =>
    rw [hn] at h
    obtain ⟨hc, hl⟩ := nm_chn hn
    rcases List.mem_cons.1 h with rfl | h
    · cases d with
      | nil => have hc : a = 1 := hc; omega
      | cons x d => have := hc.2.1; omega
    · exact chn_le hc b (List.mem_reverse.1 h)
theorem path_self (a : Nat) : decide (a ∈ path a) = (nm a).isSome := by
  unfold path
  cases hn : nm a with
  | none => rfl
  | some d =>
    obtain ⟨hc, hl⟩ := nm_chn hn
    cases d with
    | nil => have hc : a = 1 := hc; subst hc; rfl
    | cons x d => have := hc.1; subst this; simp

theorem NameWithin : transomlaw14_NameWithin.Pure := by
  intro a b c wa wb wc
  obtain ⟨a, rfl, ha⟩ := u64_nat' wa
  obtain ⟨b, rfl, hb⟩ := u64_nat' wb
  obtain ⟨c, rfl, hc⟩ := u64_nat' wc
  have hp := path_len a
  refine Cm.ex (F := fun k => transomlaw14_NameWithin.f k a b c) ?_
  refine Cm.bind begun14_cm (Cm.pos rfl (Cm.bind (Path_cm a ha) ?_))
  have last : Cm (fun k => (name_Within.f k a a).bind fun t => (name_May.f k a).bind fun u => if (t == u) = true then ((name_Within.f k a b).bind fun v => if v = true then ((name_Within.f k b a).bind fun x => if x = true then some ((a : Int) == b) else some true) else some true) else some false) true := by
    refine Cm.bind (Within_cm a a ha) (Cm.bind (May_cm a ha) (Cm.pos (by rw [path_self]; simp) ?_))
    refine Cm.bind (Within_cm a b ha) (Cm.ite (fun h => ?_) (fun _ => Cm.here _))
    refine Cm.bind (Within_cm b a hb) (Cm.ite (fun h2 => ?_) (fun _ => Cm.here _))
    have h := path_le (of_decide_eq_true h)
    have h2 := path_le (of_decide_eq_true h2)
    have : a = b := by omega
    subst this
    exact Cm.eq (by simp)
  have step : ∀ (n i : Nat) (x : Bool), (path a).length - i ≤ n → x = decide (b ∈ (path a).take i) →
      Cm (fun k => transomlaw14_NameWithin.l0 k a b c x (ints (path a)) (i : Int)) true := by
    intro n
    induction n with
    | zero =>
      intro i x hn hx
      refine Cm.step (fun _ => transomlaw14_NameWithin.l0.eq_2 ..) (Cm.neg (by rw [ints_len]; omega) ?_)
      rw [List.take_of_length_le (by omega)] at hx
      refine Cm.bind (Within_cm a b ha) (Cm.pos (by rw [hx]; simp) (Cm.bind (Within_cm a b ha) (Cm.ite (fun h => ?_) (fun _ => last))))
      refine Cm.bind (Within_cm b c hb) (Cm.ite (fun h2 => ?_) (fun _ => last))
      refine Cm.bind (Within_cm a c ha) (Cm.pos ?_ last)
      exact decide_eq_true (path_sub (of_decide_eq_true h) (of_decide_eq_true h2))
    | succ n ih =>
      intro i x hn hx
      by_cases hi : i < (path a).length
      · refine Cm.step (fun _ => transomlaw14_NameWithin.l0.eq_2 ..) (Cm.pos (by rw [ints_len]; omega) ?_)
        rw [wup i (by omega)]
        have e : (path a).take (i + 1) = (path a).take i ++ [(path a)[i]] := List.take_succ_eq_append_getElem hi
        refine Cm.ite (fun h => ?_) (fun h => ?_)
        · refine ih (i + 1) true (by omega) ?_
          rw [h] at hx
          rw [e]
          have := of_decide_eq_true hx.symm
          symm
          exact decide_eq_true (List.mem_append_left _ this)
        · refine Cm.pos (by omega) (ih (i + 1) _ (by omega) ?_)
          rw [Go.Proofs.Ytfgndnackofenaa.PN.ints_at _ _ hi, e]
          rw [Bool.not_eq_true] at h
          rw [h] at hx
          have h3 := of_decide_eq_false hx.symm
          rw [Bool.eq_iff_iff, beq_iff_eq, decide_eq_true_eq, List.mem_append, List.mem_singleton]
          constructor
          · intro h4; exact Or.inr (Int.ofNat.inj h4).symm
          · rintro (h4 | h4)
            · exact absurd h4 h3
            · rw [h4]
      · refine ih i x (by omega) hx |>.of rfl
  exact step _ 0 false (Nat.le_refl _) (by simp)
end Go.Proofs.Ytfgndnackofenaa.Pure
