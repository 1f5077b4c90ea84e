/-
  NameDown, in plain Lean. Condition: eight numbers at the most.
-/
import Derived.Test.YtfgndnackofenaaQNames
import Derived.OpenShut
import Derived.Test.YtfgndnackofenaaPNx4
namespace Go.Proofs.Ytfgndnackofenaa.Pure
open Go Go.RowKit Go.Proofs.Ytfgndnackofenaa.PN Go.Proofs.YtfgndnackofenaaW.PrintWords Go.Proofs.YtfgndnackofenaaW.PJ

theorem wup2 (i : Nat) (h : i < 4611686018427387904) : wrap64 ((i : Int) + 2) = ((i + 2 : Nat) : Int) := by unfold wrap64; omega

set_option maxHeartbeats 2000000 in
theorem down_l0 (l : List Int) (_hl : l.length ≤ 8) (hw : ∀ x ∈ l, (Lit.int .u8 x).wf = true) : ∀ (n i id : Nat) (c : List Nat), l.length - i ≤ n → Chn id c → c.length = i → i ≤ 6 →
    Cm (fun k => transomlaw14_NameDown.l0 k l (id : Int) (i : Int)) true := by
  intro n
  induction n with
  | zero => intro i id c hn _ _ _; exact Cm.step (fun _ => transomlaw14_NameDown.l0.eq_2 ..) (Cm.neg (by omega) (Cm.here _))
  | succ n ih =>
    intro i id c hn hc hci hi6
    refine Cm.step (fun _ => transomlaw14_NameDown.l0.eq_2 ..) (Cm.ite (fun h => Cm.pos (by omega) ?_) (fun _ => Cm.here _))
    have hi : i < l.length := by omega
    have hnm := chn_nm hc (by omega)
    have hpath : path id = 1 :: c.reverse := by unfold path; rw [hnm]
    have hb := chn_bound hc
    have hp6 : 64 ^ c.length ≤ 64 ^ 6 := Nat.pow_le_pow_right (by decide) (by omega)
    have h66 : 64 ^ 6 = 68719476736 := by decide
    obtain ⟨v, hv⟩ : ∃ v : Nat, rd l (i : Int) = (v : Int) := by
      have := (bounds_u8 (hw l[i] (List.getElem_mem hi))).1
      obtain ⟨v, hv⟩ := Int.eq_ofNat_of_zero_le this
      exact ⟨v, by rw [rd_at l i hi]; exact hv⟩
    have hv255 : v ≤ 255 := by
      have := (bounds_u8 (hw l[i] (List.getElem_mem hi))).2
      rw [rd_at l i hi] at hv
      omega
    have en : wrap64 (1 + Int.tmod (wrap64 (rd l (i : Int))) 63) = ((1 + v % 63 : Nat) : Int) := by
      rw [hv, w64 (n := (v : Int)) (by omega) (by omega), Int.tmod_eq_emod_of_nonneg (by omega), w64 (by omega) (by omega)]
      omega
    rw [en]
    clear en hv
    have hi8 : i < 4611686018427387904 := by omega
    refine Cm.bind (Of_cm id _ (by omega)) (Cm.ite (fun h6 => ?_) (fun h6 => ?_))
    · have e6 : c.length = 6 := by omega
      have e : ofv id ((1 + v % 63 : Nat) : Int) = (0, 13) := by
        unfold ofv
        rw [if_pos ⟨by rw [hnm]; rfl, by omega, by omega⟩, if_pos (by rw [hpath]; simp [e6])]
      rw [e]
      exact Cm.pos rfl (Cm.eq rfl)
    · have hlen : ¬ (path id).length = 7 := by rw [hpath]; simp; omega
      obtain ⟨x, hx⟩ : ∃ x, id * 64 + (1 + v % 63) = x := ⟨_, rfl⟩
      have e : ofv id ((1 + v % 63 : Nat) : Int) = ((x : Int), 0) := by
        unfold ofv
        rw [if_pos ⟨by rw [hnm]; rfl, by omega, by omega⟩, if_neg hlen, Prod.mk.injEq]
        exact ⟨by omega, rfl⟩
      rw [e]
      have hid : 1 ≤ id := by
        cases c with
        | nil => have hc : id = 1 := hc; omega
        | cons y c => have := hc.2.1; omega
      have hb5 : id < 2147483648 := nm_bound hnm (by omega)
      have hx64 : x < 18446744073709551616 := by omega
      have hxc : Chn x (x :: c) := ⟨rfl, by omega, by omega, by rw [(by omega : x / 64 = id)]; exact hc⟩
      have hxn := chn_nm hxc (by simp; omega)
      have hxp : path x = 1 :: (c.reverse ++ [x]) := by unfold path; rw [hxn]; simp
      have hxl : (path x).length = i + 2 := by rw [hxp]; simp [hci]
      rw [wup i hi8, wup2 i hi8]
      refine Cm.bind (Path_cm x hx64) (Cm.pos rfl ?_)
      refine Cm.bind (Parent_cm x hx64) (Cm.pos ?_ ?_)
      · unfold par
        rw [if_neg (by omega)]
        omega
      refine Cm.bind (Number_cm x hx64) (Cm.pos ?_ ?_)
      · unfold num
        rw [if_neg (by omega)]
        omega
      refine Cm.bind (Depth_cm x hx64) (Cm.pos (by rw [hxl]; omega) (Cm.pos (by rw [ints_len, hxl]) (Cm.pos (by rw [ints_len, hxl]; omega) ?_)))
      refine Cm.pos ?_ (Cm.pos (by omega) (Cm.pos (by rw [ints_len, hxl]; omega) (Cm.pos ?_ ?_)))
      · rw [hxp]; rfl
      · rw [Go.Proofs.Ytfgndnackofenaa.PN.ints_at _ _ (by rw [hxl]; omega)]
        simp only [hxp]
        simp [← hci]
      refine Cm.bind (Within_cm x id hx64) (Cm.pos ?_ (Cm.bind (Within_cm id x (by omega)) (Cm.neg ?_ (ih (i + 1) x (x :: c) (by omega) hxc (by simp [hci]) (by omega)))))
      · refine decide_eq_true ?_
        rw [hxp]
        cases c with
        | nil => have hc : id = 1 := hc; simp [hc]
        | cons y c => have := hc.1; subst this; simp
      · intro hm
        have hm := of_decide_eq_true hm
        rw [hpath] at hm
        rcases List.mem_cons.1 hm with h1 | h1
        · omega
        · have := chn_le hc x (List.mem_reverse.1 h1); omega

theorem NameDown : transomlaw14_NameDown.Pure := by
  intro l _ _ hw
  refine Cm.ex (F := fun k => transomlaw14_NameDown.f k l) ?_
  refine Cm.bind begun14_cm (Cm.pos rfl (Cm.ite (fun _ => Cm.here _) (fun h => ?_)))
  exact down_l0 l (by omega) hw _ 0 1 [] (Nat.le_refl _) rfl rfl (by omega)
end Go.Proofs.Ytfgndnackofenaa.Pure
