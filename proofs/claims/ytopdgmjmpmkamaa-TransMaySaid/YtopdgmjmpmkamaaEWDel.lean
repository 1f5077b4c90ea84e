/-
  A pair struck out of a slice, a pair put in, in place (slices.Delete, slices.Insert), walked in abstract values. Conditions: lengths.
-/
import Derived.Test.YtopdgmjmpmkamaaEWIns
namespace Go.Proofs.Ytopdgmjmpmkamaa.E
open Go Go.RowKit Go.Proofs.YtopdgmjmpmkamaaW.E
set_option linter.unusedVariables false
set_option linter.unusedSimpArgs false
set_option maxRecDepth 100000
set_option maxHeartbeats 4000000

theorem part_if (l : List Pr) (r : List AV) (j c : Nat) (h : j ≤ l.length) (hc : l.length ≤ c) : ((fl l ++ r).drop (if c = j then 0 else j * 2)).take ((l.length - j) * 2) = fl (l.drop j) := by
  by_cases e : c = j
  · have e2 : l.length = j := by omega
    rw [if_pos e, e2, Nat.sub_self, Nat.zero_mul, List.take_zero, List.drop_of_length_le (by omega)]
    rfl
  · rw [if_neg e, fl_part l r j h]
theorem part_fit (l : List Pr) (r : List AV) (j c : Nat) (h : j ≤ l.length) (hc : l.length ≤ c) : (if c = j then 0 else j * 2) + (l.length - j) * 2 ≤ (fl l ++ r).length := by
  rw [List.length_append, fl_len]
  split <;> omega

theorem h_del (l : List Pr) (i m : Nat) (hi : i < l.length) (hm : l.length = m + 1) (B : Nat → Nat × List AV) (L : Nat → Nat) (k g c : Nat) (r : List AV) (hB : B k = (g, fl l ++ r)) (hlen : (fl l ++ r).length = c * 2) (h0 : 0 < c) (hl : l.length ≤ 35184372087808) :
    HCall Try.prog T 64 [.bsl k g 0 (m + 1) c, i64 i, i64 ((i + 1 : Nat) : Int)] B L (fun x B' L' => Hold B' k x (l.take i ++ l.drop (i + 1)) ∧ ∀ j, j ≠ k → B' j = B j) := by
  have hne := some_bs hlen h0
  have hnc : m + 1 ≤ c := by rw [List.length_append, fl_len] at hlen; omega
  have e1 : eqI (i : Int) ((i + 1 : Nat) : Int) = false := eqI_f (by omega)
  have e2 : i + 1 ≤ m + 1 := by omega
  have e3 : (c = 0) = False := by simp; omega
  have e4 : i + (m + 1 - (i + 1)) = m := by omega
  have e5 : (c = m) = False := by simp; omega
  have e6 : m + 1 - m = 1 := by omega
  have e7 : i ≤ c := by omega
  have e8 : m ≤ m + 1 := by omega
  have e9 : i ≤ i + 1 := by omega
  have e10 : i + 1 ≤ c := by omega
  obtain ⟨t, ht, hd1⟩ := del_one l r i hi
  have hlen' : (l.take i ++ l.drop (i + 1)).length = m := by rw [List.length_append, List.length_take, List.length_drop]; omega
  have hd2 := del_two (l.take i ++ l.drop (i + 1)) t r (zerosA 1 [u16 0, u8 0]) (by rw [ht]; rfl)
  rw [hlen'] at hd2
  have hl1 : (fl (l.take i ++ l.drop (i + 1)) ++ (t ++ r)).length = c * 2 := by
    rw [List.length_append, fl_len] at hlen
    rw [List.length_append, fl_len, hlen', List.length_append, ht]; omega
  have hn1 := some_bs hl1 h0
  refine hcall_of Try.func64 rfl rfl (Nat.le_of_ble_eq_true rfl) 0 (fun base w0 => ?_)
  refine AWp.seq (AWp.regionW T_ok rfl (WL.all (by simp (decide := true) only [EVs, EVt, Array.toList] <;> exact rfl) ?_))
  refine AWp.seq (AWp.regionW T_ok rfl (WL.all (by simp (decide := true) only [EVs, EVt, Array.toList, e2, e9, hnc] <;> exact rfl) ?_))
  refine AWp.seq (AWp.seq (AWp.regionW T_ok rfl (WL.all (by simp (decide := true) only [EVs, EVt, Array.toList, e1] <;> exact rfl) ?_)))
  refine AWp.cond (t := false) rfl (AWp.skip ?_)
  refine AWp.seq (AWp.regionW T_ok rfl (WL.all (by simp (decide := true) only [EVs, EVt, Array.toList] <;> exact rfl) ?_))
  refine AWp.seq (AWp.drawnX 6 T_ok mixed (by kernel_rfl) rfl rfl rfl (by simp (decide := true) only [EVs, EVt, Array.toList, e2, e3, e7, e9, e10, hnc, Nat.sub_zero, Nat.zero_mul] <;> exact rfl) rfl (by simp (decide := true) only [EVs, EVt, Array.toList] <;> exact rfl)
    (xexec_app (cs := fl (l.drop (i + 1))) (bs' := fl (l.take i ++ l.drop (i + 1)) ++ (t ++ r)) rfl rfl rfl rfl T_prs rfl T_pr (by simp (decide := true) only [EVs, EVt, Array.toList] <;> exact rfl) hB (by simp (decide := true) only [EVs, EVt, Array.toList, srcLen] <;> exact rfl) (src_bsl (sz := 2) (by simp (decide := true) only [EVs, EVt, Array.toList] <;> exact rfl) hB (Nat.le_refl _) (by rw [← hm]; exact part_fit l r (i + 1) c (by omega) (by omega)) (by rw [← hm]; exact part_if l r (i + 1) c (by omega) (by omega)))
      (by omega) hne (by rw [fl_len, List.length_drop, hlen]; show 0 + i * 2 + (l.length - (i + 1)) * 2 ≤ c * 2; omega) (by rw [Nat.zero_add]; exact hd1)) (by simp (decide := true) only [EVs, EVt, Array.toList, e4] <;> exact rfl) ?_)
  refine AWp.seq (AWp.regionH rfl (HL.next T_ok 5 rfl rfl (by simp (decide := true) only [EVs, EVt, Array.toList, e8, e5, e6, hnc] <;> exact rfl) ?_))
  refine HL.x T_ok rfl (by simp (decide := true) only [EVs, EVt, Array.toList] <;> exact rfl) (xexec_clear (bs' := fl (l.take i ++ l.drop (i + 1)) ++ (zerosA 1 [u16 0, u8 0] ++ r)) rfl rfl rfl rfl T_prs rfl T_pr (by simp (decide := true) only [EVs, EVt, Array.toList] <;> exact rfl) (upd_same _ _ _) hn1 (by rw [hl1]; show m * 2 + 1 * 2 ≤ c * 2; omega) hd2) (HL.nil ?_)
  refine AWp.seq (AWp.regionW T_ok rfl (WL.all (by simp (decide := true) only [EVs, EVt, Array.toList] <;> exact rfl) ?_))
  refine AWp.ret ⟨_, rfl, .inr ⟨g, c, zerosA 1 [u16 0, u8 0] ++ r, by rw [hlen']; rfl, upd_same _ _ _, ?_, h0⟩, fun j hj => ?_⟩
  · rw [← hl1, List.length_append, List.length_append, List.length_append, List.length_append, ht]; rfl
  · exact (upd_ne _ _ hj).trans (upd_ne _ _ hj)
end Go.Proofs.Ytopdgmjmpmkamaa.E
