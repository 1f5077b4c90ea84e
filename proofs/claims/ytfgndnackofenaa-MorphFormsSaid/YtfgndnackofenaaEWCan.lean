/-
  Which labels may be, by the document, walked in abstract values. Conditions: lengths.
-/
import Derived.Test.YtfgndnackofenaaETab
import Derived.Test.YtfgndnackofenaaEM14
namespace Go.Proofs.Ytfgndnackofenaa.E
open Go Go.RowKit Go.Proofs.YtfgndnackofenaaW.E
set_option linter.unusedVariables false
set_option linter.unusedSimpArgs false
set_option maxRecDepth 100000
set_option maxHeartbeats 4000000

theorem sp_Canon (d : Int) (l : List Pr) (hl : l.length ≤ 140737488351232) : ACall Try.prog 72 [lab d l] (bo (canon d l)) := by
  refine acall_of Try.func72 rfl rfl (Nat.le_of_ble_eq_true rfl) T_ok (fun base w0 => ?_)
  refine AWp.seq (AWp.regionW T_ok rfl (WL.all (by simp (decide := true) only [EVs, EVt, Array.toList] <;> exact rfl) ?_))
  by_cases h0 : 5 < d
  · have c1 : ltI 5 d = true := ltI_t h0
    refine AWp.seq (AWp.seq (AWp.regionW T_ok rfl (WL.all (by simp (decide := true) only [EVs, EVt, Array.toList, c1] <;> exact rfl) ?_)))
    refine AWp.cond (t := true) rfl (AWp.seq (AWp.regionW T_ok rfl (WL.all (by simp (decide := true) only [EVs, EVt, Array.toList] <;> exact rfl) ?_)))
    refine AWp.ret ⟨_, rfl, .inl ?_⟩
    have : canon d l = false := by simp [canon, show ¬ d ≤ 5 by omega]
    rw [this]; exact .refl _
  have c1 : ltI 5 d = false := ltI_f h0
  have hm : canon d l = okN d 5 l l.length := by simp [canon, show d ≤ 5 by omega]
  rw [hm]
  refine AWp.seq (AWp.seq (AWp.regionW T_ok rfl (WL.all (by simp (decide := true) only [EVs, EVt, Array.toList, c1] <;> exact rfl) ?_)))
  refine AWp.cond (t := false) rfl (AWp.skip ?_)
  refine AWp.seq (AWp.seq (AWp.regionW T_ok rfl (WL.all (by simp (decide := true) only [EVs, EVt, Array.toList] <;> exact rfl) ?_)))
  refine AWp.block (AWp.loop (fun n st => ∃ (j : Nat) (s : Nat → AV) (B : Nat → Nat × List AV) (L : Nat → Nat), st = ⟨46, 0, s, B, L⟩ ∧ n = l.length - j ∧ s 1 = .ptr 1 1 0 ∧ B 1 = (1, [u8 d, lps l]) ∧ s 3 = i64 j ∧ okN d 5 l j = true) ?_ (n := l.length)
    ⟨0, _, _, _, rfl, rfl, rfl, rfl, rfl, rfl⟩)
  rintro n st ⟨j, s, B, L, rfl, rfl, s1, hB, s3, hk⟩
  by_cases hlt : j < l.length
  · have e1 : ltI (j : Int) (l.length : Int) = true := ltI_t (by omega)
    have e2 := get_mapi prA l j hlt
    have e7 := wup j (by omega)
    have hs := okN_succ d 5 l j
    rw [hk, Bool.true_and, okAt_lt hlt] at hs
    refine AWp.seq (AWp.seq (AWp.regionW T_ok rfl (WL.all (by simp (decide := true) only [EVs, EVt, Array.toList, s1, hB, s3, e1] <;> exact rfl) ?_)))
    refine AWp.cond (t := true) rfl (AWp.skip ?_)
    refine AWp.seq (AWp.block (AWp.seq (AWp.regionW T_ok rfl (WL.all (by simp (decide := true) only [EVs, EVt, Array.toList, s1, hB, s3, e2] <;> exact rfl) ?_))))
    have bad : okN d 5 l (j + 1) = false → okN d 5 l l.length = false := okN_false d 5 l (j + 1) l.length (by omega)
    by_cases p1 : l[j].l ≤ 5
    · have f1 : ltI 5 l[j].l = false := ltI_f (by omega)
      by_cases p2 : l[j].l = d
      · have f2 : eqI l[j].l d = true := eqI_t p2
        refine AWp.seq (AWp.drawnW T_ok mixed (by kernel_rfl) rfl (WL.all (by simp (decide := true) only [EVs, EVt, Array.toList, s1, hB, f1, f2] <;> exact rfl) ?_))
        refine AWp.cond (t := true) rfl (AWp.seq (AWp.regionW T_ok rfl (WL.all (by simp (decide := true) only [EVs, EVt, Array.toList] <;> exact rfl) ?_)))
        refine AWp.ret ⟨_, rfl, .inl ?_⟩
        rw [bad (by rw [hs]; simp [p2])]
        exact .refl _
      · have f2 : eqI l[j].l d = false := eqI_f p2
        by_cases hj : 0 < j
        · have g1 : ltI 0 (j : Int) = true := ltI_t (by omega)
          have g2 := wdn j (by omega) (by omega)
          have g3 := get_mapi prA l (j - 1) (by omega)
          by_cases p3 : l[j].c ≤ l[j - 1].c
          · have f3 : leI l[j].c l[j - 1].c = true := leI_t p3
            refine AWp.seq (AWp.drawnW T_ok mixed (by kernel_rfl) rfl (WL.all (by simp (decide := true) only [EVs, EVt, Array.toList, s1, hB, s3, f1, f2, g1, g2, g3, f3] <;> exact rfl) ?_))
            refine AWp.cond (t := true) rfl (AWp.seq (AWp.regionW T_ok rfl (WL.all (by simp (decide := true) only [EVs, EVt, Array.toList] <;> exact rfl) ?_)))
            refine AWp.ret ⟨_, rfl, .inl ?_⟩
            rw [bad (by rw [hs]; simp [p1, p2, p3]; omega)]
            exact .refl _
          · have f3 : leI l[j].c l[j - 1].c = false := leI_f p3
            refine AWp.seq (AWp.drawnW T_ok mixed (by kernel_rfl) rfl (WL.all (by simp (decide := true) only [EVs, EVt, Array.toList, s1, hB, s3, f1, f2, g1, g2, g3, f3] <;> exact rfl) ?_))
            refine AWp.cond (t := false) rfl (AWp.skip ?_)
            refine (AWp.regionW T_ok rfl (WL.all (by simp (decide := true) only [EVs, EVt, Array.toList, s3, e7] <;> exact rfl) ?_))
            refine ⟨l.length - (j + 1), by omega, j + 1, _, _, _, rfl, rfl, ?_, ?_, ?_, ?_⟩
            · simp (decide := true) only [EVs, EVt, Array.toList, s1]
            · simp (decide := true) only [EVs, EVt, Array.toList, hB]
            · simp (decide := true) only [EVs, EVt, Array.toList]
            · rw [hs]; simp [p1, p2] <;> omega
        · have g1 : ltI 0 (j : Int) = false := ltI_f (by omega)
          refine AWp.seq (AWp.drawnW T_ok mixed (by kernel_rfl) rfl (WL.all (by simp (decide := true) only [EVs, EVt, Array.toList, s1, hB, s3, f1, f2, g1] <;> exact rfl) ?_))
          refine AWp.cond (t := false) rfl (AWp.skip ?_)
          refine (AWp.regionW T_ok rfl (WL.all (by simp (decide := true) only [EVs, EVt, Array.toList, s3, e7] <;> exact rfl) ?_))
          refine ⟨l.length - (j + 1), by omega, j + 1, _, _, _, rfl, rfl, ?_, ?_, ?_, ?_⟩
          · simp (decide := true) only [EVs, EVt, Array.toList, s1]
          · simp (decide := true) only [EVs, EVt, Array.toList, hB]
          · simp (decide := true) only [EVs, EVt, Array.toList]
          · rw [hs]; simp [p1, p2] <;> omega
    · have f1 : ltI 5 l[j].l = true := ltI_t (by omega)
      refine AWp.seq (AWp.drawnW T_ok mixed (by kernel_rfl) rfl (WL.all (by simp (decide := true) only [EVs, EVt, Array.toList, s1, hB, f1] <;> exact rfl) ?_))
      refine AWp.cond (t := true) rfl (AWp.seq (AWp.regionW T_ok rfl (WL.all (by simp (decide := true) only [EVs, EVt, Array.toList] <;> exact rfl) ?_)))
      refine AWp.ret ⟨_, rfl, .inl ?_⟩
      rw [bad (by rw [hs]; simp [p1])]
      exact .refl _
  · have e1 : ltI (j : Int) (l.length : Int) = false := ltI_f (by omega)
    refine AWp.seq (AWp.seq (AWp.regionW T_ok rfl (WL.all (by simp (decide := true) only [EVs, EVt, Array.toList, s1, hB, s3, e1] <;> exact rfl) ?_)))
    refine AWp.cond (t := false) rfl (AWp.exit ?_)
    refine AWp.seq (AWp.regionW T_ok rfl (WL.all (by simp (decide := true) only [EVs, EVt, Array.toList] <;> exact rfl) ?_))
    refine AWp.ret ⟨_, rfl, .inl ?_⟩
    have : okN d 5 l l.length = true := by
      cases h : okN d 5 l l.length with
      | true => rfl
      | false => rw [okN_false d 5 l l.length j (by omega) h] at hk; cases hk
    rw [this]; exact .refl _

theorem sp_RMay (d : Int) (l : List Pr) (hl : l.length ≤ 140737488351232) : ACall Try.prog 30 [lab d l] (bo (mayL d l)) := by
  have hm := mayL_canon d l
  refine acall_of Try.func30 rfl rfl (Nat.le_of_ble_eq_true rfl) T_ok (fun base w0 => ?_)
  refine AWp.seq (AWp.regionW T_ok rfl (WL.all (by simp (decide := true) only [EVs, EVt, Array.toList] <;> exact rfl) ?_))
  cases hc : canon d l with
  | false =>
    refine AWp.seq (AWp.seq (AWp.regionW T_ok rfl ?_))
    (repeat (first | refine WL.c rfl rfl rfl (by simp (decide := true) only [EVs, EVt, Array.toList, hc] <;> exact rfl) (by simp (decide := true) only [EVs, EVt, Array.toList, calleeOf, hc] <;> exact rfl) (by simp (decide := true) only [EVs, EVt, Array.toList, argsOf, frz, hc] <;> exact rfl) (by first | exact sp_Canon d l hl) rfl ?_ | refine WL.f rfl rfl rfl (by simp (decide := true) only [EVs, EVt, Array.toList, hc] <;> exact rfl) (by simp (decide := true) only [EVs, EVt, Array.toList, calleeOf, hc] <;> exact rfl) (by simp (decide := true) only [EVs, EVt, Array.toList, argsOf, frz, hc] <;> exact rfl) (by first | exact sp_Canon d l hl) ?_ | refine WL.one (by simp (decide := true) only [EVs, EVt, Array.toList, hc] <;> exact rfl) ?_)); refine WL.nil ?_
    refine AWp.cond (t := true) rfl (AWp.seq (AWp.regionW T_ok rfl (WL.all (by simp (decide := true) only [EVs, EVt, Array.toList] <;> exact rfl) ?_)))
    refine AWp.ret ⟨_, rfl, .inl ?_⟩
    rw [hm, show (canon d l && decide (1 ≤ d) && decide (d ≤ 4) && decide (l.length ≤ 16) && lv4 l l.length) = false by rw [hc]; rfl]
    exact .refl _
  | true =>
    by_cases h0 : d < 1
    · have c1 : ltI d 1 = true := ltI_t h0
      refine AWp.seq (AWp.seq (AWp.regionW T_ok rfl ?_))
      (repeat (first | refine WL.c rfl rfl rfl (by simp (decide := true) only [EVs, EVt, Array.toList, hc, c1] <;> exact rfl) (by simp (decide := true) only [EVs, EVt, Array.toList, calleeOf, hc, c1] <;> exact rfl) (by simp (decide := true) only [EVs, EVt, Array.toList, argsOf, frz, hc, c1] <;> exact rfl) (by first | exact sp_Canon d l hl) rfl ?_ | refine WL.f rfl rfl rfl (by simp (decide := true) only [EVs, EVt, Array.toList, hc, c1] <;> exact rfl) (by simp (decide := true) only [EVs, EVt, Array.toList, calleeOf, hc, c1] <;> exact rfl) (by simp (decide := true) only [EVs, EVt, Array.toList, argsOf, frz, hc, c1] <;> exact rfl) (by first | exact sp_Canon d l hl) ?_ | refine WL.one (by simp (decide := true) only [EVs, EVt, Array.toList, hc, c1] <;> exact rfl) ?_)); refine WL.nil ?_
      refine AWp.cond (t := true) rfl (AWp.seq (AWp.regionW T_ok rfl (WL.all (by simp (decide := true) only [EVs, EVt, Array.toList] <;> exact rfl) ?_)))
      refine AWp.ret ⟨_, rfl, .inl ?_⟩
      rw [hm, show (canon d l && decide (1 ≤ d) && decide (d ≤ 4) && decide (l.length ≤ 16) && lv4 l l.length) = false by simp [show ¬ 1 ≤ d by omega]]
      exact .refl _
    have c1 : ltI d 1 = false := ltI_f h0
    by_cases h1 : 4 < d
    · have c2 : ltI 4 d = true := ltI_t h1
      refine AWp.seq (AWp.seq (AWp.regionW T_ok rfl ?_))
      (repeat (first | refine WL.c rfl rfl rfl (by simp (decide := true) only [EVs, EVt, Array.toList, hc, c1, c2] <;> exact rfl) (by simp (decide := true) only [EVs, EVt, Array.toList, calleeOf, hc, c1, c2] <;> exact rfl) (by simp (decide := true) only [EVs, EVt, Array.toList, argsOf, frz, hc, c1, c2] <;> exact rfl) (by first | exact sp_Canon d l hl) rfl ?_ | refine WL.f rfl rfl rfl (by simp (decide := true) only [EVs, EVt, Array.toList, hc, c1, c2] <;> exact rfl) (by simp (decide := true) only [EVs, EVt, Array.toList, calleeOf, hc, c1, c2] <;> exact rfl) (by simp (decide := true) only [EVs, EVt, Array.toList, argsOf, frz, hc, c1, c2] <;> exact rfl) (by first | exact sp_Canon d l hl) ?_ | refine WL.one (by simp (decide := true) only [EVs, EVt, Array.toList, hc, c1, c2] <;> exact rfl) ?_)); refine WL.nil ?_
      refine AWp.cond (t := true) rfl (AWp.seq (AWp.regionW T_ok rfl (WL.all (by simp (decide := true) only [EVs, EVt, Array.toList] <;> exact rfl) ?_)))
      refine AWp.ret ⟨_, rfl, .inl ?_⟩
      rw [hm, show (canon d l && decide (1 ≤ d) && decide (d ≤ 4) && decide (l.length ≤ 16) && lv4 l l.length) = false by simp [show ¬ d ≤ 4 by omega]]
      exact .refl _
    have c2 : ltI 4 d = false := ltI_f h1
    by_cases h2 : 16 < l.length
    · have c3 : ltI 16 (l.length : Int) = true := ltI_t (by omega)
      refine AWp.seq (AWp.seq (AWp.regionW T_ok rfl ?_))
      (repeat (first | refine WL.c rfl rfl rfl (by simp (decide := true) only [EVs, EVt, Array.toList, hc, c1, c2, c3] <;> exact rfl) (by simp (decide := true) only [EVs, EVt, Array.toList, calleeOf, hc, c1, c2, c3] <;> exact rfl) (by simp (decide := true) only [EVs, EVt, Array.toList, argsOf, frz, hc, c1, c2, c3] <;> exact rfl) (by first | exact sp_Canon d l hl) rfl ?_ | refine WL.f rfl rfl rfl (by simp (decide := true) only [EVs, EVt, Array.toList, hc, c1, c2, c3] <;> exact rfl) (by simp (decide := true) only [EVs, EVt, Array.toList, calleeOf, hc, c1, c2, c3] <;> exact rfl) (by simp (decide := true) only [EVs, EVt, Array.toList, argsOf, frz, hc, c1, c2, c3] <;> exact rfl) (by first | exact sp_Canon d l hl) ?_ | refine WL.one (by simp (decide := true) only [EVs, EVt, Array.toList, hc, c1, c2, c3] <;> exact rfl) ?_)); refine WL.nil ?_
      refine AWp.cond (t := true) rfl (AWp.seq (AWp.regionW T_ok rfl (WL.all (by simp (decide := true) only [EVs, EVt, Array.toList] <;> exact rfl) ?_)))
      refine AWp.ret ⟨_, rfl, .inl ?_⟩
      rw [hm, show (canon d l && decide (1 ≤ d) && decide (d ≤ 4) && decide (l.length ≤ 16) && lv4 l l.length) = false by simp [show ¬ l.length ≤ 16 by omega]]
      exact .refl _
    have c3 : ltI 16 (l.length : Int) = false := ltI_f (by omega)
    have hm : mayL d l = lv4 l l.length := by rw [hm, hc]; simp [show 1 ≤ d by omega, show d ≤ 4 by omega, show l.length ≤ 16 by omega]
    rw [hm]
    refine AWp.seq (AWp.seq (AWp.regionW T_ok rfl ?_))
    (repeat (first | refine WL.c rfl rfl rfl (by simp (decide := true) only [EVs, EVt, Array.toList, hc, c1, c2, c3] <;> exact rfl) (by simp (decide := true) only [EVs, EVt, Array.toList, calleeOf, hc, c1, c2, c3] <;> exact rfl) (by simp (decide := true) only [EVs, EVt, Array.toList, argsOf, frz, hc, c1, c2, c3] <;> exact rfl) (by first | exact sp_Canon d l hl) rfl ?_ | refine WL.f rfl rfl rfl (by simp (decide := true) only [EVs, EVt, Array.toList, hc, c1, c2, c3] <;> exact rfl) (by simp (decide := true) only [EVs, EVt, Array.toList, calleeOf, hc, c1, c2, c3] <;> exact rfl) (by simp (decide := true) only [EVs, EVt, Array.toList, argsOf, frz, hc, c1, c2, c3] <;> exact rfl) (by first | exact sp_Canon d l hl) ?_ | refine WL.one (by simp (decide := true) only [EVs, EVt, Array.toList, hc, c1, c2, c3] <;> exact rfl) ?_)); refine WL.nil ?_
    refine AWp.cond (t := false) rfl (AWp.skip ?_)
    refine AWp.seq (AWp.seq (AWp.regionW T_ok rfl (WL.all (by simp (decide := true) only [EVs, EVt, Array.toList] <;> exact rfl) ?_)))
    refine AWp.block (AWp.loop (fun n st => ∃ (j : Nat) (s : Nat → AV) (B : Nat → Nat × List AV) (L : Nat → Nat), st = ⟨37, 0, s, B, L⟩ ∧ n = l.length - j ∧ s 1 = .ptr 1 1 0 ∧ B 1 = (1, [u8 d, lps l]) ∧ s 3 = i64 j ∧ lv4 l j = true) ?_ (n := l.length)
      ⟨0, _, _, _, rfl, rfl, rfl, rfl, rfl, rfl⟩)
    rintro n st ⟨j, s, B, L, rfl, rfl, s1, hB, s3, hk⟩
    by_cases hlt : j < l.length
    · have e1 : ltI (j : Int) (l.length : Int) = true := ltI_t (by omega)
      have e2 := get_mapi prA l j hlt
      have e7 := wup j (by omega)
      have hs := lv4_succ l j hlt
      rw [hk, Bool.true_and] at hs
      refine AWp.seq (AWp.seq (AWp.regionW T_ok rfl (WL.all (by simp (decide := true) only [EVs, EVt, Array.toList, s1, hB, s3, e1] <;> exact rfl) ?_)))
      refine AWp.cond (t := true) rfl (AWp.skip ?_)
      by_cases p1 : l[j].l ≤ 4
      · have f1 : ltI 4 l[j].l = false := ltI_f (by omega)
        refine AWp.seq (AWp.block (AWp.seq (AWp.regionW T_ok rfl (WL.all (by simp (decide := true) only [EVs, EVt, Array.toList, s1, hB, s3, e2, f1] <;> exact rfl) ?_))))
        refine AWp.cond (t := false) rfl (AWp.skip ?_)
        refine (AWp.regionW T_ok rfl (WL.all (by simp (decide := true) only [EVs, EVt, Array.toList, s3, e7] <;> exact rfl) ?_))
        refine ⟨l.length - (j + 1), by omega, j + 1, _, _, _, rfl, rfl, ?_, ?_, ?_, ?_⟩
        · simp (decide := true) only [EVs, EVt, Array.toList, s1]
        · simp (decide := true) only [EVs, EVt, Array.toList, hB]
        · simp (decide := true) only [EVs, EVt, Array.toList]
        · rw [hs]; simp [p1]
      · have f1 : ltI 4 l[j].l = true := ltI_t (by omega)
        refine AWp.seq (AWp.block (AWp.seq (AWp.regionW T_ok rfl (WL.all (by simp (decide := true) only [EVs, EVt, Array.toList, s1, hB, s3, e2, f1] <;> exact rfl) ?_))))
        refine AWp.cond (t := true) rfl (AWp.seq (AWp.regionW T_ok rfl (WL.all (by simp (decide := true) only [EVs, EVt, Array.toList] <;> exact rfl) ?_)))
        refine AWp.ret ⟨_, rfl, .inl ?_⟩
        rw [lv4_false l (j + 1) (by rw [hs]; simp [p1])]
        exact .refl _
    · have e1 : ltI (j : Int) (l.length : Int) = false := ltI_f (by omega)
      refine AWp.seq (AWp.seq (AWp.regionW T_ok rfl (WL.all (by simp (decide := true) only [EVs, EVt, Array.toList, s1, hB, s3, e1] <;> exact rfl) ?_)))
      refine AWp.cond (t := false) rfl (AWp.exit ?_)
      refine AWp.seq (AWp.regionW T_ok rfl (WL.all (by simp (decide := true) only [EVs, EVt, Array.toList] <;> exact rfl) ?_))
      refine AWp.ret ⟨_, rfl, .inl ?_⟩
      have : lv4 l l.length = true := by
        unfold lv4 at hk ⊢
        rw [List.take_of_length_le (by omega)] at hk
        rw [List.take_length]; exact hk
      rw [this]; exact .refl _
end Go.Proofs.Ytfgndnackofenaa.E
