/-
  The document's answer with sets (package transomref1), walked in abstract values. Conditions: lengths.
-/
import Derived.Test.YtfgndnackofenaaETab
import Derived.Test.YtfgndnackofenaaEM1
namespace Go.Proofs.Ytfgndnackofenaa.E
open Go Go.RowKit Go.Proofs.YtfgndnackofenaaW.E
set_option linter.unusedVariables false
set_option linter.unusedSimpArgs false
set_option maxRecDepth 100000

theorem sp_MaySet (l : List Int) (hl : l.length * 2 ≤ 140737488351232) : ACall Try.prog 61 [l16 l] (bo (asc l && decide (l.length ≤ 16))) := by
  refine acall_of Try.func61 rfl rfl (Nat.le_of_ble_eq_true rfl) T_ok (fun base w0 => ?_)
  refine AWp.seq (AWp.regionW T_ok rfl (WL.all (by simp (decide := true) only [EVs, EVt, Array.toList] <;> exact rfl) ?_))
  refine AWp.seq (AWp.seq (AWp.regionW T_ok rfl (WL.all (by simp (decide := true) only [EVs, EVt, Array.toList] <;> exact rfl) ?_)))
  refine AWp.block (AWp.loop (fun n st => ∃ (j : Nat) (s : Nat → AV) (B : Nat → Nat × List AV) (L : Nat → Nat), st = ⟨23, 0, s, B, L⟩ ∧ 1 ≤ j ∧ n = l.length + 1 - j ∧ s 0 = l16 l ∧ s 3 = i64 j ∧ asc (l.take j) = true) ?_ (n := l.length)
    ⟨1, _, _, _, rfl, by omega, by omega, rfl, rfl, asc_one l⟩)
  rintro n st ⟨j, s, B, L, rfl, hj, rfl, h0, h3, ha⟩
  by_cases hlt : j < l.length
  · have c1 : ltI (j : Int) (l.length : Int) = true := ltI_t (by omega)
    have c2 := get_mapi u16 l j hlt
    have c3 : (0 : Int) ≤ (j : Int) := by omega
    have c4 := wdn j (by omega) hj
    have c5 := get_mapi u16 l (j - 1) (by omega)
    have c6 : (0 : Int) ≤ ((j - 1 : Nat) : Int) := by omega
    have c7 := wup j (by omega)
    have hs := asc_take_succ l j hj hlt
    rw [ha, Bool.true_and] at hs
    refine AWp.seq (AWp.seq (AWp.regionW T_ok rfl (WL.all (by simp (decide := true) only [EVs, EVt, Array.toList, h0, h3, c1] <;> exact rfl) ?_)))
    refine AWp.cond (t := true) rfl (AWp.skip ?_)
    by_cases hp : l[j] ≤ l[j - 1]
    · have c8 : leI (l[j]) (l[j - 1]) = true := leI_t (by omega)
      refine AWp.seq (AWp.block (AWp.seq (AWp.drawnW T_ok mixed (by kernel_rfl) rfl (WL.all (by simp (decide := true) only [EVs, EVt, Array.toList, h0, h3, c2, c3, c4, c5, c6, c8] <;> exact rfl) ?_))))
      refine AWp.cond (t := true) rfl (AWp.seq (AWp.regionW T_ok rfl (WL.all (by simp (decide := true) only [EVs, EVt, Array.toList] <;> exact rfl) ?_)))
      refine AWp.ret ⟨_, rfl, .inl ?_⟩
      have hf : asc l = false := asc_take_false l (j + 1) (by rw [hs]; simp <;> omega)
      rw [hf]
      exact .refl _
    · have c8 : leI (l[j]) (l[j - 1]) = false := leI_f (by omega)
      refine AWp.seq (AWp.block (AWp.seq (AWp.drawnW T_ok mixed (by kernel_rfl) rfl (WL.all (by simp (decide := true) only [EVs, EVt, Array.toList, h0, h3, c2, c3, c4, c5, c6, c8] <;> exact rfl) ?_))))
      refine AWp.cond (t := false) rfl (AWp.skip ?_)
      refine (AWp.regionW T_ok rfl (WL.all (by simp (decide := true) only [EVs, EVt, Array.toList, h3, c7] <;> exact rfl) ?_))
      refine ⟨l.length + 1 - (j + 1), by omega, j + 1, _, _, _, rfl, by omega, rfl, ?_, ?_, ?_⟩
      · simp (decide := true) only [EVs, EVt, Array.toList, h0]
      · simp (decide := true) only [EVs, EVt, Array.toList]
      · rw [hs]; simp <;> omega
  · have c1 : ltI (j : Int) (l.length : Int) = false := ltI_f (by omega)
    refine AWp.seq (AWp.seq (AWp.regionW T_ok rfl (WL.all (by simp (decide := true) only [EVs, EVt, Array.toList, h0, h3, c1] <;> exact rfl) ?_)))
    refine AWp.cond (t := false) rfl (AWp.exit ?_)
    have hal : asc l = true := by rw [List.take_of_length_le (by omega)] at ha; exact ha
    have c9 : leI (l.length : Int) 16 = decide (l.length ≤ 16) := by unfold leI; by_cases h : l.length ≤ 16 <;> simp [h] <;> omega
    refine AWp.seq (AWp.regionW T_ok rfl (WL.all (by simp (decide := true) only [EVs, EVt, Array.toList, h0, c9] <;> exact rfl) ?_))
    refine AWp.ret ⟨_, rfl, .inl ?_⟩
    rw [hal, Bool.true_and]
    exact .refl _

theorem sp_Has (l : List Int) (c : Int) (hl : l.length * 2 ≤ 140737488351232) : ACall Try.prog 92 [l16 l, u16 c] (bo (decide (c ∈ l))) := by
  refine acall_of Try.func92 rfl rfl (Nat.le_of_ble_eq_true rfl) T_ok (fun base w0 => ?_)
  refine AWp.seq (AWp.regionW T_ok rfl (WL.all (by simp (decide := true) only [EVs, EVt, Array.toList] <;> exact rfl) ?_))
  refine AWp.seq (AWp.seq (AWp.regionW T_ok rfl (WL.all (by simp (decide := true) only [EVs, EVt, Array.toList] <;> exact rfl) ?_)))
  refine AWp.block (AWp.loop (fun n st => ∃ (j : Nat) (s : Nat → AV) (B : Nat → Nat × List AV) (L : Nat → Nat), st = ⟨18, 0, s, B, L⟩ ∧ n = l.length - j ∧ s 0 = l16 l ∧ s 1 = u16 c ∧ s 5 = i64 j ∧ c ∉ l.take j) ?_ (n := l.length)
    ⟨0, _, _, _, rfl, rfl, rfl, rfl, rfl, by simp⟩)
  rintro n st ⟨j, s, B, L, rfl, rfl, h0, h1, h5, ha⟩
  by_cases hlt : j < l.length
  · have c1 : ltI (j : Int) (l.length : Int) = true := ltI_t (by omega)
    have c2 := get_mapi u16 l j hlt
    have c3 : (0 : Int) ≤ (j : Int) := by omega
    have c7 := wup j (by omega)
    refine AWp.seq (AWp.seq (AWp.regionW T_ok rfl (WL.all (by simp (decide := true) only [EVs, EVt, Array.toList, h0, h5, c1] <;> exact rfl) ?_)))
    refine AWp.cond (t := true) rfl (AWp.skip ?_)
    by_cases hp : l[j] = c
    · have c8 : eqI (l[j]) c = true := eqI_t (by omega)
      refine AWp.seq (AWp.block (AWp.seq (AWp.regionW T_ok rfl (WL.all (by simp (decide := true) only [EVs, EVt, Array.toList, h0, h1, h5, c2, c3, c8] <;> exact rfl) ?_))))
      refine AWp.cond (t := true) rfl (AWp.seq (AWp.regionW T_ok rfl (WL.all (by simp (decide := true) only [EVs, EVt, Array.toList] <;> exact rfl) ?_)))
      refine AWp.ret ⟨_, rfl, .inl ?_⟩
      have hf : decide (c ∈ l) = true := by simp only [decide_eq_true_eq]; rw [← hp]; exact List.getElem_mem hlt
      rw [hf]
      exact .refl _
    · have c8 : eqI (l[j]) c = false := eqI_f (by omega)
      refine AWp.seq (AWp.block (AWp.seq (AWp.regionW T_ok rfl (WL.all (by simp (decide := true) only [EVs, EVt, Array.toList, h0, h1, h5, c2, c3, c8] <;> exact rfl) ?_))))
      refine AWp.cond (t := false) rfl (AWp.skip ?_)
      refine (AWp.regionW T_ok rfl (WL.all (by simp (decide := true) only [EVs, EVt, Array.toList, h5, c7] <;> exact rfl) ?_))
      refine ⟨l.length - (j + 1), by omega, j + 1, _, _, _, rfl, rfl, ?_, ?_, ?_, ?_⟩
      · simp (decide := true) only [EVs, EVt, Array.toList, h0]
      · simp (decide := true) only [EVs, EVt, Array.toList, h1]
      · simp (decide := true) only [EVs, EVt, Array.toList]
      · rw [take_snoc l j hlt, List.mem_append, List.mem_singleton]
        exact fun h => h.elim ha (fun h => hp h.symm)
  · have c1 : ltI (j : Int) (l.length : Int) = false := ltI_f (by omega)
    refine AWp.seq (AWp.seq (AWp.regionW T_ok rfl (WL.all (by simp (decide := true) only [EVs, EVt, Array.toList, h0, h5, c1] <;> exact rfl) ?_)))
    refine AWp.cond (t := false) rfl (AWp.exit ?_)
    refine AWp.seq (AWp.regionW T_ok rfl (WL.all (by simp (decide := true) only [EVs, EVt, Array.toList] <;> exact rfl) ?_))
    refine AWp.ret ⟨_, rfl, .inl ?_⟩
    rw [List.take_of_length_le (by omega)] at ha
    have hf : decide (c ∈ l) = false := by simpa using ha
    rw [hf]
    exact .refl _

theorem sp_SameSet (a b : List Int) (ha : a.length * 2 ≤ 140737488351232) (hb : b.length * 2 ≤ 140737488351232) : ACall Try.prog 42 [l16 a, l16 b] (bo (decide (a = b))) := by
  refine acall_of Try.func42 rfl rfl (Nat.le_of_ble_eq_true rfl) T_ok (fun base w0 => ?_)
  refine AWp.seq (AWp.regionW T_ok rfl (WL.all (by simp (decide := true) only [EVs, EVt, Array.toList] <;> exact rfl) ?_))
  by_cases he : a.length = b.length
  · have c0 : eqI (a.length : Int) (b.length : Int) = true := eqI_t (by omega)
    refine AWp.seq (AWp.seq (AWp.regionW T_ok rfl (WL.all (by simp (decide := true) only [EVs, EVt, Array.toList, c0] <;> exact rfl) ?_)))
    refine AWp.cond (t := false) rfl (AWp.skip ?_)
    refine AWp.seq (AWp.seq (AWp.regionW T_ok rfl (WL.all (by simp (decide := true) only [EVs, EVt, Array.toList] <;> exact rfl) ?_)))
    refine AWp.block (AWp.loop (fun n st => ∃ (j : Nat) (s : Nat → AV) (B : Nat → Nat × List AV) (L : Nat → Nat), st = ⟨26, 0, s, B, L⟩ ∧ n = a.length - j ∧ s 0 = l16 a ∧ s 1 = l16 b ∧ s 5 = i64 j ∧ a.take j = b.take j) ?_ (n := a.length)
      ⟨0, _, _, _, rfl, rfl, rfl, rfl, rfl, rfl⟩)
    rintro n st ⟨j, s, B, L, rfl, rfl, h0, h1, h5, hab⟩
    by_cases hlt : j < a.length
    · have c1 : ltI (j : Int) (a.length : Int) = true := ltI_t (by omega)
      have c2 := get_mapi u16 a j hlt
      have c2' := get_mapi u16 b j (by omega)
      have c3 : (0 : Int) ≤ (j : Int) := by omega
      have c7 := wup j (by omega)
      refine AWp.seq (AWp.seq (AWp.regionW T_ok rfl (WL.all (by simp (decide := true) only [EVs, EVt, Array.toList, h0, h5, c1] <;> exact rfl) ?_)))
      refine AWp.cond (t := true) rfl (AWp.skip ?_)
      by_cases hp : a[j] = b[j]'(by omega)
      · have c8 : eqI (a[j]) (b[j]'(by omega)) = true := eqI_t (by omega)
        refine AWp.seq (AWp.block (AWp.seq (AWp.drawnW T_ok mixed (by kernel_rfl) rfl (WL.all (by simp (decide := true) only [EVs, EVt, Array.toList, h0, h1, h5, c2, c2', c3, c8] <;> exact rfl) ?_))))
        refine AWp.cond (t := false) rfl (AWp.skip ?_)
        refine (AWp.regionW T_ok rfl (WL.all (by simp (decide := true) only [EVs, EVt, Array.toList, h5, c7] <;> exact rfl) ?_))
        refine ⟨a.length - (j + 1), by omega, j + 1, _, _, _, rfl, rfl, ?_, ?_, ?_, ?_⟩
        · simp (decide := true) only [EVs, EVt, Array.toList, h0]
        · simp (decide := true) only [EVs, EVt, Array.toList, h1]
        · simp (decide := true) only [EVs, EVt, Array.toList]
        · rw [take_snoc a j hlt, take_snoc b j (by omega), hab, hp]
      · have c8 : eqI (a[j]) (b[j]'(by omega)) = false := eqI_f (by omega)
        refine AWp.seq (AWp.block (AWp.seq (AWp.drawnW T_ok mixed (by kernel_rfl) rfl (WL.all (by simp (decide := true) only [EVs, EVt, Array.toList, h0, h1, h5, c2, c2', c3, c8] <;> exact rfl) ?_))))
        refine AWp.cond (t := true) rfl (AWp.seq (AWp.regionW T_ok rfl (WL.all (by simp (decide := true) only [EVs, EVt, Array.toList] <;> exact rfl) ?_)))
        refine AWp.ret ⟨_, rfl, .inl ?_⟩
        have hf : decide (a = b) = false := by
          simp only [decide_eq_false_iff_not]
          intro h
          exact hp (by subst h; rfl)
        rw [hf]
        exact .refl _
    · have c1 : ltI (j : Int) (a.length : Int) = false := ltI_f (by omega)
      refine AWp.seq (AWp.seq (AWp.regionW T_ok rfl (WL.all (by simp (decide := true) only [EVs, EVt, Array.toList, h0, h5, c1] <;> exact rfl) ?_)))
      refine AWp.cond (t := false) rfl (AWp.exit ?_)
      refine AWp.seq (AWp.regionW T_ok rfl (WL.all (by simp (decide := true) only [EVs, EVt, Array.toList] <;> exact rfl) ?_))
      refine AWp.ret ⟨_, rfl, .inl ?_⟩
      rw [List.take_of_length_le (by omega), List.take_of_length_le (by omega)] at hab
      have hf : decide (a = b) = true := by simpa using hab
      rw [hf]
      exact .refl _
  · have c0 : eqI (a.length : Int) (b.length : Int) = false := eqI_f (by omega)
    refine AWp.seq (AWp.seq (AWp.regionW T_ok rfl (WL.all (by simp (decide := true) only [EVs, EVt, Array.toList, c0] <;> exact rfl) ?_)))
    refine AWp.cond (t := true) rfl (AWp.seq (AWp.regionW T_ok rfl (WL.all (by simp (decide := true) only [EVs, EVt, Array.toList] <;> exact rfl) ?_)))
    refine AWp.ret ⟨_, rfl, .inl ?_⟩
    have hf : decide (a = b) = false := by
      simp only [decide_eq_false_iff_not]
      exact fun h => he (by rw [h])
    rw [hf]
    exact .refl _

theorem sp_part (a b : List Int) (q : Bool) (ha : a.length * 2 ≤ 140737488351232) (hb : b.length * 2 ≤ 140737488351232) : ACall Try.prog 69 [l16 a, l16 b, bo q] (f16 (fil q a b)) := by
  refine acall_of Try.func69 rfl rfl (Nat.le_of_ble_eq_true rfl) T_ok (fun base w0 => ?_)
  refine AWp.seq (AWp.regionW T_ok rfl (WL.all (by simp (decide := true) only [EVs, EVt, Array.toList] <;> exact rfl) ?_))
  refine AWp.seq (AWp.regionW T_ok rfl (WL.all (by simp (decide := true) only [EVs, EVt, Array.toList] <;> exact rfl) ?_))
  refine AWp.seq (AWp.seq (AWp.regionW T_ok rfl (WL.all (by simp (decide := true) only [EVs, EVt, Array.toList] <;> exact rfl) ?_)))
  refine AWp.block (AWp.loop (fun n st => ∃ (j : Nat) (s : Nat → AV) (B : Nat → Nat × List AV) (L : Nat → Nat), st = ⟨31, 0, s, B, L⟩ ∧ n = a.length - j ∧ s 0 = l16 a ∧ s 1 = l16 b ∧ s 2 = bo q ∧ s 8 = i64 j ∧
    Acc L (s 7) 1 ((fil q (a.take j) b).map u16)) ?_ (n := a.length) ⟨0, _, _, _, rfl, rfl, rfl, rfl, rfl, rfl, ⟨_, _, rfl, .inl ⟨rfl, .inl rfl⟩⟩⟩)
  rintro n st ⟨j, s, B, L, rfl, rfl, h0, h1, h2, h8, h7⟩
  by_cases hlt : j < a.length
  · have c1 : ltI (j : Int) (a.length : Int) = true := ltI_t (by omega)
    have c2 := get_mapi u16 a j hlt
    have c3 : (0 : Int) ≤ (j : Int) := by omega
    have c7 := wup j (by omega)
    have hle : (fil q (a.take j) b).length ≤ j := by have := fil_len q (a.take j) b; simp at this; omega
    refine AWp.seq (AWp.seq (AWp.regionW T_ok rfl (WL.all (by simp (decide := true) only [EVs, EVt, Array.toList, h0, h8, c1] <;> exact rfl) ?_)))
    refine AWp.cond (t := true) rfl (AWp.skip ?_)
    refine AWp.seq (AWp.block (AWp.seq (AWp.regionW T_ok rfl (WL.next 5 rfl rfl (by simp (decide := true) only [EVs, EVt, Array.toList, h0, h1, h8, c2, c3] <;> exact rfl) ?_))))
    refine WL.c rfl rfl rfl rfl (by simp (decide := true) only [EVs, EVt, Array.toList, calleeOf, h0, h1, h8, c2, c3] <;> exact rfl) (by simp (decide := true) only [EVs, EVt, Array.toList, argsOf, frz, h0, h1, h8, c2, c3] <;> exact rfl) (sp_Has b a[j] hb) rfl ?_
    cases hq : decide (a[j] ∈ b) == q with
    | true =>
      refine WL.all (by simp (decide := true) only [EVs, EVt, Array.toList, h2, hq] <;> exact rfl) ?_
      refine AWp.cond (t := true) rfl (AWp.regionW T_ok rfl (WL.next 6 rfl rfl (by simp (decide := true) only [EVs, EVt, Array.toList, h0, h8, c2, c3] <;> exact rfl) ?_))
      refine WL.acc rfl rfl rfl rfl rfl rfl rfl T_u16s rfl T_u16 (by simp (decide := true) only [EVs, EVt, Array.toList]; exact h7) rfl (.inl rfl) (by simp; omega) (by decide) (fun v L' hA => ?_)
      refine (WL.all (by simp (decide := true) only [EVs, EVt, Array.toList] <;> exact rfl) ?_)
      refine (AWp.regionW T_ok rfl (WL.all (by simp (decide := true) only [EVs, EVt, Array.toList, h8, c7] <;> exact rfl) ?_))
      refine ⟨a.length - (j + 1), by omega, j + 1, _, _, _, rfl, rfl, ?_, ?_, ?_, ?_, ?_⟩
      · simp (decide := true) only [EVs, EVt, Array.toList, h0]
      · simp (decide := true) only [EVs, EVt, Array.toList, h1]
      · simp (decide := true) only [EVs, EVt, Array.toList, h2]
      · simp (decide := true) only [EVs, EVt, Array.toList]
      · simp (decide := true) only [EVs, EVt, Array.toList]
        rw [take_snoc a j hlt]
        unfold fil at hA ⊢
        rw [List.filter_append, List.map_append]
        simp only [List.filter_cons, hq, if_true, List.filter_nil, List.map_cons, List.map_nil]
        exact hA
    | false =>
      refine WL.all (by simp (decide := true) only [EVs, EVt, Array.toList, h2, hq] <;> exact rfl) ?_
      refine AWp.cond (t := false) rfl (AWp.skip ?_)
      refine (AWp.regionW T_ok rfl (WL.all (by simp (decide := true) only [EVs, EVt, Array.toList, h8, c7] <;> exact rfl) ?_))
      refine ⟨a.length - (j + 1), by omega, j + 1, _, _, _, rfl, rfl, ?_, ?_, ?_, ?_, ?_⟩
      · simp (decide := true) only [EVs, EVt, Array.toList, h0]
      · simp (decide := true) only [EVs, EVt, Array.toList, h1]
      · simp (decide := true) only [EVs, EVt, Array.toList, h2]
      · simp (decide := true) only [EVs, EVt, Array.toList]
      · simp (decide := true) only [EVs, EVt, Array.toList]
        rw [take_snoc a j hlt]
        unfold fil at h7 ⊢
        rw [List.filter_append]
        simp only [List.filter_cons, hq, Bool.false_eq_true, if_false, List.filter_nil, List.append_nil]
        exact h7
  · have c1 : ltI (j : Int) (a.length : Int) = false := ltI_f (by omega)
    refine AWp.seq (AWp.seq (AWp.regionW T_ok rfl (WL.all (by simp (decide := true) only [EVs, EVt, Array.toList, h0, h8, c1] <;> exact rfl) ?_)))
    refine AWp.cond (t := false) rfl (AWp.exit ?_)
    refine AWp.seq (AWp.regionW T_ok rfl (WL.all (by simp (decide := true) only [EVs, EVt, Array.toList] <;> exact rfl) ?_))
    refine AWp.ret ⟨_, rfl, .inr ⟨1, _, rfl, ?_⟩⟩
    simp (decide := true) only [EVs, EVt, Array.toList]
    rw [List.take_of_length_le (by omega)] at h7
    exact h7
theorem sp_RLess (a b : List Int) (ha : a.length * 2 ≤ 140737488351232) (hb : b.length * 2 ≤ 140737488351232) : ACall Try.prog 26 [l16 a, l16 b] (f16 (fil false a b)) := by
  refine acall_of Try.func26 rfl rfl (Nat.le_of_ble_eq_true rfl) T_ok (fun base w0 => ?_)
  refine AWp.seq (AWp.regionW T_ok rfl (WL.all (by simp (decide := true) only [EVs, EVt, Array.toList] <;> exact rfl) ?_))
  refine AWp.seq (AWp.regionW T_ok rfl (WL.next 2 rfl rfl (by simp (decide := true) only [EVs, EVt, Array.toList] <;> exact rfl) ?_))
  refine WL.f rfl rfl rfl rfl (by simp (decide := true) only [EVs, EVt, Array.toList, calleeOf] <;> exact rfl) (by simp (decide := true) only [EVs, EVt, Array.toList, argsOf, frz] <;> exact rfl) (sp_part a b false ha hb) ?_
  refine (WL.all (by simp (decide := true) only [EVs, EVt, Array.toList] <;> exact rfl) ?_)
  exact AWp.ret ⟨_, rfl, .inr ⟨1, _, rfl, _, _, rfl, .inr ⟨_, rfl, rfl⟩⟩⟩
theorem sp_RIn (a b : List Int) (ha : a.length * 2 ≤ 140737488351232) (hb : b.length * 2 ≤ 140737488351232) : ACall Try.prog 25 [l16 a, l16 b] (bo (decide (fil false a b = []))) := by
  refine acall_of Try.func25 rfl rfl (Nat.le_of_ble_eq_true rfl) T_ok (fun base w0 => ?_)
  refine AWp.seq (AWp.regionW T_ok rfl (WL.all (by simp (decide := true) only [EVs, EVt, Array.toList] <;> exact rfl) ?_))
  refine AWp.seq (AWp.regionW T_ok rfl (WL.next 2 rfl rfl (by simp (decide := true) only [EVs, EVt, Array.toList] <;> exact rfl) ?_))
  refine WL.f rfl rfl rfl rfl (by simp (decide := true) only [EVs, EVt, Array.toList, calleeOf] <;> exact rfl) (by simp (decide := true) only [EVs, EVt, Array.toList, argsOf, frz] <;> exact rfl) (sp_part a b false ha hb) ?_
  refine (WL.all (by simp (decide := true) only [EVs, EVt, Array.toList, eqI_len] <;> exact rfl) ?_)
  exact AWp.ret ⟨_, rfl, .inl (.refl _)⟩

theorem sp_Make (l : List Int) (hl : l.length * 2 ≤ 140737488351232) : ACall Try.prog 85 [l16 l] (f16 (mk l)) := by
  refine acall_of Try.func85 rfl rfl (Nat.le_of_ble_eq_true rfl) T_ok (fun base w0 => ?_)
  refine AWp.seq (AWp.regionW T_ok rfl (WL.all (by simp (decide := true) only [EVs, EVt, Array.toList] <;> exact rfl) ?_))
  refine AWp.seq (AWp.regionW T_ok rfl (WL.all (by simp (decide := true) only [EVs, EVt, Array.toList] <;> exact rfl) ?_))
  refine AWp.seq (AWp.seq (AWp.regionW T_ok rfl (WL.all (by simp (decide := true) only [EVs, EVt, Array.toList] <;> exact rfl) ?_)))
  refine AWp.block (AWp.loop (fun n st => ∃ (j : Nat) (s : Nat → AV) (B : Nat → Nat × List AV) (L : Nat → Nat), st = ⟨60, 0, s, B, L⟩ ∧ j ≤ l.length ∧ n = l.length - j ∧ s 0 = l16 l ∧ s 4 = i64 j ∧
    Acc L (s 3) 1 ((mk (l.take j)).map u16)) ?_ (n := l.length) ⟨0, _, _, _, rfl, by omega, rfl, rfl, rfl, ⟨_, _, rfl, .inl ⟨rfl, .inl rfl⟩⟩⟩)
  rintro n st ⟨j, s, B, L, rfl, hj, rfl, h0, h4, h3⟩
  by_cases hlt : j < l.length
  · have c1 : ltI (j : Int) (l.length : Int) = true := ltI_t (by omega)
    have c2 := get_mapi u16 l j hlt
    have c3 : (0 : Int) ≤ (j : Int) := by omega
    have c7 := wup j (by omega)
    have hle := mk_take_len l j hj
    have hms := mk_snoc (l.take j) l[j]
    rw [← take_snoc l j hlt] at hms
    generalize mk (l.take j) = out at hle hms h3
    refine AWp.seq (AWp.seq (AWp.regionW T_ok rfl (WL.all (by simp (decide := true) only [EVs, EVt, Array.toList, h0, h4, c1] <;> exact rfl) ?_)))
    refine AWp.cond (t := true) rfl (AWp.skip ?_)
    refine AWp.seq (AWp.block (AWp.seq (AWp.regionW T_ok rfl (WL.all (by simp (decide := true) only [EVs, EVt, Array.toList] <;> exact rfl) ?_))))
    obtain ⟨ow, sx, hv, hacc⟩ := h3
    have hsx : sx = 1 ∨ out.map u16 = [] := by
      rcases hacc with ⟨_, h | h⟩ | ⟨_, _, h⟩
      · exact .inr h
      · exact .inl h
      · exact .inl h
    have hse : sx = 1 ∨ (out.map u16).isEmpty = true := hsx.imp id (by simp)
    -- the inner loop: how many are less
    refine AWp.seq (AWp.block (AWp.loop (fun n st => ∃ (k : Nat) (s : Nat → AV), st = ⟨60, 0, s, B, L⟩ ∧ n = out.length - k ∧ s 0 = l16 l ∧ s 4 = i64 j ∧ s 3 = .list sx (out.map u16) ow ∧ s 5 = i64 k ∧
      ∃ hk : k ≤ out.length, ∀ (m : Nat) (h : m < k), out[m]'(by omega) < l[j]) ?_ (n := out.length) ⟨0, _, rfl, rfl, ?_, ?_, ?_, rfl, by omega, fun m h => by omega⟩))
    · rintro n st ⟨k, s, rfl, rfl, h0, h4, h3, h5, hk, hm⟩
      have d3 : (0 : Int) ≤ (k : Int) := by omega
      by_cases hkl : k < out.length
      · have d1 : ltI (k : Int) (out.length : Int) = true := ltI_t (by omega)
        have d2 := get_mapi u16 out k hkl
        have d7 := wup k (by omega)
        have hsx1 : sx = 1 := hsx.resolve_right (fun h => by simp at h; rw [h] at hkl; simp at hkl)
        subst hsx1
        by_cases hlk : out[k] < l[j]
        · have d8 : ltI out[k] l[j] = true := ltI_t hlk
          refine AWp.seq (AWp.seq (AWp.drawnW T_ok mixed (by kernel_rfl) rfl (WL.all (by simp (decide := true) only [EVs, EVt, Array.toList, h0, h3, h4, h5, c2, c3, d1, d2, d3, d8] <;> exact rfl) ?_)))
          refine AWp.cond (t := true) rfl (AWp.skip (AWp.block (AWp.regionW T_ok rfl (WL.all (by simp (decide := true) only [EVs, EVt, Array.toList, h5, d7] <;> exact rfl) ?_))))
          refine ⟨out.length - (k + 1), by omega, k + 1, _, rfl, rfl, ?_, ?_, ?_, ?_, by omega, fun m h => ?_⟩
          · simp (decide := true) only [EVs, EVt, Array.toList, h0]
          · simp (decide := true) only [EVs, EVt, Array.toList, h4]
          · simp (decide := true) only [EVs, EVt, Array.toList, h3]
          · simp (decide := true) only [EVs, EVt, Array.toList]
          · by_cases e : m = k
            · subst e; exact hlk
            · exact hm m (by omega)
        · have d8 : ltI out[k] l[j] = false := ltI_f hlk
          have hkp := kpos_of out l[j] k hk hm (.inr ⟨hkl, hlk⟩)
          refine AWp.seq (AWp.seq (AWp.drawnW T_ok mixed (by kernel_rfl) rfl (WL.all (by simp (decide := true) only [EVs, EVt, Array.toList, h0, h3, h4, h5, c2, c3, d1, d2, d3, d8] <;> exact rfl) ?_)))
          refine AWp.cond (t := false) rfl (AWp.exit ?_)
          have d9 : eqI (k : Int) (out.length : Int) = false := eqI_f (by omega)
          by_cases he : out[k] = l[j]
          · have d10 : eqI out[k] l[j] = true := eqI_t he
            refine AWp.seq (AWp.drawnW T_ok mixed (by kernel_rfl) rfl (WL.all (by simp (decide := true) only [EVs, EVt, Array.toList, h0, h3, h4, h5, c2, c3, d2, d3, d9, d10] <;> exact rfl) ?_))
            refine AWp.cond (t := false) rfl (AWp.skip ?_)
            refine (AWp.regionW T_ok rfl (WL.all (by simp (decide := true) only [EVs, EVt, Array.toList, h4, c7] <;> exact rfl) ?_))
            refine ⟨l.length - (j + 1), by omega, j + 1, _, _, _, rfl, by omega, rfl, ?_, ?_, ?_⟩
            · simp (decide := true) only [EVs, EVt, Array.toList, h0]
            · simp (decide := true) only [EVs, EVt, Array.toList]
            · simp (decide := true) only [EVs, EVt, Array.toList, h3]
              have : mk (l.take (j + 1)) = out := by
                rw [hms]; unfold ins; rw [hkp, if_neg]
                simp [hkl, he] <;> omega
              rw [this]
              exact ⟨_, _, rfl, hacc⟩
          · have d10 : eqI out[k] l[j] = false := eqI_f he
            have hnew : mk (l.take (j + 1)) = out.take k ++ [l[j]] ++ out.drop k := by
              rw [hms]; unfold ins; rw [hkp, if_pos]
              right; simp [hkl, he]
            refine AWp.seq (AWp.drawnW T_ok mixed (by kernel_rfl) rfl (WL.all (by simp (decide := true) only [EVs, EVt, Array.toList, h0, h3, h4, h5, c2, c3, d2, d3, d9, d10] <;> exact rfl) ?_))
            refine AWp.cond (t := true) rfl ?_
            refine AWp.drawnW T_ok mixed (by kernel_rfl) rfl (WL.next 4 rfl rfl (by simp (decide := true) only [EVs, EVt, Array.toList, h0, h3, h4, h5, d3, hse, hk, Int.toNat_natCast, true_or] <;> exact rfl) ?_)
            refine WL.acc (e := 33) (xs := []) (ys := (out.map u16).take k) (sy := 1) (oy := .no) rfl rfl rfl rfl rfl rfl rfl T_u16s rfl T_u16 (by simp (decide := true) only [EVs, EVt, Array.toList]; exact ⟨_, _, rfl, .inl ⟨rfl, .inl rfl⟩⟩) (by simp (decide := true) only [EVs, EVt, Array.toList]) (.inl rfl) (by simp; omega) (by decide) (fun v L1 hA1 => ?_)
            refine (WL.next 5 rfl rfl (by simp (decide := true) only [EVs, EVt, Array.toList, h0, h4, c2, c3] <;> exact rfl) ?_)
            refine WL.acc (e := 33) (ys := [u16 l[j]]) (sy := 1) (oy := .full) rfl rfl rfl rfl rfl rfl rfl T_u16s rfl T_u16 (by simp (decide := true) only [EVs, EVt, Array.toList]; exact hA1) (by simp (decide := true) only [EVs, EVt, Array.toList]) (.inl rfl) (by simp; omega) (by decide) (fun v L2 hA2 => ?_)
            refine (WL.next 3 rfl rfl (by simp (decide := true) only [EVs, EVt, Array.toList, h3, h5, d3, hse, hk, Int.toNat_natCast, true_or] <;> exact rfl) ?_)
            refine WL.acc (e := 33) (ys := (out.map u16).drop k) (sy := 1) (oy := .no) rfl rfl rfl rfl rfl rfl rfl T_u16s rfl T_u16 (by simp (decide := true) only [EVs, EVt, Array.toList]; exact hA2) (by simp (decide := true) only [EVs, EVt, Array.toList]) (.inl rfl) (by simp; omega) (by decide) (fun v L3 hA3 => ?_)
            refine (WL.all (by simp (decide := true) only [EVs, EVt, Array.toList] <;> exact rfl) ?_)
            refine (AWp.regionW T_ok rfl (WL.all (by simp (decide := true) only [EVs, EVt, Array.toList, h4, c7] <;> exact rfl) ?_))
            refine ⟨l.length - (j + 1), by omega, j + 1, _, _, _, rfl, by omega, rfl, ?_, ?_, ?_⟩
            · simp (decide := true) only [EVs, EVt, Array.toList, h0]
            · simp (decide := true) only [EVs, EVt, Array.toList]
            · simp (decide := true) only [EVs, EVt, Array.toList]
              rw [hnew, List.map_append, List.map_append, List.map_take, List.map_drop]
              exact hA3
      · have hke : k = out.length := by omega
        have hkp := kpos_of out l[j] k hk hm (.inl hke)
        have d1 : ltI (k : Int) (out.length : Int) = false := ltI_f (by omega)
        refine AWp.seq (AWp.seq (AWp.drawnW T_ok mixed (by kernel_rfl) rfl (WL.all (by simp (decide := true) only [EVs, EVt, Array.toList, h0, h3, h4, h5, c2, c3, d1, d3] <;> exact rfl) ?_)))
        refine AWp.cond (t := false) rfl (AWp.exit ?_)
        have d9 : eqI (k : Int) (out.length : Int) = true := eqI_t (by omega)
        have hnew : mk (l.take (j + 1)) = out.take k ++ [l[j]] ++ out.drop k := by
          rw [hms]; unfold ins; rw [hkp, if_pos (.inl hke)]
        refine AWp.seq (AWp.drawnW T_ok mixed (by kernel_rfl) rfl (WL.all (by simp (decide := true) only [EVs, EVt, Array.toList, h0, h3, h4, h5, c2, c3, d3, d9] <;> exact rfl) ?_))
        refine AWp.cond (t := true) rfl ?_
        refine AWp.drawnW T_ok mixed (by kernel_rfl) rfl (WL.next 4 rfl rfl (by simp (decide := true) only [EVs, EVt, Array.toList, h0, h3, h4, h5, d3, hse, hk, Int.toNat_natCast, true_or] <;> exact rfl) ?_)
        refine WL.acc (e := 33) (xs := []) (ys := (out.map u16).take k) (sy := 1) (oy := .no) rfl rfl rfl rfl rfl rfl rfl T_u16s rfl T_u16 (by simp (decide := true) only [EVs, EVt, Array.toList]; exact ⟨_, _, rfl, .inl ⟨rfl, .inl rfl⟩⟩) (by simp (decide := true) only [EVs, EVt, Array.toList]) (.inl rfl) (by simp; omega) (by decide) (fun v L1 hA1 => ?_)
        refine (WL.next 5 rfl rfl (by simp (decide := true) only [EVs, EVt, Array.toList, h0, h4, c2, c3] <;> exact rfl) ?_)
        refine WL.acc (e := 33) (ys := [u16 l[j]]) (sy := 1) (oy := .full) rfl rfl rfl rfl rfl rfl rfl T_u16s rfl T_u16 (by simp (decide := true) only [EVs, EVt, Array.toList]; exact hA1) (by simp (decide := true) only [EVs, EVt, Array.toList]) (.inl rfl) (by simp; omega) (by decide) (fun v L2 hA2 => ?_)
        refine (WL.next 3 rfl rfl (by simp (decide := true) only [EVs, EVt, Array.toList, h3, h5, d3, hse, hk, Int.toNat_natCast, true_or] <;> exact rfl) ?_)
        refine WL.acc (e := 33) (ys := (out.map u16).drop k) (sy := 1) (oy := .no) rfl rfl rfl rfl rfl rfl rfl T_u16s rfl T_u16 (by simp (decide := true) only [EVs, EVt, Array.toList]; exact hA2) (by simp (decide := true) only [EVs, EVt, Array.toList]) (.inl rfl) (by simp; omega) (by decide) (fun v L3 hA3 => ?_)
        refine (WL.all (by simp (decide := true) only [EVs, EVt, Array.toList] <;> exact rfl) ?_)
        refine (AWp.regionW T_ok rfl (WL.all (by simp (decide := true) only [EVs, EVt, Array.toList, h4, c7] <;> exact rfl) ?_))
        refine ⟨l.length - (j + 1), by omega, j + 1, _, _, _, rfl, by omega, rfl, ?_, ?_, ?_⟩
        · simp (decide := true) only [EVs, EVt, Array.toList, h0]
        · simp (decide := true) only [EVs, EVt, Array.toList]
        · simp (decide := true) only [EVs, EVt, Array.toList]
          rw [hnew, List.map_append, List.map_append, List.map_take, List.map_drop]
          exact hA3
    · simp (decide := true) only [EVs, EVt, Array.toList, h0]
    · simp (decide := true) only [EVs, EVt, Array.toList, h4]
    · simp (decide := true) only [EVs, EVt, Array.toList, hv]
  · have c1 : ltI (j : Int) (l.length : Int) = false := ltI_f (by omega)
    refine AWp.seq (AWp.seq (AWp.regionW T_ok rfl (WL.all (by simp (decide := true) only [EVs, EVt, Array.toList, h0, h4, c1] <;> exact rfl) ?_)))
    refine AWp.cond (t := false) rfl (AWp.exit ?_)
    refine AWp.seq (AWp.regionW T_ok rfl (WL.all (by simp (decide := true) only [EVs, EVt, Array.toList] <;> exact rfl) ?_))
    refine AWp.ret ⟨_, rfl, .inr ⟨1, _, rfl, ?_⟩⟩
    simp (decide := true) only [EVs, EVt, Array.toList]
    rw [List.take_of_length_le (by omega)] at h3
    exact h3

end Go.Proofs.Ytfgndnackofenaa.E
