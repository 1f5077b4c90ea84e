/-
  Labels compared, set, put together (packages label, transomref1), walked in abstract values. Conditions: lengths, levels are 0 to 5, categories are 16 bits.
-/
import Derived.Test.YtopdgmjmpmkamaaEWLm
import Derived.Test.YtopdgmjmpmkamaaEWMake
import Derived.Test.YtopdgmjmpmkamaaEWSame
import Derived.Test.YtopdgmjmpmkamaaEWRLab
import Derived.Test.YtopdgmjmpmkamaaEWCan
namespace Go.Proofs.Ytopdgmjmpmkamaa.E
open Go Go.RowKit Go.Proofs.YtopdgmjmpmkamaaW.E
set_option linter.unusedVariables false
set_option linter.unusedSimpArgs false
set_option maxRecDepth 100000
set_option maxHeartbeats 4000000

theorem sp_RSameSet (a b : List Int) (ha : a.length ≤ 140737488351232) (hb : b.length ≤ 140737488351232) : ACall Try.prog 41 [l16 a, l16 b] (bo (decide (a = b))) := by
  refine acall_of Try.func41 rfl rfl (Nat.le_of_ble_eq_true rfl) T_ok (fun base w0 => ?_)
  refine AWp.seq (AWp.regionW T_ok rfl (WL.all (by simp (decide := true) only [EVs, EVt, Array.toList] <;> exact rfl) ?_))
  by_cases h2 : a.length = b.length
  · have c2 : eqI (a.length : Int) (b.length : Int) = true := eqI_t (by omega)
    refine AWp.seq (AWp.seq (AWp.regionW T_ok rfl (WL.all (by simp (decide := true) only [EVs, EVt, Array.toList, c2] <;> exact rfl) ?_)))
    refine AWp.cond (t := false) rfl (AWp.skip ?_)
    refine AWp.seq (AWp.seq (AWp.regionW T_ok rfl (WL.all (by simp (decide := true) only [EVs, EVt, Array.toList] <;> exact rfl) ?_)))
    refine AWp.block (AWp.loop (fun n st => ∃ (j : Nat) (s : Nat → AV) (B : Nat → Nat × List AV) (L : Nat → Nat), st = ⟨26, 0, s, B, L⟩ ∧ j ≤ a.length ∧ n = a.length - j ∧ s 0 = l16 a ∧ s 1 = l16 b ∧ s 5 = i64 j ∧ a.take j = b.take j) ?_ (n := a.length)
      ⟨0, _, _, _, rfl, by omega, rfl, rfl, rfl, rfl, rfl⟩)
    rintro n st ⟨j, s, B, L, rfl, hj, rfl, s0, s1, s5, hs⟩
    by_cases hlt : j < a.length
    · have e1 : ltI (j : Int) (a.length : Int) = true := ltI_t (by omega)
      have e2 := get_mapi u16 a j hlt
      have e3 := get_mapi u16 b j (by omega)
      have e7 := wup j (by omega)
      refine AWp.seq (AWp.seq (AWp.regionW T_ok rfl (WL.all (by simp (decide := true) only [EVs, EVt, Array.toList, s0, s5, e1] <;> exact rfl) ?_)))
      refine AWp.cond (t := true) rfl (AWp.skip ?_)
      by_cases hp : a[j] = b[j]'(by omega)
      · have c1 : eqI a[j] (b[j]'(by omega)) = true := eqI_t hp
        refine AWp.seq (AWp.block (AWp.seq (AWp.drawnW T_ok mixed (by kernel_rfl) rfl (WL.all (by simp (decide := true) only [EVs, EVt, Array.toList, s0, s1, s5, e2, e3, c1] <;> exact rfl) ?_))))
        refine AWp.cond (t := false) rfl (AWp.skip ?_)
        refine (AWp.regionW T_ok rfl (WL.all (by simp (decide := true) only [EVs, EVt, Array.toList, s5, e7] <;> exact rfl) ?_))
        refine ⟨a.length - (j + 1), by omega, j + 1, _, _, _, rfl, by omega, rfl, ?_, ?_, ?_, ?_⟩
        · simp (decide := true) only [EVs, EVt, Array.toList, s0]
        · simp (decide := true) only [EVs, EVt, Array.toList, s1]
        · simp (decide := true) only [EVs, EVt, Array.toList]
        · rw [take_snoc a j hlt, take_snoc b j (by omega), hs, hp]
      · have c1 : eqI a[j] (b[j]'(by omega)) = false := eqI_f hp
        refine AWp.seq (AWp.block (AWp.seq (AWp.drawnW T_ok mixed (by kernel_rfl) rfl (WL.all (by simp (decide := true) only [EVs, EVt, Array.toList, s0, s1, s5, e2, e3, c1] <;> exact rfl) ?_))))
        refine AWp.cond (t := true) rfl (AWp.seq (AWp.regionW T_ok rfl (WL.all (by simp (decide := true) only [EVs, EVt, Array.toList] <;> exact rfl) ?_)))
        refine AWp.ret ⟨_, rfl, .inl ?_⟩
        have hf : decide (a = b) = false := by
          rw [decide_eq_false_iff_not]
          intro h
          subst h
          exact hp rfl
        rw [hf]
        exact .refl _
    · have e1 : ltI (j : Int) (a.length : Int) = false := ltI_f (by omega)
      refine AWp.seq (AWp.seq (AWp.regionW T_ok rfl (WL.all (by simp (decide := true) only [EVs, EVt, Array.toList, s0, s5, e1] <;> exact rfl) ?_)))
      refine AWp.cond (t := false) rfl (AWp.exit ?_)
      refine AWp.seq (AWp.regionW T_ok rfl (WL.all (by simp (decide := true) only [EVs, EVt, Array.toList] <;> exact rfl) ?_))
      refine AWp.ret ⟨_, rfl, .inl ?_⟩
      rw [List.take_of_length_le (by omega), List.take_of_length_le (by omega)] at hs
      rw [decide_eq_true hs]
      exact .refl _
  · have c2 : eqI (a.length : Int) (b.length : Int) = false := eqI_f (by omega)
    refine AWp.seq (AWp.seq (AWp.regionW T_ok rfl (WL.all (by simp (decide := true) only [EVs, EVt, Array.toList, c2] <;> exact rfl) ?_)))
    refine AWp.cond (t := true) rfl (AWp.seq (AWp.regionW T_ok rfl (WL.all (by simp (decide := true) only [EVs, EVt, Array.toList] <;> exact rfl) ?_)))
    refine AWp.ret ⟨_, rfl, .inl ?_⟩
    have hf : decide (a = b) = false := by
      rw [decide_eq_false_iff_not]
      intro h
      exact h2 (by rw [h])
    rw [hf]; exact .refl _
theorem sp_CloneP (l : List Pr) (hl : l.length ≤ 35184372087808) : ACall Try.prog 45 [lps l] (.list 2 (l.map prA) fresh) := by
  refine acall_of Try.func45 rfl rfl (Nat.le_of_ble_eq_true rfl) T_ok (fun base w0 => ?_)
  cases l with
  | nil =>
    refine AWp.seq (AWp.regionW T_ok rfl (WL.all (by simp (decide := true) only [EVs, EVt, Array.toList] <;> exact rfl) ?_))
    refine AWp.slnil (t := 0) (sz := 2) (ow := .no) rfl (fun A k => ?_)
    cases A with
    | none =>
      refine AWp.seq (AWp.seq (AWp.regionW T_ok rfl (WL.all (by simp (decide := true) only [EVs, EVt, Array.toList, anilt] <;> exact rfl) ?_)))
      refine AWp.cond (t := true) rfl (AWp.seq (AWp.regionW T_ok rfl (WL.all (by simp (decide := true) only [EVs, EVt, Array.toList] <;> exact rfl) ?_)))
      exact AWp.ret ⟨_, rfl, .inr ⟨2, _, rfl, ⟨_, _, rfl, .inl ⟨rfl, .inl rfl⟩⟩⟩⟩
    | some A =>
      refine AWp.seq (AWp.seq (AWp.regionW T_ok rfl (WL.all (by simp (decide := true) only [EVs, EVt, Array.toList, anilt] <;> exact rfl) ?_)))
      refine AWp.cond (t := false) rfl (AWp.skip ?_)
      refine AWp.slback (t := 0) (k := k) 2 (A := some A) rfl ?_
      refine AWp.seq (AWp.regionW T_ok rfl (WL.next 2 rfl rfl (by simp (decide := true) only [EVs, EVt, Array.toList] <;> exact rfl) ?_))
      refine WL.acc (e := 40) (xs := []) (ys := []) (sy := 2) (oy := .no) rfl rfl rfl rfl rfl rfl rfl T_prs rfl T_pr (by simp (decide := true) only [EVs, EVt, Array.toList]; exact ⟨_, _, rfl, .inl ⟨rfl, .inl rfl⟩⟩) (by simp (decide := true) only [EVs, EVt, Array.toList]) (.inl rfl) (by simp) (by decide) (fun v L1 hA1 => ?_)
      refine (WL.all (by simp (decide := true) only [EVs, EVt, Array.toList] <;> exact rfl) ?_)
      refine AWp.ret ⟨_, rfl, .inr ⟨2, _, rfl, ?_⟩⟩
      simp (decide := true) only [EVs, EVt, Array.toList]
      exact hA1
  | cons x l =>
    refine AWp.seq (AWp.regionW T_ok rfl (WL.all (by simp (decide := true) only [EVs, EVt, Array.toList] <;> exact rfl) ?_))
    refine AWp.seq (AWp.seq (AWp.regionW T_ok rfl (WL.all (by simp (decide := true) only [EVs, EVt, Array.toList, anilt] <;> exact rfl) ?_)))
    refine AWp.cond (t := false) rfl (AWp.skip ?_)
    refine AWp.seq (AWp.regionW T_ok rfl (WL.next 2 rfl rfl (by simp (decide := true) only [EVs, EVt, Array.toList] <;> exact rfl) ?_))
    refine WL.acc (e := 40) (xs := []) (ys := (x :: l).map prA) (sy := 2) (oy := .no) rfl rfl rfl rfl rfl rfl rfl T_prs rfl T_pr (by simp (decide := true) only [EVs, EVt, Array.toList]; exact ⟨_, _, rfl, .inl ⟨rfl, .inl rfl⟩⟩) rfl (.inl rfl) (by simp at hl ⊢; omega) (by decide) (fun v L1 hA1 => ?_)
    refine (WL.all (by simp (decide := true) only [EVs, EVt, Array.toList] <;> exact rfl) ?_)
    refine AWp.ret ⟨_, rfl, .inr ⟨2, _, rfl, ?_⟩⟩
    simp (decide := true) only [EVs, EVt, Array.toList]
    exact hA1
theorem sp_LSet (d : Int) (l : List Pr) (c v : Int) (hl : l.length ≤ 35184372087000) (hc : ∀ p ∈ l, 0 ≤ p.c ∧ p.c < 65536) (c0 : 0 ≤ c) (c1 : c < 65536) : ACall Try.prog 19 [lab d l, u16 c, u8 v] (lab d (setR d l c v)) := by
  have hM := sp_LMake d (l ++ [⟨c, v⟩]) (by simp; omega) (fun p hp => by
    rcases List.mem_append.1 hp with hp | hp
    · exact hc p hp
    · simp only [List.mem_cons, List.not_mem_nil, or_false] at hp; subst hp; exact ⟨c0, c1⟩)
  simp only [lps, List.map_append, List.map_cons, List.map_nil] at hM
  refine acall_of Try.func19 rfl rfl (Nat.le_of_ble_eq_true rfl) T_ok (fun base w0 => ?_)
  refine AWp.seq (AWp.regionW T_ok rfl (WL.all (by simp (decide := true) only [EVs, EVt, Array.toList] <;> exact rfl) ?_))
  refine AWp.seq (AWp.drawnW T_ok mixed (by kernel_rfl) rfl (WL.next 4 rfl rfl (by simp (decide := true) only [EVs, EVt, Array.toList] <;> exact rfl) ?_))
  refine WL.f rfl rfl rfl rfl (by simp (decide := true) only [EVs, EVt, Array.toList, calleeOf] <;> exact rfl) (by simp (decide := true) only [EVs, EVt, Array.toList, argsOf, frz] <;> exact rfl) (sp_CloneP l (by omega)) ?_
  refine (WL.next 4 rfl rfl (by simp (decide := true) only [EVs, EVt, Array.toList] <;> exact rfl) ?_)
  refine WL.acc (e := 40) (xs := l.map prA) (ys := [prA ⟨c, v⟩]) (sy := 2) (oy := .full) rfl rfl rfl rfl rfl rfl rfl T_prs rfl T_pr (by simp (decide := true) only [EVs, EVt, Array.toList]; exact ⟨_, _, rfl, .inr ⟨_, rfl, rfl⟩⟩) (by simp (decide := true) only [EVs, EVt, Array.toList]) (.inl rfl) (by simp; omega) (by decide) (fun v2 L2 hA2 => ?_)
  obtain ⟨o2, sx, rfl, hacc⟩ := hA2
  have hw : sx = 2 ∨ l.map prA ++ [prA ⟨c, v⟩] = [] := by
    rcases hacc with ⟨_, h | h⟩ | ⟨_, _, h⟩
    · exact .inr h
    · exact .inl h
    · exact .inl h
  refine WL.c rfl rfl rfl rfl (by simp (decide := true) only [EVs, EVt, Array.toList, calleeOf] <;> exact rfl) (by simp (decide := true) only [EVs, EVt, Array.toList, argsOf, frz] <;> exact rfl) (ACall.wkl hM (.cons (.refl _) (.cons (.list _ _ _ _ hw) .nil))) rfl ?_
  refine (WL.all (by simp (decide := true) only [EVs, EVt, Array.toList] <;> exact rfl) ?_)
  exact AWp.ret ⟨_, rfl, .inl (.refl _)⟩
theorem sp_LJoin (da : Int) (a : List Pr) (db : Int) (b : List Pr) (ha : a.length ≤ 500000) (hb : b.length ≤ 500000) (hda : 0 ≤ da ∧ da ≤ 5) (hdb : 0 ≤ db ∧ db ≤ 5) (hla : ∀ p ∈ a, 0 ≤ p.l ∧ p.l ≤ 5) (hlb : ∀ p ∈ b, 0 ≤ p.l ∧ p.l ≤ 5) :
    ACall Try.prog 23 [lab da a, lab db b] (lab (mx da db) (bthL mx da a db b)) := by
  have h := sp_both 50 mx (fun x => 0 ≤ x ∧ x ≤ 5) (fun x y hx hy => sp_LvMax x y hx.1 hx.2 hy.1 hy.2) da a db b ha hb hda hdb hla hlb
  refine acall_of Try.func23 rfl rfl (Nat.le_of_ble_eq_true rfl) T_ok (fun base w0 => ?_)
  refine AWp.seq (AWp.regionW T_ok rfl (WL.all (by simp (decide := true) only [EVs, EVt, Array.toList] <;> exact rfl) ?_))
  refine AWp.seq (AWp.regionW T_ok rfl ?_)
  (repeat (first | refine WL.c rfl rfl rfl (by simp (decide := true) only [EVs, EVt, Array.toList] <;> exact rfl) (by simp (decide := true) only [EVs, EVt, Array.toList, calleeOf] <;> exact rfl) (by simp (decide := true) only [EVs, EVt, Array.toList, argsOf, frz] <;> exact rfl) (by first | exact h) rfl ?_ | refine WL.f rfl rfl rfl (by simp (decide := true) only [EVs, EVt, Array.toList] <;> exact rfl) (by simp (decide := true) only [EVs, EVt, Array.toList, calleeOf] <;> exact rfl) (by simp (decide := true) only [EVs, EVt, Array.toList, argsOf, frz] <;> exact rfl) (by first | exact h) ?_ | refine WL.one (by simp (decide := true) only [EVs, EVt, Array.toList] <;> exact rfl) ?_)); refine WL.nil ?_
  exact AWp.ret ⟨_, rfl, .inl (.refl _)⟩
end Go.Proofs.Ytopdgmjmpmkamaa.E
