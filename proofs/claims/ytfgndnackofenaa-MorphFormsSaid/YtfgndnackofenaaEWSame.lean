/-
  Labels compared, by the document, walked in abstract values. Conditions: lengths.
-/
import Derived.Test.YtfgndnackofenaaE24
import Derived.Test.YtfgndnackofenaaETab
import Derived.Test.YtfgndnackofenaaEM14
namespace Go.Proofs.Ytfgndnackofenaa.E
open Go Go.RowKit Go.Proofs.YtfgndnackofenaaW.E
set_option linter.unusedVariables false
set_option linter.unusedSimpArgs false
set_option maxRecDepth 100000
set_option maxHeartbeats 4000000

theorem eqg_pr : Try.prog.eqGuardType Try.prog.depth 61 = false := by kernel_rfl
theorem st_pr : Try.prog.stoodInHeld 61 = false := by kernel_rfl
theorem neq_pr (x y : Operand) (a b c e : Int) : abin Try.prog .neq 61 x y (.agg #[.int .u16 a, .int .u8 b]) (.agg #[.int .u16 c, .int .u8 e]) = some (.bool !((a == c) && (b == e))) :=
  abin_neqS eqg_pr (pureRun_eq2 (k := .u16) (k1 := .u8) 9998 Try.underlying61 st_pr (by decide) (by decide) (by kernel_rfl) (by kernel_rfl) (by kernel_rfl) (by kernel_rfl) und_u16 und_u8)

def sameL (d : Int) (l : List Pr) (d' : Int) (l' : List Pr) : Bool := decide (d = d') && decide (l.map (fun p => (p.c, p.l)) = l'.map (fun p => (p.c, p.l)))
theorem sp_RSame (d : Int) (l : List Pr) (d' : Int) (l' : List Pr) (hl : l.length ≤ 140737488351232) (hl' : l'.length ≤ 140737488351232) : ACall Try.prog 40 [lab d l, lab d' l'] (bo (sameL d l d' l')) := by
  refine acall_of Try.func40 rfl rfl (Nat.le_of_ble_eq_true rfl) T_ok (fun base w0 => ?_)
  refine AWp.seq (AWp.regionW T_ok rfl (WL.all (by simp (decide := true) only [EVs, EVt, Array.toList] <;> exact rfl) ?_))
  by_cases h1 : d = d'
  · have c1 : eqI d d' = true := eqI_t h1
    by_cases h2 : l.length = l'.length
    · have c2 : eqI (l.length : Int) (l'.length : Int) = true := eqI_t (by omega)
      have hm : sameL d l d' l' = decide (l.map (fun p => (p.c, p.l)) = l'.map (fun p => (p.c, p.l))) := by simp [sameL, h1]
      rw [hm]
      refine AWp.seq (AWp.seq (AWp.regionW T_ok rfl (WL.all (by simp (decide := true) only [EVs, EVt, Array.toList, c1, c2] <;> exact rfl) ?_)))
      refine AWp.cond (t := false) rfl (AWp.skip ?_)
      refine AWp.seq (AWp.seq (AWp.regionW T_ok rfl (WL.all (by simp (decide := true) only [EVs, EVt, Array.toList] <;> exact rfl) ?_)))
      refine AWp.block (AWp.loop (fun n st => ∃ (j : Nat) (s : Nat → AV) (B : Nat → Nat × List AV) (L : Nat → Nat), st = ⟨38, 0, s, B, L⟩ ∧ j ≤ l.length ∧ n = l.length - j ∧ s 2 = .ptr 2 1 0 ∧ B 2 = (1, [u8 d, lps l]) ∧ s 3 = .ptr 3 1 0 ∧ B 3 = (1, [u8 d', lps l']) ∧ s 5 = i64 j ∧
        (l.take j).map (fun p => (p.c, p.l)) = (l'.take j).map (fun p => (p.c, p.l))) ?_ (n := l.length)
        ⟨0, _, _, _, rfl, by omega, rfl, rfl, rfl, rfl, rfl, rfl, rfl⟩)
      rintro n st ⟨j, s, B, L, rfl, hj, rfl, s2, hB2, s3, hB3, s5, hs⟩
      by_cases hlt : j < l.length
      · have e1 : ltI (j : Int) (l.length : Int) = true := ltI_t (by omega)
        have e2 := get_mapi prA l j hlt
        have e3 := get_mapi prA l' j (by omega)
        have e7 := wup j (by omega)
        refine AWp.seq (AWp.seq (AWp.regionW T_ok rfl (WL.all (by simp (decide := true) only [EVs, EVt, Array.toList, s2, hB2, s5, e1] <;> exact rfl) ?_)))
        refine AWp.cond (t := true) rfl (AWp.skip ?_)
        cases hp : (l[j].c == (l'[j]'(by omega)).c) && (l[j].l == (l'[j]'(by omega)).l) with
        | true =>
          refine AWp.seq (AWp.block (AWp.seq (AWp.drawnW T_ok mixed (by kernel_rfl) rfl (WL.all (by simp (decide := true) only [EVs, EVt, Array.toList, s2, hB2, s3, hB3, s5, e2, e3, mapM_two, neq_pr, hp] <;> exact rfl) ?_))))
          refine AWp.cond (t := false) rfl (AWp.skip ?_)
          refine (AWp.regionW T_ok rfl (WL.all (by simp (decide := true) only [EVs, EVt, Array.toList, s5, e7] <;> exact rfl) ?_))
          refine ⟨l.length - (j + 1), by omega, j + 1, _, _, _, rfl, by omega, rfl, ?_, ?_, ?_, ?_, ?_, ?_⟩
          · simp (decide := true) only [EVs, EVt, Array.toList, s2]
          · simp (decide := true) only [EVs, EVt, Array.toList, hB2]
          · simp (decide := true) only [EVs, EVt, Array.toList, s3]
          · simp (decide := true) only [EVs, EVt, Array.toList, hB3]
          · simp (decide := true) only [EVs, EVt, Array.toList]
          · simp only [Bool.and_eq_true, beq_iff_eq] at hp
            rw [take_snoc l j hlt, take_snoc l' j (by omega), List.map_append, List.map_append, hs]
            simp only [List.map_cons, List.map_nil, hp.1, hp.2]
        | false =>
          refine AWp.seq (AWp.block (AWp.seq (AWp.drawnW T_ok mixed (by kernel_rfl) rfl (WL.all (by simp (decide := true) only [EVs, EVt, Array.toList, s2, hB2, s3, hB3, s5, e2, e3, mapM_two, neq_pr, hp] <;> exact rfl) ?_))))
          refine AWp.cond (t := true) rfl (AWp.seq (AWp.regionW T_ok rfl (WL.all (by simp (decide := true) only [EVs, EVt, Array.toList] <;> exact rfl) ?_)))
          refine AWp.ret ⟨_, rfl, .inl ?_⟩
          have hf : decide (l.map (fun p => (p.c, p.l)) = l'.map (fun p => (p.c, p.l))) = false := by
            simp only [decide_eq_false_iff_not]
            intro h
            have := congrArg (fun x => x[j]?) h
            simp [hlt, show j < l'.length by omega] at this
            simp [this.1, this.2] at hp
          rw [hf]
          exact .refl _
      · have e1 : ltI (j : Int) (l.length : Int) = false := ltI_f (by omega)
        refine AWp.seq (AWp.seq (AWp.regionW T_ok rfl (WL.all (by simp (decide := true) only [EVs, EVt, Array.toList, s2, hB2, s5, e1] <;> exact rfl) ?_)))
        refine AWp.cond (t := false) rfl (AWp.exit ?_)
        refine AWp.seq (AWp.regionW T_ok rfl (WL.all (by simp (decide := true) only [EVs, EVt, Array.toList] <;> exact rfl) ?_))
        refine AWp.ret ⟨_, rfl, .inl ?_⟩
        rw [List.take_of_length_le (by omega), List.take_of_length_le (by omega)] at hs
        rw [decide_eq_true hs]
        exact .refl _
    · have c2 : eqI (l.length : Int) (l'.length : Int) = false := eqI_f (by omega)
      refine AWp.seq (AWp.seq (AWp.regionW T_ok rfl (WL.all (by simp (decide := true) only [EVs, EVt, Array.toList, c1, c2] <;> exact rfl) ?_)))
      refine AWp.cond (t := true) rfl (AWp.seq (AWp.regionW T_ok rfl (WL.all (by simp (decide := true) only [EVs, EVt, Array.toList] <;> exact rfl) ?_)))
      refine AWp.ret ⟨_, rfl, .inl ?_⟩
      have hf : sameL d l d' l' = false := by
        simp only [sameL, Bool.and_eq_false_iff, decide_eq_false_iff_not]
        right
        intro h
        exact h2 (by simpa using congrArg List.length h)
      rw [hf]; exact .refl _
  · have c1 : eqI d d' = false := eqI_f h1
    refine AWp.seq (AWp.seq (AWp.regionW T_ok rfl (WL.all (by simp (decide := true) only [EVs, EVt, Array.toList, c1] <;> exact rfl) ?_)))
    refine AWp.cond (t := true) rfl (AWp.seq (AWp.regionW T_ok rfl (WL.all (by simp (decide := true) only [EVs, EVt, Array.toList] <;> exact rfl) ?_)))
    refine AWp.ret ⟨_, rfl, .inl ?_⟩
    have hf : sameL d l d' l' = false := by simp [sameL, h1]
    rw [hf]; exact .refl _
end Go.Proofs.Ytfgndnackofenaa.E
