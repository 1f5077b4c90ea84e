/-
  Package cats, walked in abstract values. Conditions: lengths.
-/
import Derived.Test.YtfgndnackofenaaETab
import Derived.Test.YtfgndnackofenaaEM1
namespace Go.Proofs.Ytfgndnackofenaa.E
open Go Go.RowKit Go.Proofs.YtfgndnackofenaaW.E
set_option linter.unusedVariables false
set_option linter.unusedSimpArgs false
set_option maxRecDepth 100000

theorem sp_Or1 (x y : Bool) : ACall Try.prog 90 [bo x, bo y] (bo true) := by
  refine acall_of Try.func90 rfl rfl (Nat.le_of_ble_eq_true rfl) T_ok (fun base w0 => ?_)
  refine AWp.seq (AWp.regionW T_ok rfl (WL.all (by simp (decide := true) only [EVs, EVt, Array.toList] <;> exact rfl) ?_))
  refine AWp.seq (AWp.regionW T_ok rfl (WL.all (by simp (decide := true) only [EVs, EVt, Array.toList] <;> exact rfl) ?_))
  exact AWp.ret ⟨_, rfl, .inl (.refl _)⟩

theorem sp_Less1 (x y : Bool) : ACall Try.prog 100 [bo x, bo y] (bo (!y)) := by
  refine acall_of Try.func100 rfl rfl (Nat.le_of_ble_eq_true rfl) T_ok (fun base w0 => ?_)
  refine AWp.seq (AWp.regionW T_ok rfl (WL.all (by simp (decide := true) only [EVs, EVt, Array.toList] <;> exact rfl) ?_))
  exact AWp.seq (AWp.regionW T_ok rfl (WL.all (by simp (decide := true) only [EVs, EVt, Array.toList] <;> exact rfl) (AWp.ret ⟨_, rfl, .inl (.refl _)⟩)))

theorem sp_merge (kid : FuncId) (keep : Bool → Bool → Bool) (hk : ∀ x y, ACall Try.prog kid [bo x, bo y] (bo (keep x y))) (a b : List Int) (hl : (a.length + b.length) * 2 ≤ 140737488351232) :
    ACall Try.prog 89 [l16 a, l16 b, .fn kid []] (f16 (mrg keep a b)) := by
  refine acall_of Try.func89 rfl rfl (Nat.le_of_ble_eq_true rfl) T_ok (fun base w0 => ?_)
  refine AWp.seq (AWp.regionW T_ok rfl (WL.all (by simp (decide := true) only [EVs, EVt, Array.toList] <;> exact rfl) ?_))
  refine AWp.scopeL 0 (fun n st => ∃ (a' b' out : List Int) (s : Nat → AV) (B : Nat → Nat × List AV) (L : Nat → Nat), st = ⟨72, 0, s, B, L⟩ ∧ n = a'.length + b'.length ∧ s 0 = l16 a' ∧ s 1 = l16 b' ∧ s 2 = .fn kid [] ∧ Acc L (s 7) 1 (out.map u16) ∧
    out ++ mrg keep a' b' = mrg keep a b ∧ out.length + (a'.length + b'.length) ≤ a.length + b.length) rfl ?_ ?_
  · refine (AWp.regionW T_ok rfl (WL.all (by simp (decide := true) only [EVs, EVt, Array.toList] <;> exact rfl) ?_))
    exact ⟨_, a, b, [], _, _, _, rfl, rfl, rfl, rfl, rfl, ⟨_, _, rfl, .inl ⟨rfl, .inl rfl⟩⟩, rfl, by simp⟩
  · rintro n st ⟨a', b', out, s, B, L, rfl, rfl, h0, h1, h2, h7, hm, hlen⟩
    refine AWp.later6 (fun st => ∃ (a2 b2 : List Int) (i t : Bool) (c : Int) (s : Nat → AV), st = ⟨72, 0, s, B, L⟩ ∧ a2.length + b2.length < a'.length + b'.length ∧ s 0 = l16 a2 ∧ s 1 = l16 b2 ∧ s 2 = .fn kid [] ∧ Acc L (s 7) 1 (out.map u16) ∧
      s 8 = bo i ∧ s 9 = bo t ∧ s 10 = u16 c ∧ mrg keep a' b' = (if keep i t then [c] else []) ++ mrg keep a2 b2) ?_ (fun tail => ?_)
    · rintro st ⟨a2, b2, i, t, c, s, rfl, hlt, h0, h1, h2, h7, h8, h9, h10, hm2⟩
      refine AWp.seq (AWp.seq (AWp.regionW T_ok rfl (WL.next 3 rfl rfl (by simp (decide := true) only [EVs, EVt, Array.toList, h2, h8, h9] <;> exact rfl) ?_)))
      refine WL.call (r := bo (keep i t)) rfl rfl rfl (by simp (decide := true) only [EVs, EVt, Array.toList, calleeOf, h2] <;> exact rfl) (by simp (decide := true) only [EVs, EVt, Array.toList, argsOf, frz, h8, h9] <;> exact rfl) (hk i t) (WL.nil ?_)
      cases hki : keep i t with
      | true =>
        rw [hki, if_pos rfl] at hm2
        refine AWp.cond (t := true) rfl (AWp.regionW T_ok rfl (WL.next 3 rfl rfl (by simp (decide := true) only [EVs, EVt, Array.toList, h10] <;> exact rfl) ?_))
        refine WL.acc (xs := out.map u16) (ys := [u16 c]) rfl rfl rfl rfl rfl rfl rfl T_u16s rfl T_u16 (by simp (decide := true) only [EVs, EVt, Array.toList, callEff]; exact h7) rfl (.inl rfl) (by simp; omega) (by decide) (fun v L' hA => ?_)
        refine (WL.all (by simp (decide := true) only [EVs, EVt, Array.toList] <;> exact rfl) ?_)
        refine AWp.goto ⟨rfl, a2.length + b2.length, hlt, a2, b2, out ++ [c], _, B, L', rfl, rfl, ?_, ?_, ?_, ?_, ?_, ?_⟩
        · simp (decide := true) only [EVs, EVt, Array.toList, callEff]; exact h0
        · simp (decide := true) only [EVs, EVt, Array.toList, callEff]; exact h1
        · simp (decide := true) only [EVs, EVt, Array.toList, callEff]; exact h2
        · simp (decide := true) only [EVs, EVt, Array.toList, callEff]; rw [List.map_append]; exact hA
        · rw [← hm, hm2, List.append_assoc]
        · simp; omega
      | false =>
        rw [hki, if_neg (by simp)] at hm2
        refine AWp.cond (t := false) rfl (AWp.skip (AWp.goto ⟨rfl, a2.length + b2.length, hlt, a2, b2, out, _, B, L, rfl, rfl, ?_, ?_, ?_, ?_, ?_, ?_⟩))
        · simp (decide := true) only [EVs, EVt, Array.toList, callEff]; exact h0
        · simp (decide := true) only [EVs, EVt, Array.toList, callEff]; exact h1
        · simp (decide := true) only [EVs, EVt, Array.toList, callEff]; exact h2
        · simp (decide := true) only [EVs, EVt, Array.toList, callEff]; exact h7
        · rw [← hm, hm2]; rfl
        · omega
    · cases a' with
      | nil =>
        cases b' with
        | nil =>
          have g5 : eqI (IntKind.i64.wrap (((0 : Nat) : Int) + ((0 : Nat) : Int))) 0 = true := by decide
          refine AWp.seq (AWp.seq (AWp.regionW T_ok rfl (WL.all (by simp (decide := true) only [EVs, EVt, Array.toList, h0, h1, h2, g5] <;> exact rfl) ?_)))
          refine AWp.cond (t := true) rfl (AWp.seq (AWp.regionW T_ok rfl (WL.all (by simp (decide := true) only [EVs, EVt, Array.toList] <;> exact rfl) ?_)))
          refine AWp.ret ⟨_, rfl, .inr ⟨1, _, rfl, ?_⟩⟩
          simp (decide := true) only [EVs, EVt, Array.toList]
          have : mrg keep a b = out := by rw [← hm, mrg]; simp
          rw [this]; exact h7
        | cons y b' =>
          have g3 : eqI ((b'.length + 1 : Nat) : Int) 0 = false := eqI_f (by omega)
          have g4 : ltI (0 : Int) ((b'.length + 1 : Nat) : Int) = true := ltI_t (by omega)
          have g1 : eqI ((0 : Nat) : Int) 0 = true := eqI_t (by omega)
          have g2 : ltI (0 : Int) ((0 : Nat) : Int) = false := ltI_f (by omega)
          have g5 : eqI (IntKind.i64.wrap (((0 : Nat) : Int) + ((b'.length + 1 : Nat) : Int))) 0 = false := by
            rw [IntWalk.i64_in _ (by simp at hlen; omega)]; exact eqI_f (by omega)
          refine AWp.seq (AWp.seq (AWp.regionW T_ok rfl (WL.all (by simp (decide := true) only [EVs, EVt, Array.toList, h0, h1, h2, g5] <;> exact rfl) ?_)))
          refine AWp.cond (t := false) rfl (AWp.skip ?_)
          refine AWp.seq (AWp.drawnW T_ok mixed (by kernel_rfl) rfl (WL.all (by simp (decide := true) only [EVs, EVt, Array.toList, h0, h1, g1, g2, g3, g4] <;> exact rfl) ?_))
          refine AWp.seq (AWp.drawnW T_ok mixed (by kernel_rfl) rfl (WL.all (by simp (decide := true) only [EVs, EVt, Array.toList, h0, h1, g1, g2, g3, g4] <;> exact rfl) ?_))
          refine AWp.seq (AWp.regionW T_ok rfl (WL.all (by simp (decide := true) only [EVs, EVt, Array.toList] <;> exact rfl) ?_))
          refine AWp.seq (AWp.seq (AWp.regionW T_ok rfl (WL.all (by simp (decide := true) only [EVs, EVt, Array.toList] <;> exact rfl) ?_)))
          refine AWp.cond (t := true) rfl (AWp.drawnW T_ok mixed (by kernel_rfl) rfl (WL.all (by simp (decide := true) only [EVs, EVt, Array.toList, h0, h1] <;> exact rfl) ?_))
          refine AWp.seq (AWp.seq (AWp.regionW T_ok rfl (WL.all (by simp (decide := true) only [EVs, EVt, Array.toList] <;> exact rfl) ?_)))
          refine AWp.cond (t := false) rfl (AWp.skip ?_)
          refine tail _ ⟨[], b', false, true, y, _, rfl, by simp, ?_, ?_, ?_, ?_, ?_, ?_, ?_, by rw [mrg]⟩
          all_goals simp (decide := true) only [EVs, EVt, Array.toList, h0, h1, h2, h7]
      | cons x a' =>
        have g1 : eqI ((a'.length + 1 : Nat) : Int) 0 = false := eqI_f (by omega)
        have g2 : ltI (0 : Int) ((a'.length + 1 : Nat) : Int) = true := ltI_t (by omega)
        cases b' with
        | nil =>
          have g3 : eqI ((0 : Nat) : Int) 0 = true := eqI_t (by omega)
          have g4 : ltI (0 : Int) ((0 : Nat) : Int) = false := ltI_f (by omega)
          have g5 : eqI (IntKind.i64.wrap (((a'.length + 1 : Nat) : Int) + ((0 : Nat) : Int))) 0 = false := by
            rw [IntWalk.i64_in _ (by simp at hlen; omega)]; exact eqI_f (by omega)
          refine AWp.seq (AWp.seq (AWp.regionW T_ok rfl (WL.all (by simp (decide := true) only [EVs, EVt, Array.toList, h0, h1, h2, g5] <;> exact rfl) ?_)))
          refine AWp.cond (t := false) rfl (AWp.skip ?_)
          refine AWp.seq (AWp.drawnW T_ok mixed (by kernel_rfl) rfl (WL.all (by simp (decide := true) only [EVs, EVt, Array.toList, h0, h1, g1, g2, g3, g4] <;> exact rfl) ?_))
          refine AWp.seq (AWp.drawnW T_ok mixed (by kernel_rfl) rfl (WL.all (by simp (decide := true) only [EVs, EVt, Array.toList, h0, h1, g1, g2, g3, g4] <;> exact rfl) ?_))
          refine AWp.seq (AWp.regionW T_ok rfl (WL.all (by simp (decide := true) only [EVs, EVt, Array.toList] <;> exact rfl) ?_))
          refine AWp.seq (AWp.seq (AWp.regionW T_ok rfl (WL.all (by simp (decide := true) only [EVs, EVt, Array.toList] <;> exact rfl) ?_)))
          refine AWp.cond (t := false) rfl (AWp.skip ?_)
          refine AWp.seq (AWp.seq (AWp.regionW T_ok rfl (WL.all (by simp (decide := true) only [EVs, EVt, Array.toList] <;> exact rfl) ?_)))
          refine AWp.cond (t := true) rfl (AWp.drawnW T_ok mixed (by kernel_rfl) rfl (WL.all (by simp (decide := true) only [EVs, EVt, Array.toList, h0, h1] <;> exact rfl) ?_))
          refine tail _ ⟨a', [], true, false, x, _, rfl, by simp, ?_, ?_, ?_, ?_, ?_, ?_, ?_, by rw [mrg]⟩
          all_goals simp (decide := true) only [EVs, EVt, Array.toList, h0, h1, h2, h7]
        | cons y b' =>
          have g3 : eqI ((b'.length + 1 : Nat) : Int) 0 = false := eqI_f (by omega)
          have g4 : ltI (0 : Int) ((b'.length + 1 : Nat) : Int) = true := ltI_t (by omega)
          have g5 : eqI (IntKind.i64.wrap (((a'.length + 1 : Nat) : Int) + ((b'.length + 1 : Nat) : Int))) 0 = false := by
            rw [IntWalk.i64_in _ (by simp at hlen; omega)]; exact eqI_f (by omega)
          by_cases hxy : x < y
          · have g6 : leI x y = true := leI_t (by omega)
            have g7 : leI y x = false := leI_f (by omega)
            refine AWp.seq (AWp.seq (AWp.regionW T_ok rfl (WL.all (by simp (decide := true) only [EVs, EVt, Array.toList, h0, h1, h2, g5] <;> exact rfl) ?_)))
            refine AWp.cond (t := false) rfl (AWp.skip ?_)
            refine AWp.seq (AWp.drawnW T_ok mixed (by kernel_rfl) rfl (WL.all (by simp (decide := true) only [EVs, EVt, Array.toList, h0, h1, g1, g2, g3, g4, g6, g7] <;> exact rfl) ?_))
            refine AWp.seq (AWp.drawnW T_ok mixed (by kernel_rfl) rfl (WL.all (by simp (decide := true) only [EVs, EVt, Array.toList, h0, h1, g1, g2, g3, g4, g6, g7] <;> exact rfl) ?_))
            refine AWp.seq (AWp.regionW T_ok rfl (WL.all (by simp (decide := true) only [EVs, EVt, Array.toList] <;> exact rfl) ?_))
            refine AWp.seq (AWp.seq (AWp.regionW T_ok rfl (WL.all (by simp (decide := true) only [EVs, EVt, Array.toList] <;> exact rfl) ?_)))
            refine AWp.cond (t := false) rfl (AWp.skip ?_)
            refine AWp.seq (AWp.seq (AWp.regionW T_ok rfl (WL.all (by simp (decide := true) only [EVs, EVt, Array.toList] <;> exact rfl) ?_)))
            refine AWp.cond (t := true) rfl (AWp.drawnW T_ok mixed (by kernel_rfl) rfl (WL.all (by simp (decide := true) only [EVs, EVt, Array.toList, h0, h1] <;> exact rfl) ?_))
            refine tail _ ⟨a', y :: b', true, false, x, _, rfl, by simp, ?_, ?_, ?_, ?_, ?_, ?_, ?_, by rw [mrg, if_pos hxy]⟩
            all_goals simp (decide := true) only [EVs, EVt, Array.toList, h0, h1, h2, h7]
          · by_cases hyx : y < x
            · have g6 : leI x y = false := leI_f (by omega)
              have g7 : leI y x = true := leI_t (by omega)
              refine AWp.seq (AWp.seq (AWp.regionW T_ok rfl (WL.all (by simp (decide := true) only [EVs, EVt, Array.toList, h0, h1, h2, g5] <;> exact rfl) ?_)))
              refine AWp.cond (t := false) rfl (AWp.skip ?_)
              refine AWp.seq (AWp.drawnW T_ok mixed (by kernel_rfl) rfl (WL.all (by simp (decide := true) only [EVs, EVt, Array.toList, h0, h1, g1, g2, g3, g4, g6, g7] <;> exact rfl) ?_))
              refine AWp.seq (AWp.drawnW T_ok mixed (by kernel_rfl) rfl (WL.all (by simp (decide := true) only [EVs, EVt, Array.toList, h0, h1, g1, g2, g3, g4, g6, g7] <;> exact rfl) ?_))
              refine AWp.seq (AWp.regionW T_ok rfl (WL.all (by simp (decide := true) only [EVs, EVt, Array.toList] <;> exact rfl) ?_))
              refine AWp.seq (AWp.seq (AWp.regionW T_ok rfl (WL.all (by simp (decide := true) only [EVs, EVt, Array.toList] <;> exact rfl) ?_)))
              refine AWp.cond (t := true) rfl (AWp.drawnW T_ok mixed (by kernel_rfl) rfl (WL.all (by simp (decide := true) only [EVs, EVt, Array.toList, h0, h1] <;> exact rfl) ?_))
              refine AWp.seq (AWp.seq (AWp.regionW T_ok rfl (WL.all (by simp (decide := true) only [EVs, EVt, Array.toList] <;> exact rfl) ?_)))
              refine AWp.cond (t := false) rfl (AWp.skip ?_)
              refine tail _ ⟨x :: a', b', false, true, y, _, rfl, by simp, ?_, ?_, ?_, ?_, ?_, ?_, ?_, by rw [mrg, if_neg hxy, if_pos hyx]⟩
              all_goals simp (decide := true) only [EVs, EVt, Array.toList, h0, h1, h2, h7]
            · have g6 : leI x y = true := leI_t (by omega)
              have g7 : leI y x = true := leI_t (by omega)
              obtain rfl : x = y := by omega
              refine AWp.seq (AWp.seq (AWp.regionW T_ok rfl (WL.all (by simp (decide := true) only [EVs, EVt, Array.toList, h0, h1, h2, g5] <;> exact rfl) ?_)))
              refine AWp.cond (t := false) rfl (AWp.skip ?_)
              refine AWp.seq (AWp.drawnW T_ok mixed (by kernel_rfl) rfl (WL.all (by simp (decide := true) only [EVs, EVt, Array.toList, h0, h1, g1, g2, g3, g4, g6, g7] <;> exact rfl) ?_))
              refine AWp.seq (AWp.drawnW T_ok mixed (by kernel_rfl) rfl (WL.all (by simp (decide := true) only [EVs, EVt, Array.toList, h0, h1, g1, g2, g3, g4, g6, g7] <;> exact rfl) ?_))
              refine AWp.seq (AWp.regionW T_ok rfl (WL.all (by simp (decide := true) only [EVs, EVt, Array.toList] <;> exact rfl) ?_))
              refine AWp.seq (AWp.seq (AWp.regionW T_ok rfl (WL.all (by simp (decide := true) only [EVs, EVt, Array.toList] <;> exact rfl) ?_)))
              refine AWp.cond (t := true) rfl (AWp.drawnW T_ok mixed (by kernel_rfl) rfl (WL.all (by simp (decide := true) only [EVs, EVt, Array.toList, h0, h1] <;> exact rfl) ?_))
              refine AWp.seq (AWp.seq (AWp.regionW T_ok rfl (WL.all (by simp (decide := true) only [EVs, EVt, Array.toList] <;> exact rfl) ?_)))
              refine AWp.cond (t := true) rfl (AWp.drawnW T_ok mixed (by kernel_rfl) rfl (WL.all (by simp (decide := true) only [EVs, EVt, Array.toList, h0, h1] <;> exact rfl) ?_))
              refine tail _ ⟨a', b', true, true, x, _, rfl, by simp <;> omega, ?_, ?_, ?_, ?_, ?_, ?_, ?_, by rw [mrg, if_neg hxy, if_neg hyx]⟩
              all_goals simp (decide := true) only [EVs, EVt, Array.toList, h0, h1, h2, h7]

theorem sp_Or (a b : List Int) (hl : (a.length + b.length) * 2 ≤ 140737488351232) : ACall Try.prog 66 [l16 a, l16 b] (f16 (un a b)) := by
  refine acall_of Try.func66 rfl rfl (Nat.le_of_ble_eq_true rfl) T_ok (fun base w0 => ?_)
  refine AWp.seq (AWp.regionW T_ok rfl (WL.all (by simp (decide := true) only [EVs, EVt, Array.toList] <;> exact rfl) ?_))
  refine AWp.seq (AWp.regionW T_ok rfl (WL.next 2 rfl rfl (by simp (decide := true) only [EVs, EVt, Array.toList] <;> exact rfl) ?_))
  refine WL.f rfl rfl rfl rfl (by simp (decide := true) only [EVs, EVt, Array.toList, calleeOf] <;> exact rfl) (by simp (decide := true) only [EVs, EVt, Array.toList, argsOf, frz] <;> exact rfl) (sp_merge _ kOr sp_Or1 a b hl) ?_
  refine (WL.all (by simp (decide := true) only [EVs, EVt, Array.toList] <;> exact rfl) ?_)
  exact AWp.ret ⟨_, rfl, .inr ⟨1, _, rfl, _, _, rfl, .inr ⟨_, rfl, rfl⟩⟩⟩
theorem sp_Less (a b : List Int) (hl : (a.length + b.length) * 2 ≤ 140737488351232) : ACall Try.prog 86 [l16 a, l16 b] (f16 (less a b)) := by
  refine acall_of Try.func86 rfl rfl (Nat.le_of_ble_eq_true rfl) T_ok (fun base w0 => ?_)
  refine AWp.seq (AWp.regionW T_ok rfl (WL.all (by simp (decide := true) only [EVs, EVt, Array.toList] <;> exact rfl) ?_))
  refine AWp.seq (AWp.regionW T_ok rfl (WL.next 2 rfl rfl (by simp (decide := true) only [EVs, EVt, Array.toList] <;> exact rfl) ?_))
  refine WL.f rfl rfl rfl rfl (by simp (decide := true) only [EVs, EVt, Array.toList, calleeOf] <;> exact rfl) (by simp (decide := true) only [EVs, EVt, Array.toList, argsOf, frz] <;> exact rfl) (sp_merge _ kLess sp_Less1 a b hl) ?_
  refine (WL.all (by simp (decide := true) only [EVs, EVt, Array.toList] <;> exact rfl) ?_)
  exact AWp.ret ⟨_, rfl, .inr ⟨1, _, rfl, _, _, rfl, .inr ⟨_, rfl, rfl⟩⟩⟩
theorem sp_In (a b : List Int) (hl : (a.length + b.length) * 2 ≤ 140737488351232) : ACall Try.prog 63 [l16 a, l16 b] (bo (sub a b)) := by
  refine acall_of Try.func63 rfl rfl (Nat.le_of_ble_eq_true rfl) T_ok (fun base w0 => ?_)
  refine AWp.seq (AWp.regionW T_ok rfl (WL.all (by simp (decide := true) only [EVs, EVt, Array.toList] <;> exact rfl) ?_))
  refine AWp.seq (AWp.regionW T_ok rfl (WL.next 2 rfl rfl (by simp (decide := true) only [EVs, EVt, Array.toList] <;> exact rfl) ?_))
  refine WL.f rfl rfl rfl rfl (by simp (decide := true) only [EVs, EVt, Array.toList, calleeOf] <;> exact rfl) (by simp (decide := true) only [EVs, EVt, Array.toList, argsOf, frz] <;> exact rfl) (sp_Less a b hl) ?_
  refine (WL.all (by simp (decide := true) only [EVs, EVt, Array.toList, eqI_len, sub] <;> exact rfl) ?_)
  exact AWp.ret ⟨_, rfl, .inl (.refl _)⟩
end Go.Proofs.Ytfgndnackofenaa.E
