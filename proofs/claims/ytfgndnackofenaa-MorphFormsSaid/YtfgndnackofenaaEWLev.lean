/-
  Levels and their points, walked in abstract values. Conditions: levels are bytes.
-/
import Derived.Test.YtfgndnackofenaaE24
import Derived.Test.YtfgndnackofenaaEM14
import Derived.Test.YtfgndnackofenaaETab
namespace Go.Proofs.Ytfgndnackofenaa.E
open Go Go.RowKit Go.Proofs.YtfgndnackofenaaW.E
set_option linter.unusedVariables false
set_option linter.unusedSimpArgs false
set_option maxRecDepth 100000
set_option maxHeartbeats 4000000

theorem sp_points : ACall Try.prog 102 [] (.list 1 [cpx (pRe 0) (pIm 0), cpx (pRe 1) (pIm 1), cpx (pRe 2) (pIm 2), cpx (pRe 3) (pIm 3), cpx (pRe 4) (pIm 4), cpx (pRe 5) (pIm 5)] .no) := by
  refine acall_of Try.func102 rfl rfl (Nat.le_of_ble_eq_true rfl) T_ok (fun base w0 => ?_)
  refine AWp.seq (AWp.regionW T_ok rfl (WL.all (by simp (decide := true) only [EVs, EVt, Array.toList] <;> exact rfl) ?_))
  refine AWp.seq (AWp.regionW T_ok rfl (WL.all (by simp (decide := true) only [EVs, EVt, Array.toList] <;> exact rfl) ?_))
  exact AWp.ret ⟨_, rfl, .inl (.list _ _ _ _ (.inl rfl))⟩
theorem sp_Point (l : Int) (h0 : 0 ≤ l) (h5 : l ≤ 5) : ACall Try.prog 94 [u8 l] (cpx (pRe l) (pIm l)) := by
  refine acall_of Try.func94 rfl rfl (Nat.le_of_ble_eq_true rfl) T_ok (fun base w0 => ?_)
  refine AWp.seq (AWp.regionW T_ok rfl (WL.all (by simp (decide := true) only [EVs, EVt, Array.toList] <;> exact rfl) ?_))
  have c1 : ltI 5 l = false := ltI_f (by omega)
  refine AWp.seq (AWp.seq (AWp.regionW T_ok rfl (WL.all (by simp (decide := true) only [EVs, EVt, Array.toList, c1] <;> exact rfl) ?_)))
  refine AWp.cond (t := false) rfl (AWp.skip ?_)
  rcases lev6 h0 h5 with rfl | rfl | rfl | rfl | rfl | rfl
  all_goals
    refine AWp.seq (AWp.regionW T_ok rfl ?_)
    (repeat (first | refine WL.c rfl rfl rfl (by simp (decide := true) only [EVs, EVt, Array.toList] <;> exact rfl) (by simp (decide := true) only [EVs, EVt, Array.toList, calleeOf] <;> exact rfl) (by simp (decide := true) only [EVs, EVt, Array.toList, argsOf, frz] <;> exact rfl) (by first | exact sp_points) rfl ?_ | refine WL.f rfl rfl rfl (by simp (decide := true) only [EVs, EVt, Array.toList] <;> exact rfl) (by simp (decide := true) only [EVs, EVt, Array.toList, calleeOf] <;> exact rfl) (by simp (decide := true) only [EVs, EVt, Array.toList, argsOf, frz] <;> exact rfl) (by first | exact sp_points) ?_ | refine WL.one (by simp (decide := true) only [EVs, EVt, Array.toList] <;> exact rfl) ?_)); refine WL.nil ?_
    exact AWp.ret ⟨_, rfl, .inl (.refl _)⟩
theorem sp_RRise (x : Int) : ACall Try.prog 101 [u8 x] (u8 (rise x)) := by
  refine acall_of Try.func101 rfl rfl (Nat.le_of_ble_eq_true rfl) T_ok (fun base w0 => ?_)
  refine AWp.seq (AWp.regionW T_ok rfl (WL.all (by simp (decide := true) only [EVs, EVt, Array.toList] <;> exact rfl) ?_))
  by_cases h : x = 0
  · have c1 : eqI x 0 = true := eqI_t h
    have e : rise x = 5 := by simp [rise, h]
    rw [e]
    refine AWp.seq (AWp.seq (AWp.regionW T_ok rfl (WL.all (by simp (decide := true) only [EVs, EVt, Array.toList, c1] <;> exact rfl) ?_)))
    refine AWp.cond (t := true) rfl (AWp.seq (AWp.regionW T_ok rfl (WL.all (by simp (decide := true) only [EVs, EVt, Array.toList] <;> exact rfl) ?_)))
    exact AWp.ret ⟨_, rfl, .inl (.refl _)⟩
  · have c1 : eqI x 0 = false := eqI_f h
    have e : rise x = x := by simp [rise, h]
    rw [e]
    refine AWp.seq (AWp.seq (AWp.regionW T_ok rfl (WL.all (by simp (decide := true) only [EVs, EVt, Array.toList, c1] <;> exact rfl) ?_)))
    refine AWp.cond (t := false) rfl (AWp.skip ?_)
    refine AWp.seq (AWp.regionW T_ok rfl (WL.all (by simp (decide := true) only [EVs, EVt, Array.toList] <;> exact rfl) ?_))
    exact AWp.ret ⟨_, rfl, .inl (.refl _)⟩
end Go.Proofs.Ytfgndnackofenaa.E
