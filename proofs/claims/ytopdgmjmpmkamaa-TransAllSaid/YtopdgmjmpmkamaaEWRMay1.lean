/-
  Who may, by levels, by the document (package transomref8), walked in abstract values. Conditions: lengths; categories rise.
-/
import Derived.Test.YtopdgmjmpmkamaaEWRLab
namespace Go.Proofs.Ytopdgmjmpmkamaa.E
open Go Go.RowKit Go.Proofs.YtopdgmjmpmkamaaW.E
set_option linter.unusedVariables false
set_option linter.unusedSimpArgs false
set_option maxRecDepth 100000
set_option maxHeartbeats 4000000

theorem eqI_nil (l : List Int) : eqI (l.length : Int) 0 = decide (l = []) := eqI_len l
theorem sp_RNames (d : Int) (l : List Pr) (hl : l.length ≤ 35184372087808) : ACall Try.prog 40 [lab d l] (bo (nam d l)) := by
  have hn := nam_lvs d l
  have hz := eqI_nil (lvs l 3)
  refine acall_of Try.func40 rfl rfl (Nat.le_of_ble_eq_true rfl) T_ok (fun base w0 => ?_)
  refine AWp.seq (AWp.regionW T_ok rfl (WL.all (by simp (decide := true) only [EVs, EVt, Array.toList] <;> exact rfl) ?_))
  by_cases hd : d = 2
  · have c1 : eqI d 2 = true := eqI_t hd
    have e : decide (lvs l 3 = []) = nam d l := by rw [← hn]; simp [hd]
    rw [e] at hz
    refine AWp.seq (AWp.regionW T_ok rfl ?_)
    (repeat (first | refine WL.c rfl rfl rfl (by simp (decide := true) only [EVs, EVt, Array.toList, c1, hz] <;> exact rfl) (by simp (decide := true) only [EVs, EVt, Array.toList, calleeOf, c1, hz] <;> exact rfl) (by simp (decide := true) only [EVs, EVt, Array.toList, argsOf, frz, c1, hz] <;> exact rfl) (by first | exact sp_RLevels d l 3 hl) rfl ?_ | refine WL.f rfl rfl rfl (by simp (decide := true) only [EVs, EVt, Array.toList, c1, hz] <;> exact rfl) (by simp (decide := true) only [EVs, EVt, Array.toList, calleeOf, c1, hz] <;> exact rfl) (by simp (decide := true) only [EVs, EVt, Array.toList, argsOf, frz, c1, hz] <;> exact rfl) (by first | exact sp_RLevels d l 3 hl) ?_ | refine WL.one (by simp (decide := true) only [EVs, EVt, Array.toList, c1, hz] <;> exact rfl) ?_)); refine WL.nil ?_
    exact AWp.ret ⟨_, rfl, .inl (.refl _)⟩
  · have c1 : eqI d 2 = false := eqI_f hd
    have e : nam d l = false := by rw [← hn]; simp [hd]
    rw [e]
    refine AWp.seq (AWp.regionW T_ok rfl ?_)
    (repeat (first | refine WL.c rfl rfl rfl (by simp (decide := true) only [EVs, EVt, Array.toList, c1] <;> exact rfl) (by simp (decide := true) only [EVs, EVt, Array.toList, calleeOf, c1] <;> exact rfl) (by simp (decide := true) only [EVs, EVt, Array.toList, argsOf, frz, c1] <;> exact rfl) (by first | exact sp_RLevels d l 3 hl) rfl ?_ | refine WL.f rfl rfl rfl (by simp (decide := true) only [EVs, EVt, Array.toList, c1] <;> exact rfl) (by simp (decide := true) only [EVs, EVt, Array.toList, calleeOf, c1] <;> exact rfl) (by simp (decide := true) only [EVs, EVt, Array.toList, argsOf, frz, c1] <;> exact rfl) (by first | exact sp_RLevels d l 3 hl) ?_ | refine WL.one (by simp (decide := true) only [EVs, EVt, Array.toList, c1] <;> exact rfl) ?_)); refine WL.nil ?_
    exact AWp.ret ⟨_, rfl, .inl (.refl _)⟩
end Go.Proofs.Ytopdgmjmpmkamaa.E
