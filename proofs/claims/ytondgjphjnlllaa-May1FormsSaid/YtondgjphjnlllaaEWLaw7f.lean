/-
  The closed statement of layer 7, walked in abstract values. No condition.
-/
import Derived.Test.YtondgjphjnlllaaEWLaw7
namespace Go.Proofs.Ytondgjphjnlllaa.E
open Go Go.RowKit Go.Proofs.YtondgjphjnlllaaW.E
set_option linter.unusedVariables false
set_option linter.unusedSimpArgs false
set_option maxRecDepth 100000
set_option maxHeartbeats 8000000

theorem sp_May1Forms : ACall Try.prog 8 [] (bo true) := by
  have s_star_seen := sp_MSees 2 [⟨3, 0⟩] 2 [⟨3, 4⟩] (by simp) (by simp) (by omega) (by omega) (by simp) (by simp)
  rw [show sees 2 [⟨3, 0⟩] 2 [⟨3, 4⟩] = true by simp [sees, flw, risL, bthL, mrgL, rise]] at s_star_seen
  have s_plain_sure := sp_MSees 2 [] 2 [⟨3, 1⟩] (by simp) (by simp) (by omega) (by omega) (by simp) (by simp)
  rw [show sees 2 [] 2 [⟨3, 1⟩] = true by simp [sees, flw, risL, bthL, mrgL, rise]] at s_plain_sure
  have s_sure_plain := sp_MSees 2 [⟨3, 1⟩] 2 [] (by simp) (by simp) (by omega) (by omega) (by simp) (by simp)
  rw [show sees 2 [⟨3, 1⟩] 2 [] = false by simp [sees, flw, risL, bthL, mrgL, rise]] at s_sure_plain
  have s_two_plain := sp_MSees 2 [⟨3, 3⟩] 2 [] (by simp) (by simp) (by omega) (by omega) (by simp) (by simp)
  rw [show sees 2 [⟨3, 3⟩] 2 [] = true by simp [sees, flw, risL, bthL, mrgL, rise]] at s_two_plain
  have s_two_seen := sp_MSees 2 [⟨3, 3⟩] 2 [⟨3, 4⟩] (by simp) (by simp) (by omega) (by omega) (by simp) (by simp)
  rw [show sees 2 [⟨3, 3⟩] 2 [⟨3, 4⟩] = false by simp [sees, flw, risL, bthL, mrgL, rise]] at s_two_seen
  have t_star_sure := sp_MTurns 2 [⟨3, 0⟩] 2 [⟨3, 1⟩] (by simp) (by simp) (by omega) (by omega) (by simp) (by simp)
  rw [show flw 2 [⟨3, 0⟩] 2 [⟨3, 1⟩] = true by simp [flw, mrgL]] at t_star_sure
  have t_plain_sure := sp_MTurns 2 [] 2 [⟨3, 1⟩] (by simp) (by simp) (by omega) (by omega) (by simp) (by simp)
  rw [show flw 2 [] 2 [⟨3, 1⟩] = false by simp [flw, mrgL]] at t_plain_sure
  have t_sure_plain := sp_MTurns 2 [⟨3, 1⟩] 2 [] (by simp) (by simp) (by omega) (by omega) (by simp) (by simp)
  rw [show flw 2 [⟨3, 1⟩] 2 [] = true by simp [flw, mrgL]] at t_sure_plain
  have t_two_seen := sp_MTurns 2 [⟨3, 3⟩] 2 [⟨3, 4⟩] (by simp) (by simp) (by omega) (by omega) (by simp) (by simp)
  rw [show flw 2 [⟨3, 3⟩] 2 [⟨3, 4⟩] = true by simp [flw, mrgL]] at t_two_seen
  have r_plain_star := sp_MRises 2 [] 2 [⟨3, 0⟩] (by simp) (by simp) (by omega) (by omega) (by simp) (by simp)
  rw [show risE 2 [] 2 [⟨3, 0⟩] = 5 by simp [risE, nam, lvs, flw, mrgL, at_]] at r_plain_star
  have r_star_star := sp_MRises 2 [⟨3, 0⟩] 2 [⟨3, 0⟩] (by simp) (by simp) (by omega) (by omega) (by simp) (by simp)
  rw [show risE 2 [⟨3, 0⟩] 2 [⟨3, 0⟩] = 0 by simp [risE, nam, lvs, flw, mrgL, at_]] at r_star_star
  have r_star_sure := sp_MRises 2 [⟨3, 0⟩] 2 [⟨3, 1⟩] (by simp) (by simp) (by omega) (by omega) (by simp) (by simp)
  rw [show risE 2 [⟨3, 0⟩] 2 [⟨3, 1⟩] = 0 by simp [risE, nam, lvs, flw, mrgL, at_]] at r_star_sure
  have r_seen_sure := sp_MRises 2 [⟨3, 4⟩] 2 [⟨3, 1⟩] (by simp) (by simp) (by omega) (by omega) (by simp) (by simp)
  rw [show risE 2 [⟨3, 4⟩] 2 [⟨3, 1⟩] = 6 by simp [risE, nam, lvs, flw, mrgL, at_]] at r_seen_sure
  have r_plain_two := sp_MRises 2 [] 2 [⟨3, 3⟩] (by simp) (by simp) (by omega) (by omega) (by simp) (by simp)
  rw [show risE 2 [] 2 [⟨3, 3⟩] = 4 by simp [risE, nam, lvs, flw, mrgL, at_]] at r_plain_two
  have r_two_seen := sp_MRises 2 [⟨3, 3⟩] 2 [⟨3, 4⟩] (by simp) (by simp) (by omega) (by omega) (by simp) (by simp)
  rw [show risE 2 [⟨3, 3⟩] 2 [⟨3, 4⟩] = 0 by simp [risE, nam, lvs, flw, mrgL, at_]] at r_two_seen
  have m_star_star := sp_MMakes 2 [⟨3, 0⟩] 2 [⟨3, 0⟩] (by simp) (by simp) (by omega) (by omega) (by simp) (by simp)
  rw [show makE 2 [⟨3, 0⟩] 2 [⟨3, 0⟩] = 5 by simp [makE, nam, lvs, flw, mrgL]] at m_star_star
  have m_plain_two := sp_MMakes 2 [] 2 [⟨3, 3⟩] (by simp) (by simp) (by omega) (by omega) (by simp) (by simp)
  rw [show makE 2 [] 2 [⟨3, 3⟩] = 4 by simp [makE, nam, lvs, flw, mrgL]] at m_plain_two
  have m_plain_sure := sp_MMakes 2 [] 2 [⟨3, 1⟩] (by simp) (by simp) (by omega) (by omega) (by simp) (by simp)
  rw [show makE 2 [] 2 [⟨3, 1⟩] = 6 by simp [makE, nam, lvs, flw, mrgL]] at m_plain_sure
  have m_star_sure := sp_MMakes 2 [⟨3, 0⟩] 2 [⟨3, 1⟩] (by simp) (by simp) (by omega) (by omega) (by simp) (by simp)
  rw [show makE 2 [⟨3, 0⟩] 2 [⟨3, 1⟩] = 0 by simp [makE, nam, lvs, flw, mrgL]] at m_star_sure
  have n_two := sp_Names 2 [⟨3, 3⟩] (by simp)
  rw [show nam 2 [⟨3, 3⟩] = false by simp [nam]] at n_two
  have n_plain := sp_Names 3 [] (by simp)
  rw [show nam 3 [] = false by simp [nam]] at n_plain
  have n_star := sp_Names 2 [⟨3, 0⟩] (by simp)
  rw [show nam 2 [⟨3, 0⟩] = true by simp [nam]] at n_star
  refine acall_of Try.func8 rfl rfl (Nat.le_of_ble_eq_true rfl) T_ok (fun base w0 => ?_)
  refine AWp.seq (AWp.regionW T_ok rfl (WL.all (by simp (decide := true) only [EVs, EVt, Array.toList] <;> exact rfl) ?_))
  refine AWp.seq (AWp.seq (AWp.regionW T_ok rfl ?_))
  (repeat (first | refine WL.c rfl rfl rfl (by simp (decide := true) only [EVs, EVt, Array.toList] <;> exact rfl) (by simp (decide := true) only [EVs, EVt, Array.toList, calleeOf] <;> exact rfl) (by simp (decide := true) only [EVs, EVt, Array.toList, argsOf, frz] <;> exact rfl) (by first | exact sp_begun7) rfl ?_ | refine WL.f rfl rfl rfl (by simp (decide := true) only [EVs, EVt, Array.toList] <;> exact rfl) (by simp (decide := true) only [EVs, EVt, Array.toList, calleeOf] <;> exact rfl) (by simp (decide := true) only [EVs, EVt, Array.toList, argsOf, frz] <;> exact rfl) (by first | exact sp_begun7) ?_ | refine WL.one (by simp (decide := true) only [EVs, EVt, Array.toList] <;> exact rfl) ?_)); refine WL.nil ?_
  refine AWp.cond (t := false) rfl (AWp.skip ?_)
  refine AWp.seq (AWp.regionW T_ok rfl (WL.all (by simp (decide := true) only [EVs, EVt, Array.toList] <;> exact rfl) ?_))
  refine AWp.seq (AWp.regionW T_ok rfl (WL.all (by simp (decide := true) only [EVs, EVt, Array.toList] <;> exact rfl) ?_))
  refine AWp.seq (AWp.regionW T_ok rfl (WL.all (by simp (decide := true) only [EVs, EVt, Array.toList] <;> exact rfl) ?_))
  refine AWp.seq (AWp.regionW T_ok rfl (WL.all (by simp (decide := true) only [EVs, EVt, Array.toList] <;> exact rfl) ?_))
  refine AWp.seq (AWp.regionW T_ok rfl (WL.all (by simp (decide := true) only [EVs, EVt, Array.toList] <;> exact rfl) ?_))
  refine AWp.seq (AWp.regionW T_ok rfl ?_)
  simp only [List.append_eq, List.cons_append, List.nil_append]
  (repeat (first | refine WL.c rfl rfl rfl (by simp (decide := true) only [EVs, EVt, Array.toList, eqI_self] <;> exact rfl) (by simp (decide := true) only [EVs, EVt, Array.toList, calleeOf, eqI_self] <;> exact rfl) (by simp (decide := true) only [EVs, EVt, Array.toList, argsOf, frz, eqI_self] <;> exact rfl) (by first | exact s_star_seen | exact s_plain_sure | exact s_sure_plain | exact s_two_plain | exact s_two_seen | exact t_star_sure | exact t_plain_sure | exact t_sure_plain | exact t_two_seen | exact r_plain_star | exact r_star_star | exact r_star_sure | exact r_seen_sure | exact r_plain_two | exact r_two_seen | exact m_star_star | exact m_plain_two | exact m_plain_sure | exact m_star_sure | exact n_two | exact n_plain | exact n_star) rfl ?_ | refine WL.f rfl rfl rfl (by simp (decide := true) only [EVs, EVt, Array.toList, eqI_self] <;> exact rfl) (by simp (decide := true) only [EVs, EVt, Array.toList, calleeOf, eqI_self] <;> exact rfl) (by simp (decide := true) only [EVs, EVt, Array.toList, argsOf, frz, eqI_self] <;> exact rfl) (by first | exact s_star_seen | exact s_plain_sure | exact s_sure_plain | exact s_two_plain | exact s_two_seen | exact t_star_sure | exact t_plain_sure | exact t_sure_plain | exact t_two_seen | exact r_plain_star | exact r_star_star | exact r_star_sure | exact r_seen_sure | exact r_plain_two | exact r_two_seen | exact m_star_star | exact m_plain_two | exact m_plain_sure | exact m_star_sure | exact n_two | exact n_plain | exact n_star) ?_ | refine WL.one (by simp (decide := true) only [EVs, EVt, Array.toList, eqI_self] <;> exact rfl) ?_)); refine WL.nil ?_
  exact AWp.ret ⟨_, rfl, .inl (.refl _)⟩
end Go.Proofs.Ytondgjphjnlllaa.E
