/-
  The statements of layer 7, walked in abstract values. Conditions: lengths, bytes.
-/
import Derived.Test.YtondgjphjnlllaaEWMay1
import Derived.Test.YtondgjphjnlllaaEWRMay1
import Derived.Test.YtondgjphjnlllaaEWCan
import Derived.Test.YtondgjphjnlllaaEM9
namespace Go.Proofs.Ytondgjphjnlllaa.E
open Go Go.RowKit Go.Proofs.YtondgjphjnlllaaW.E
set_option linter.unusedVariables false
set_option linter.unusedSimpArgs false
set_option maxRecDepth 100000
set_option maxHeartbeats 8000000

theorem eqI_self (a : Int) : eqI a a = true := decide_eq_true rfl
theorem wfP_lv {l : List Pr} (h : ∀ p ∈ l, wfP p) : ∀ p ∈ l, 0 ≤ p.l := fun p hp => (h p hp).2.2.1
theorem sp_begun7 : ACall Try.prog 9 [] (bo true) := by
  have n0 : ∀ p ∈ ([] : List Pr), 0 ≤ p.l := by simp
  have n1 : ∀ p ∈ ([⟨3, 4⟩] : List Pr), 0 ≤ p.l := by simp
  have h1 := sp_Names 2 [⟨3, 4⟩] (by simp)
  have h2 := sp_MSees 2 [⟨3, 4⟩] 2 [] (by simp) (by simp) (by omega) (by omega) n1 n0
  have h3 := sp_MSees 2 [] 2 [⟨3, 4⟩] (by simp) (by simp) (by omega) (by omega) n0 n1
  have h4 := sp_MTurns 2 [] 2 [⟨3, 4⟩] (by simp) (by simp) (by omega) (by omega) n0 n1
  have h5 := sp_MTurns 2 [⟨3, 4⟩] 2 [] (by simp) (by simp) (by omega) (by omega) n1 n0
  have h6 := sp_MRises 2 [] 2 [⟨3, 4⟩] (by simp) (by simp) (by omega) (by omega) n0 n1
  have h7 := sp_MRises 2 [⟨3, 4⟩] 2 [] (by simp) (by simp) (by omega) (by omega) n1 n0
  have h8 := sp_MMakes 2 [⟨3, 4⟩] 2 [] (by simp) (by simp) (by omega) (by omega) n1 n0
  rw [show nam 2 [⟨3, 4⟩] = true by simp [nam]] at h1
  rw [show sees 2 [⟨3, 4⟩] 2 [] = true by simp [sees, flw, risL, bthL, mrgL, rise]] at h2
  rw [show sees 2 [] 2 [⟨3, 4⟩] = false by simp [sees, flw, risL, bthL, mrgL, rise]] at h3
  rw [show flw 2 [] 2 [⟨3, 4⟩] = true by simp [flw, mrgL]] at h4
  rw [show flw 2 [⟨3, 4⟩] 2 [] = false by simp [flw, mrgL]] at h5
  rw [show risE 2 [] 2 [⟨3, 4⟩] = 0 by simp [risE, nam, lvs, flw, mrgL]] at h6
  rw [show risE 2 [⟨3, 4⟩] 2 [] = 6 by simp [risE, nam, lvs, flw, mrgL]] at h7
  rw [show makE 2 [⟨3, 4⟩] 2 [] = 6 by simp [makE, nam, lvs, flw, mrgL]] at h8
  have w0 : Wk (.agg [u8 2, .list 2 [] .full]) (lab 2 []) := Wk.agg' (.cons (.refl _) (.cons (.list _ _ _ _ (.inl rfl)) .nil))
  refine acall_of Try.func9 rfl rfl (Nat.le_of_ble_eq_true rfl) T_ok (fun base w0 => ?_)
  refine AWp.seq (AWp.regionW T_ok rfl (WL.all (by simp (decide := true) only [EVs, EVt, Array.toList] <;> exact rfl) ?_))
  refine AWp.seq (AWp.regionW T_ok rfl (WL.all (by simp (decide := true) only [EVs, EVt, Array.toList] <;> exact rfl) ?_))
  refine AWp.seq (AWp.regionW T_ok rfl ?_)
  simp only [List.append_eq, List.cons_append, List.nil_append]
  (repeat (first | refine WL.c rfl rfl rfl (by simp (decide := true) only [EVs, EVt, Array.toList, eqI_self] <;> exact rfl) (by simp (decide := true) only [EVs, EVt, Array.toList, calleeOf, eqI_self] <;> exact rfl) (by simp (decide := true) only [EVs, EVt, Array.toList, argsOf, frz, eqI_self] <;> exact rfl) (by first | exact h1 | exact h2 | exact h3 | exact h4 | exact h5 | exact h6 | exact h7 | exact h8) rfl ?_ | refine WL.f rfl rfl rfl (by simp (decide := true) only [EVs, EVt, Array.toList, eqI_self] <;> exact rfl) (by simp (decide := true) only [EVs, EVt, Array.toList, calleeOf, eqI_self] <;> exact rfl) (by simp (decide := true) only [EVs, EVt, Array.toList, argsOf, frz, eqI_self] <;> exact rfl) (by first | exact h1 | exact h2 | exact h3 | exact h4 | exact h5 | exact h6 | exact h7 | exact h8) ?_ | refine WL.one (by simp (decide := true) only [EVs, EVt, Array.toList, eqI_self] <;> exact rfl) ?_)); refine WL.nil ?_
  exact AWp.ret ⟨_, rfl, .inl (.refl _)⟩

theorem sp_May1All (d : Int) (l : List Pr) (e : Int) (m : List Pr) (hd : isB d) (hl : l.length ≤ 35184372087808) (hw : ∀ p ∈ l, wfP p) (he : isB e) (hm : m.length ≤ 35184372087808) (hw' : ∀ p ∈ m, wfP p) : ACall Try.prog 3 [lab d l, lab e m] (bo true) := by
  refine acall_of Try.func3 rfl rfl (Nat.le_of_ble_eq_true rfl) T_ok (fun base w0 => ?_)
  refine AWp.seq (AWp.regionW T_ok rfl (WL.all (by simp (decide := true) only [EVs, EVt, Array.toList] <;> exact rfl) ?_))
  refine AWp.seq (AWp.seq (AWp.regionW T_ok rfl ?_))
  (repeat (first | refine WL.c rfl rfl rfl (by simp (decide := true) only [EVs, EVt, Array.toList] <;> exact rfl) (by simp (decide := true) only [EVs, EVt, Array.toList, calleeOf] <;> exact rfl) (by simp (decide := true) only [EVs, EVt, Array.toList, argsOf, frz] <;> exact rfl) (by first | exact sp_begun7) rfl ?_ | refine WL.f rfl rfl rfl (by simp (decide := true) only [EVs, EVt, Array.toList] <;> exact rfl) (by simp (decide := true) only [EVs, EVt, Array.toList, calleeOf] <;> exact rfl) (by simp (decide := true) only [EVs, EVt, Array.toList, argsOf, frz] <;> exact rfl) (by first | exact sp_begun7) ?_ | refine WL.one (by simp (decide := true) only [EVs, EVt, Array.toList] <;> exact rfl) ?_)); refine WL.nil ?_
  refine AWp.cond (t := false) rfl (AWp.skip ?_)
  cases h1 : mayL d l with
  | false =>
    refine AWp.seq (AWp.seq (AWp.regionW T_ok rfl ?_))
    (repeat (first | refine WL.c rfl rfl rfl (by simp (decide := true) only [EVs, EVt, Array.toList, h1] <;> exact rfl) (by simp (decide := true) only [EVs, EVt, Array.toList, calleeOf, h1] <;> exact rfl) (by simp (decide := true) only [EVs, EVt, Array.toList, argsOf, frz, h1] <;> exact rfl) (by first | exact sp_RMay d l (by omega)) rfl ?_ | refine WL.f rfl rfl rfl (by simp (decide := true) only [EVs, EVt, Array.toList, h1] <;> exact rfl) (by simp (decide := true) only [EVs, EVt, Array.toList, calleeOf, h1] <;> exact rfl) (by simp (decide := true) only [EVs, EVt, Array.toList, argsOf, frz, h1] <;> exact rfl) (by first | exact sp_RMay d l (by omega)) ?_ | refine WL.one (by simp (decide := true) only [EVs, EVt, Array.toList, h1] <;> exact rfl) ?_)); refine WL.nil ?_
    refine AWp.cond (t := true) rfl (AWp.seq (AWp.regionW T_ok rfl (WL.all (by simp (decide := true) only [EVs, EVt, Array.toList] <;> exact rfl) ?_)))
    exact AWp.ret ⟨_, rfl, .inl (.refl _)⟩
  | true =>
    cases h2 : mayL e m with
    | false =>
      refine AWp.seq (AWp.seq (AWp.regionW T_ok rfl ?_))
      (repeat (first | refine WL.c rfl rfl rfl (by simp (decide := true) only [EVs, EVt, Array.toList, h1, h2] <;> exact rfl) (by simp (decide := true) only [EVs, EVt, Array.toList, calleeOf, h1, h2] <;> exact rfl) (by simp (decide := true) only [EVs, EVt, Array.toList, argsOf, frz, h1, h2] <;> exact rfl) (by first | exact sp_RMay d l (by omega) | exact sp_RMay e m (by omega)) rfl ?_ | refine WL.f rfl rfl rfl (by simp (decide := true) only [EVs, EVt, Array.toList, h1, h2] <;> exact rfl) (by simp (decide := true) only [EVs, EVt, Array.toList, calleeOf, h1, h2] <;> exact rfl) (by simp (decide := true) only [EVs, EVt, Array.toList, argsOf, frz, h1, h2] <;> exact rfl) (by first | exact sp_RMay d l (by omega) | exact sp_RMay e m (by omega)) ?_ | refine WL.one (by simp (decide := true) only [EVs, EVt, Array.toList, h1, h2] <;> exact rfl) ?_)); refine WL.nil ?_
      refine AWp.cond (t := true) rfl (AWp.seq (AWp.regionW T_ok rfl (WL.all (by simp (decide := true) only [EVs, EVt, Array.toList] <;> exact rfl) ?_)))
      exact AWp.ret ⟨_, rfl, .inl (.refl _)⟩
    | true =>
      obtain ⟨_, _, _, l16, al, _⟩ := mayL_spec h1
      obtain ⟨_, _, _, m16, am, _⟩ := mayL_spec h2
      have ll := wfP_lv hw
      have lm := wfP_lv hw'
      refine AWp.seq (AWp.seq (AWp.regionW T_ok rfl ?_))
      (repeat (first | refine WL.c rfl rfl rfl (by simp (decide := true) only [EVs, EVt, Array.toList, h1, h2] <;> exact rfl) (by simp (decide := true) only [EVs, EVt, Array.toList, calleeOf, h1, h2] <;> exact rfl) (by simp (decide := true) only [EVs, EVt, Array.toList, argsOf, frz, h1, h2] <;> exact rfl) (by first | exact sp_RMay d l (by omega) | exact sp_RMay e m (by omega)) rfl ?_ | refine WL.f rfl rfl rfl (by simp (decide := true) only [EVs, EVt, Array.toList, h1, h2] <;> exact rfl) (by simp (decide := true) only [EVs, EVt, Array.toList, calleeOf, h1, h2] <;> exact rfl) (by simp (decide := true) only [EVs, EVt, Array.toList, argsOf, frz, h1, h2] <;> exact rfl) (by first | exact sp_RMay d l (by omega) | exact sp_RMay e m (by omega)) ?_ | refine WL.one (by simp (decide := true) only [EVs, EVt, Array.toList, h1, h2] <;> exact rfl) ?_)); refine WL.nil ?_
      refine AWp.cond (t := false) rfl (AWp.skip ?_)
      refine AWp.seq (AWp.drawnW T_ok mixed (by kernel_rfl) rfl ?_)
      simp only [List.append_eq, List.cons_append, List.nil_append]
      (repeat (first | refine WL.c rfl rfl rfl (by simp (decide := true) only [EVs, EVt, Array.toList, eqI_self, beq_self_eq_true] <;> exact rfl) (by simp (decide := true) only [EVs, EVt, Array.toList, calleeOf, eqI_self, beq_self_eq_true] <;> exact rfl) (by simp (decide := true) only [EVs, EVt, Array.toList, argsOf, frz, eqI_self, beq_self_eq_true] <;> exact rfl) (by first | exact sp_Names e m (by omega) | exact sp_RNames e m (by omega) | exact sp_MSees d l e m (by omega) (by omega) hd.1 he.1 ll lm | exact sp_RSees d l e m (by omega) (by omega) al am | exact sp_MTurns d l e m (by omega) (by omega) hd.1 he.1 ll lm | exact sp_RTurns d l e m (by omega) (by omega) al am | exact sp_MRises d l e m (by omega) (by omega) hd.1 he.1 ll lm | exact sp_RRises d l e m (by omega) (by omega) al am | exact sp_MMakes d l e m (by omega) (by omega) hd.1 he.1 ll lm | exact sp_RMakes d l e m (by omega) (by omega) al am) rfl ?_ | refine WL.f rfl rfl rfl (by simp (decide := true) only [EVs, EVt, Array.toList, eqI_self, beq_self_eq_true] <;> exact rfl) (by simp (decide := true) only [EVs, EVt, Array.toList, calleeOf, eqI_self, beq_self_eq_true] <;> exact rfl) (by simp (decide := true) only [EVs, EVt, Array.toList, argsOf, frz, eqI_self, beq_self_eq_true] <;> exact rfl) (by first | exact sp_Names e m (by omega) | exact sp_RNames e m (by omega) | exact sp_MSees d l e m (by omega) (by omega) hd.1 he.1 ll lm | exact sp_RSees d l e m (by omega) (by omega) al am | exact sp_MTurns d l e m (by omega) (by omega) hd.1 he.1 ll lm | exact sp_RTurns d l e m (by omega) (by omega) al am | exact sp_MRises d l e m (by omega) (by omega) hd.1 he.1 ll lm | exact sp_RRises d l e m (by omega) (by omega) al am | exact sp_MMakes d l e m (by omega) (by omega) hd.1 he.1 ll lm | exact sp_RMakes d l e m (by omega) (by omega) al am) ?_ | refine WL.one (by simp (decide := true) only [EVs, EVt, Array.toList, eqI_self, beq_self_eq_true] <;> exact rfl) ?_)); refine WL.nil ?_
      exact AWp.ret ⟨_, rfl, .inl (.refl _)⟩
end Go.Proofs.Ytondgjphjnlllaa.E
