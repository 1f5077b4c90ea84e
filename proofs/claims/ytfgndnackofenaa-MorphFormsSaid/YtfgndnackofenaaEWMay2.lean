/-
  Package may2 and the laws May2Owns, May2Forms, walked in abstract values. Conditions: lengths.
-/
import Derived.Test.YtfgndnackofenaaEWSets2
import Derived.Test.YtfgndnackofenaaEM14
namespace Go.Proofs.Ytfgndnackofenaa.E
open Go Go.RowKit Go.Proofs.YtfgndnackofenaaW.E Go.Proofs.YtfgndnackofenaaW.E.PM
set_option linter.unusedVariables false
set_option linter.unusedSimpArgs false
set_option maxRecDepth 100000
set_option maxHeartbeats 4000000

theorem wkN (s i o : List Int) (p q r : Own) (x y z : Nat) (h1 : x = 1 ∨ s.map u16 = []) (h2 : y = 1 ∨ i.map u16 = []) (h3 : z = 1 ∨ o.map u16 = []) : Wk (.agg [.list x (s.map u16) p, .list y (i.map u16) q, .list z (o.map u16) r]) (sts s i o) := by
  refine .agg _ _ rfl ?_
  rintro (_ | _ | _ | _) a b e1 e2 <;> simp at e1 e2 <;> subst e1 <;> subst e2
  · exact .list _ _ _ _ h1
  · exact .list _ _ _ _ h2
  · exact .list _ _ _ _ h3

theorem sp_Turns2 (s i o s' i' o' : List Int) (a1 : s.length ≤ 4096) (a2 : i.length ≤ 4096) (a3 : o.length ≤ 4096) (b1 : s'.length ≤ 4096) (b2 : i'.length ≤ 4096) :
    ACall Try.prog 23 [sts s i o, sts s' i' o'] (bo (turns2 s i o s' i')) := by
  have hu : (un i o).length ≤ i.length + o.length := mrg_len ..
  refine acall_of Try.func23 rfl rfl (Nat.le_of_ble_eq_true rfl) T_ok (fun base w0 => ?_)
  refine AWp.seq (AWp.regionW T_ok rfl (WL.all (by simp (decide := true) only [EVs, EVt, Array.toList] <;> exact rfl) ?_))
  cases h1 : sub s s' <;> (refine AWp.seq (AWp.drawnW T_ok mixed (by kernel_rfl) rfl ?_); (repeat (first | refine WL.c rfl rfl rfl (by simp (decide := true) only [EVs, EVt, Array.toList, h1] <;> exact rfl) (by simp (decide := true) only [EVs, EVt, Array.toList, calleeOf, h1] <;> exact rfl) (by simp (decide := true) only [EVs, EVt, Array.toList, argsOf, frz, h1] <;> exact rfl) (by first | exact sp_In s s' (by omega) | exact sp_Or i o (by omega) | exact sp_In i' (un i o) (by omega)) rfl ?_ | refine WL.f rfl rfl rfl (by simp (decide := true) only [EVs, EVt, Array.toList, h1] <;> exact rfl) (by simp (decide := true) only [EVs, EVt, Array.toList, calleeOf, h1] <;> exact rfl) (by simp (decide := true) only [EVs, EVt, Array.toList, argsOf, frz, h1] <;> exact rfl) (by first | exact sp_In s s' (by omega) | exact sp_Or i o (by omega) | exact sp_In i' (un i o) (by omega)) ?_ | refine WL.one (by simp (decide := true) only [EVs, EVt, Array.toList, h1] <;> exact rfl) ?_)); refine WL.nil ?_; refine AWp.ret ⟨_, rfl, .inl ?_⟩; simp only [turns2, h1, Bool.true_and, Bool.false_and]; exact .refl _)

theorem sp_Sees2 (s i o s' i' o' : List Int) (a1 : s.length ≤ 4096) (a2 : i.length ≤ 4096) (a3 : o.length ≤ 4096) (b1 : s'.length ≤ 4096) (b2 : i'.length ≤ 4096) :
    ACall Try.prog 21 [sts s i o, sts s' i' o'] (bo (sees2 s i o s' i')) := by
  have hu : (un s o).length ≤ s.length + o.length := mrg_len ..
  refine acall_of Try.func21 rfl rfl (Nat.le_of_ble_eq_true rfl) T_ok (fun base w0 => ?_)
  refine AWp.seq (AWp.regionW T_ok rfl (WL.all (by simp (decide := true) only [EVs, EVt, Array.toList] <;> exact rfl) ?_))
  cases h1 : sub s' (un s o) <;> (refine AWp.seq (AWp.drawnW T_ok mixed (by kernel_rfl) rfl ?_); (repeat (first | refine WL.c rfl rfl rfl (by simp (decide := true) only [EVs, EVt, Array.toList, h1] <;> exact rfl) (by simp (decide := true) only [EVs, EVt, Array.toList, calleeOf, h1] <;> exact rfl) (by simp (decide := true) only [EVs, EVt, Array.toList, argsOf, frz, h1] <;> exact rfl) (by first | exact sp_Or s o (by omega) | exact sp_In s' (un s o) (by omega) | exact sp_In i i' (by omega)) rfl ?_ | refine WL.f rfl rfl rfl (by simp (decide := true) only [EVs, EVt, Array.toList, h1] <;> exact rfl) (by simp (decide := true) only [EVs, EVt, Array.toList, calleeOf, h1] <;> exact rfl) (by simp (decide := true) only [EVs, EVt, Array.toList, argsOf, frz, h1] <;> exact rfl) (by first | exact sp_Or s o (by omega) | exact sp_In s' (un s o) (by omega) | exact sp_In i i' (by omega)) ?_ | refine WL.one (by simp (decide := true) only [EVs, EVt, Array.toList, h1] <;> exact rfl) ?_)); refine WL.nil ?_; refine AWp.ret ⟨_, rfl, .inl ?_⟩; simp only [sees2, h1, Bool.true_and, Bool.false_and]; exact .refl _)

theorem sp_Rises2 (s i o s' i' o' : List Int) (a1 : s.length ≤ 4096) (a2 : i.length ≤ 4096) (a3 : o.length ≤ 4096) (b1 : s'.length ≤ 4096) (b2 : i'.length ≤ 4096) (b3 : o'.length ≤ 4096) :
    ACall Try.prog 17 [sts s i o, sts s' i' o'] (i64 (rises2 s i o s' i' o')) := by
  refine acall_of Try.func17 rfl rfl (Nat.le_of_ble_eq_true rfl) T_ok (fun base w0 => ?_)
  refine AWp.seq (AWp.regionW T_ok rfl (WL.all (by simp (decide := true) only [EVs, EVt, Array.toList] <;> exact rfl) ?_))
  cases h1 : sub o' o with
  | false =>
    refine AWp.seq (AWp.block (AWp.seq (AWp.regionW T_ok rfl ?_)))
    (repeat (first | refine WL.c rfl rfl rfl (by simp (decide := true) only [EVs, EVt, Array.toList, h1] <;> exact rfl) (by simp (decide := true) only [EVs, EVt, Array.toList, calleeOf, h1] <;> exact rfl) (by simp (decide := true) only [EVs, EVt, Array.toList, argsOf, frz, h1] <;> exact rfl) (by first | exact sp_In o' o (by omega)) rfl ?_ | refine WL.f rfl rfl rfl (by simp (decide := true) only [EVs, EVt, Array.toList, h1] <;> exact rfl) (by simp (decide := true) only [EVs, EVt, Array.toList, calleeOf, h1] <;> exact rfl) (by simp (decide := true) only [EVs, EVt, Array.toList, argsOf, frz, h1] <;> exact rfl) (by first | exact sp_In o' o (by omega)) ?_ | refine WL.one (by simp (decide := true) only [EVs, EVt, Array.toList, h1] <;> exact rfl) ?_)); refine WL.nil ?_
    refine AWp.cond (t := true) rfl (AWp.seq (AWp.regionW T_ok rfl (WL.all (by simp (decide := true) only [EVs, EVt, Array.toList] <;> exact rfl) ?_)))
    refine AWp.ret ⟨_, rfl, .inl ?_⟩
    simp only [rises2, h1, if_true]
    exact .refl _
  | true =>
    refine AWp.seq (AWp.block (AWp.seq (AWp.regionW T_ok rfl ?_)))
    (repeat (first | refine WL.c rfl rfl rfl (by simp (decide := true) only [EVs, EVt, Array.toList, h1] <;> exact rfl) (by simp (decide := true) only [EVs, EVt, Array.toList, calleeOf, h1] <;> exact rfl) (by simp (decide := true) only [EVs, EVt, Array.toList, argsOf, frz, h1] <;> exact rfl) (by first | exact sp_In o' o (by omega)) rfl ?_ | refine WL.f rfl rfl rfl (by simp (decide := true) only [EVs, EVt, Array.toList, h1] <;> exact rfl) (by simp (decide := true) only [EVs, EVt, Array.toList, calleeOf, h1] <;> exact rfl) (by simp (decide := true) only [EVs, EVt, Array.toList, argsOf, frz, h1] <;> exact rfl) (by first | exact sp_In o' o (by omega)) ?_ | refine WL.one (by simp (decide := true) only [EVs, EVt, Array.toList, h1] <;> exact rfl) ?_)); refine WL.nil ?_
    cases h2 : turns2 s i o s' i' with
    | false =>
      refine AWp.cond (t := false) rfl (AWp.seq (AWp.regionW T_ok rfl ?_))
      (repeat (first | refine WL.c rfl rfl rfl (by simp (decide := true) only [EVs, EVt, Array.toList, h2] <;> exact rfl) (by simp (decide := true) only [EVs, EVt, Array.toList, calleeOf, h2] <;> exact rfl) (by simp (decide := true) only [EVs, EVt, Array.toList, argsOf, frz, h2] <;> exact rfl) (by first | exact sp_Turns2 s i o s' i' o' a1 a2 a3 b1 b2) rfl ?_ | refine WL.f rfl rfl rfl (by simp (decide := true) only [EVs, EVt, Array.toList, h2] <;> exact rfl) (by simp (decide := true) only [EVs, EVt, Array.toList, calleeOf, h2] <;> exact rfl) (by simp (decide := true) only [EVs, EVt, Array.toList, argsOf, frz, h2] <;> exact rfl) (by first | exact sp_Turns2 s i o s' i' o' a1 a2 a3 b1 b2) ?_ | refine WL.one (by simp (decide := true) only [EVs, EVt, Array.toList, h2] <;> exact rfl) ?_)); refine WL.nil ?_
      refine AWp.cond (t := true) rfl (AWp.seq (AWp.regionW T_ok rfl (WL.all (by simp (decide := true) only [EVs, EVt, Array.toList] <;> exact rfl) ?_)))
      refine AWp.ret ⟨_, rfl, .inl ?_⟩
      simp only [rises2, h1, h2, Bool.true_eq_false, if_true, if_false]
      exact .refl _
    | true =>
      refine AWp.cond (t := false) rfl (AWp.seq (AWp.regionW T_ok rfl ?_))
      (repeat (first | refine WL.c rfl rfl rfl (by simp (decide := true) only [EVs, EVt, Array.toList, h2] <;> exact rfl) (by simp (decide := true) only [EVs, EVt, Array.toList, calleeOf, h2] <;> exact rfl) (by simp (decide := true) only [EVs, EVt, Array.toList, argsOf, frz, h2] <;> exact rfl) (by first | exact sp_Turns2 s i o s' i' o' a1 a2 a3 b1 b2) rfl ?_ | refine WL.f rfl rfl rfl (by simp (decide := true) only [EVs, EVt, Array.toList, h2] <;> exact rfl) (by simp (decide := true) only [EVs, EVt, Array.toList, calleeOf, h2] <;> exact rfl) (by simp (decide := true) only [EVs, EVt, Array.toList, argsOf, frz, h2] <;> exact rfl) (by first | exact sp_Turns2 s i o s' i' o' a1 a2 a3 b1 b2) ?_ | refine WL.one (by simp (decide := true) only [EVs, EVt, Array.toList, h2] <;> exact rfl) ?_)); refine WL.nil ?_
      refine AWp.cond (t := false) rfl (AWp.skip ?_)
      refine AWp.seq (AWp.regionW T_ok rfl (WL.all (by simp (decide := true) only [EVs, EVt, Array.toList] <;> exact rfl) ?_))
      refine AWp.ret ⟨_, rfl, .inl ?_⟩
      simp only [rises2, h1, h2, Bool.true_eq_false, if_false]
      exact .refl _

theorem sp_Makes2 (s i o s' i' o' : List Int) (a1 : s.length ≤ 4096) (a2 : i.length ≤ 4096) (a3 : o.length ≤ 4096) (b1 : s'.length ≤ 4096) (b2 : i'.length ≤ 4096) (b3 : o'.length ≤ 4096) :
    ACall Try.prog 19 [sts s i o, sts s' i' o'] (i64 (makes2 s i o s' i' o')) := by
  refine acall_of Try.func19 rfl rfl (Nat.le_of_ble_eq_true rfl) T_ok (fun base w0 => ?_)
  refine AWp.seq (AWp.regionW T_ok rfl (WL.all (by simp (decide := true) only [EVs, EVt, Array.toList] <;> exact rfl) ?_))
  by_cases h1 : 0 < o'.length
  · have c1 : ltI 0 (o'.length : Int) = true := ltI_t (by omega)
    refine AWp.seq (AWp.block (AWp.seq (AWp.regionW T_ok rfl (WL.all (by simp (decide := true) only [EVs, EVt, Array.toList, c1] <;> exact rfl) ?_))))
    refine AWp.cond (t := true) rfl (AWp.seq (AWp.regionW T_ok rfl (WL.all (by simp (decide := true) only [EVs, EVt, Array.toList] <;> exact rfl) ?_)))
    refine AWp.ret ⟨_, rfl, .inl ?_⟩
    simp only [makes2, h1, if_true]
    exact .refl _
  · have c1 : ltI 0 (o'.length : Int) = false := ltI_f (by omega)
    refine AWp.seq (AWp.block (AWp.seq (AWp.regionW T_ok rfl (WL.all (by simp (decide := true) only [EVs, EVt, Array.toList, c1] <;> exact rfl) ?_))))
    cases h2 : turns2 s i o s' i' with
    | false =>
      refine AWp.cond (t := false) rfl (AWp.seq (AWp.regionW T_ok rfl ?_))
      (repeat (first | refine WL.c rfl rfl rfl (by simp (decide := true) only [EVs, EVt, Array.toList, h2] <;> exact rfl) (by simp (decide := true) only [EVs, EVt, Array.toList, calleeOf, h2] <;> exact rfl) (by simp (decide := true) only [EVs, EVt, Array.toList, argsOf, frz, h2] <;> exact rfl) (by first | exact sp_Turns2 s i o s' i' o' a1 a2 a3 b1 b2) rfl ?_ | refine WL.f rfl rfl rfl (by simp (decide := true) only [EVs, EVt, Array.toList, h2] <;> exact rfl) (by simp (decide := true) only [EVs, EVt, Array.toList, calleeOf, h2] <;> exact rfl) (by simp (decide := true) only [EVs, EVt, Array.toList, argsOf, frz, h2] <;> exact rfl) (by first | exact sp_Turns2 s i o s' i' o' a1 a2 a3 b1 b2) ?_ | refine WL.one (by simp (decide := true) only [EVs, EVt, Array.toList, h2] <;> exact rfl) ?_)); refine WL.nil ?_
      refine AWp.cond (t := true) rfl (AWp.seq (AWp.regionW T_ok rfl (WL.all (by simp (decide := true) only [EVs, EVt, Array.toList] <;> exact rfl) ?_)))
      refine AWp.ret ⟨_, rfl, .inl ?_⟩
      simp only [makes2, h1, h2, if_true, if_false]
      exact .refl _
    | true =>
      refine AWp.cond (t := false) rfl (AWp.seq (AWp.regionW T_ok rfl ?_))
      (repeat (first | refine WL.c rfl rfl rfl (by simp (decide := true) only [EVs, EVt, Array.toList, h2] <;> exact rfl) (by simp (decide := true) only [EVs, EVt, Array.toList, calleeOf, h2] <;> exact rfl) (by simp (decide := true) only [EVs, EVt, Array.toList, argsOf, frz, h2] <;> exact rfl) (by first | exact sp_Turns2 s i o s' i' o' a1 a2 a3 b1 b2) rfl ?_ | refine WL.f rfl rfl rfl (by simp (decide := true) only [EVs, EVt, Array.toList, h2] <;> exact rfl) (by simp (decide := true) only [EVs, EVt, Array.toList, calleeOf, h2] <;> exact rfl) (by simp (decide := true) only [EVs, EVt, Array.toList, argsOf, frz, h2] <;> exact rfl) (by first | exact sp_Turns2 s i o s' i' o' a1 a2 a3 b1 b2) ?_ | refine WL.one (by simp (decide := true) only [EVs, EVt, Array.toList, h2] <;> exact rfl) ?_)); refine WL.nil ?_
      refine AWp.cond (t := false) rfl (AWp.skip ?_)
      refine AWp.seq (AWp.regionW T_ok rfl (WL.all (by simp (decide := true) only [EVs, EVt, Array.toList] <;> exact rfl) ?_))
      refine AWp.ret ⟨_, rfl, .inl ?_⟩
      simp only [makes2, h1, h2, Bool.true_eq_false, if_false]
      exact .refl _
theorem sp_begun10 : ACall Try.prog 15 [] (bo true) := by
  have f1 := sp_Sees2 [3] [] [] [] [] [] (by simp) (by simp) (by simp) (by simp) (by simp)
  rw [show sees2 [3] [] [] [] [] = true by simp [sees2, sub, mrg, kLess, kOr]] at f1
  have f2 := sp_Sees2 [] [] [] [3] [] [] (by simp) (by simp) (by simp) (by simp) (by simp)
  rw [show sees2 [] [] [] [3] [] = false by simp [sees2, sub, mrg, kLess, kOr]] at f2
  have f3 := sp_Turns2 [] [] [] [3] [] [] (by simp) (by simp) (by simp) (by simp) (by simp)
  rw [show turns2 [] [] [] [3] [] = true by simp [turns2, sub, mrg, kLess, kOr]] at f3
  have f4 := sp_Turns2 [3] [] [] [] [] [] (by simp) (by simp) (by simp) (by simp) (by simp)
  rw [show turns2 [3] [] [] [] [] = false by simp [turns2, sub, mrg, kLess, kOr]] at f4
  have f5 := sp_Rises2 [] [] [] [3] [] [] (by simp) (by simp) (by simp) (by simp) (by simp) (by simp)
  rw [show rises2 [] [] [] [3] [] [] = 0 by simp [rises2, turns2, sub, mrg, kLess, kOr]] at f5
  have f6 := sp_Rises2 [3] [] [] [] [] [] (by simp) (by simp) (by simp) (by simp) (by simp) (by simp)
  rw [show rises2 [3] [] [] [] [] [] = 6 by simp [rises2, turns2, sub, mrg, kLess, kOr]] at f6
  have f7 := sp_Makes2 [3] [] [] [] [] [] (by simp) (by simp) (by simp) (by simp) (by simp) (by simp)
  rw [show makes2 [3] [] [] [] [] [] = 6 by simp [makes2, turns2, sub, mrg, kLess, kOr]] at f7
  have f8 := sp_Sees2 [] [] [3] [3] [] [] (by simp) (by simp) (by simp) (by simp) (by simp)
  rw [show sees2 [] [] [3] [3] [] = true by simp [sees2, sub, mrg, kLess, kOr]] at f8
  have q0 : eqI 0 0 = true := rfl
  have q5 : eqI 5 5 = true := rfl
  have q6 : eqI 6 6 = true := rfl
  refine acall_of Try.func15 rfl rfl (Nat.le_of_ble_eq_true rfl) T_ok (fun base w0 => ?_)
  refine AWp.seq (AWp.regionW T_ok rfl (WL.all (by simp (decide := true) only [EVs, EVt, Array.toList] <;> exact rfl) ?_))
  refine AWp.seq (AWp.regionW T_ok rfl (WL.all (by simp (decide := true) only [EVs, EVt, Array.toList] <;> exact rfl) ?_))
  refine AWp.seq (AWp.regionW T_ok rfl ?_)
  simp only [List.append_eq, List.cons_append, List.nil_append]
  (repeat (first | refine WL.c rfl rfl rfl (by simp (decide := true) only [EVs, EVt, Array.toList, q0, q5, q6] <;> exact rfl) (by simp (decide := true) only [EVs, EVt, Array.toList, calleeOf, q0, q5, q6] <;> exact rfl) (by simp (decide := true) only [EVs, EVt, Array.toList, argsOf, frz, q0, q5, q6] <;> exact rfl) (by first | exact ACall.wkl f1 (.cons (wkN [3] [] [] _ _ _ _ _ _ (.inl rfl) (.inr rfl) (.inr rfl)) (.cons (wkN [] [] [] _ _ _ _ _ _ (.inr rfl) (.inr rfl) (.inr rfl)) .nil)) | exact ACall.wkl f2 (.cons (wkN [] [] [] _ _ _ _ _ _ (.inr rfl) (.inr rfl) (.inr rfl)) (.cons (wkN [3] [] [] _ _ _ _ _ _ (.inl rfl) (.inr rfl) (.inr rfl)) .nil)) | exact ACall.wkl f3 (.cons (wkN [] [] [] _ _ _ _ _ _ (.inr rfl) (.inr rfl) (.inr rfl)) (.cons (wkN [3] [] [] _ _ _ _ _ _ (.inl rfl) (.inr rfl) (.inr rfl)) .nil)) | exact ACall.wkl f4 (.cons (wkN [3] [] [] _ _ _ _ _ _ (.inl rfl) (.inr rfl) (.inr rfl)) (.cons (wkN [] [] [] _ _ _ _ _ _ (.inr rfl) (.inr rfl) (.inr rfl)) .nil)) | exact ACall.wkl f5 (.cons (wkN [] [] [] _ _ _ _ _ _ (.inr rfl) (.inr rfl) (.inr rfl)) (.cons (wkN [3] [] [] _ _ _ _ _ _ (.inl rfl) (.inr rfl) (.inr rfl)) .nil)) | exact ACall.wkl f6 (.cons (wkN [3] [] [] _ _ _ _ _ _ (.inl rfl) (.inr rfl) (.inr rfl)) (.cons (wkN [] [] [] _ _ _ _ _ _ (.inr rfl) (.inr rfl) (.inr rfl)) .nil)) | exact ACall.wkl f7 (.cons (wkN [3] [] [] _ _ _ _ _ _ (.inl rfl) (.inr rfl) (.inr rfl)) (.cons (wkN [] [] [] _ _ _ _ _ _ (.inr rfl) (.inr rfl) (.inr rfl)) .nil)) | exact ACall.wkl f8 (.cons (wkN [] [] [3] _ _ _ _ _ _ (.inr rfl) (.inr rfl) (.inl rfl)) (.cons (wkN [3] [] [] _ _ _ _ _ _ (.inl rfl) (.inr rfl) (.inr rfl)) .nil))) rfl ?_ | refine WL.f rfl rfl rfl (by simp (decide := true) only [EVs, EVt, Array.toList, q0, q5, q6] <;> exact rfl) (by simp (decide := true) only [EVs, EVt, Array.toList, calleeOf, q0, q5, q6] <;> exact rfl) (by simp (decide := true) only [EVs, EVt, Array.toList, argsOf, frz, q0, q5, q6] <;> exact rfl) (by first | exact ACall.wkl f1 (.cons (wkN [3] [] [] _ _ _ _ _ _ (.inl rfl) (.inr rfl) (.inr rfl)) (.cons (wkN [] [] [] _ _ _ _ _ _ (.inr rfl) (.inr rfl) (.inr rfl)) .nil)) | exact ACall.wkl f2 (.cons (wkN [] [] [] _ _ _ _ _ _ (.inr rfl) (.inr rfl) (.inr rfl)) (.cons (wkN [3] [] [] _ _ _ _ _ _ (.inl rfl) (.inr rfl) (.inr rfl)) .nil)) | exact ACall.wkl f3 (.cons (wkN [] [] [] _ _ _ _ _ _ (.inr rfl) (.inr rfl) (.inr rfl)) (.cons (wkN [3] [] [] _ _ _ _ _ _ (.inl rfl) (.inr rfl) (.inr rfl)) .nil)) | exact ACall.wkl f4 (.cons (wkN [3] [] [] _ _ _ _ _ _ (.inl rfl) (.inr rfl) (.inr rfl)) (.cons (wkN [] [] [] _ _ _ _ _ _ (.inr rfl) (.inr rfl) (.inr rfl)) .nil)) | exact ACall.wkl f5 (.cons (wkN [] [] [] _ _ _ _ _ _ (.inr rfl) (.inr rfl) (.inr rfl)) (.cons (wkN [3] [] [] _ _ _ _ _ _ (.inl rfl) (.inr rfl) (.inr rfl)) .nil)) | exact ACall.wkl f6 (.cons (wkN [3] [] [] _ _ _ _ _ _ (.inl rfl) (.inr rfl) (.inr rfl)) (.cons (wkN [] [] [] _ _ _ _ _ _ (.inr rfl) (.inr rfl) (.inr rfl)) .nil)) | exact ACall.wkl f7 (.cons (wkN [3] [] [] _ _ _ _ _ _ (.inl rfl) (.inr rfl) (.inr rfl)) (.cons (wkN [] [] [] _ _ _ _ _ _ (.inr rfl) (.inr rfl) (.inr rfl)) .nil)) | exact ACall.wkl f8 (.cons (wkN [] [] [3] _ _ _ _ _ _ (.inr rfl) (.inr rfl) (.inl rfl)) (.cons (wkN [3] [] [] _ _ _ _ _ _ (.inl rfl) (.inr rfl) (.inr rfl)) .nil))) ?_ | refine WL.one (by simp (decide := true) only [EVs, EVt, Array.toList, q0, q5, q6] <;> exact rfl) ?_)); refine WL.nil ?_
  exact AWp.ret ⟨_, rfl, .inl (.refl _)⟩

theorem sp_May2Forms : ACall Try.prog 7 [] (bo true) := by
  have f1 := sp_Sees2 [] [] [3] [3] [] [] (by simp) (by simp) (by simp) (by simp) (by simp)
  rw [show sees2 [] [] [3] [3] [] = true by simp [sees2, sub, mrg, kLess, kOr]] at f1
  have f2 := sp_Turns2 [] [] [3] [] [3] [] (by simp) (by simp) (by simp) (by simp) (by simp)
  rw [show turns2 [] [] [3] [] [3] = true by simp [turns2, sub, mrg, kLess, kOr]] at f2
  have f3 := sp_Sees2 [] [] [] [] [3] [] (by simp) (by simp) (by simp) (by simp) (by simp)
  rw [show sees2 [] [] [] [] [3] = true by simp [sees2, sub, mrg, kLess, kOr]] at f3
  have f4 := sp_Turns2 [] [] [] [] [3] [] (by simp) (by simp) (by simp) (by simp) (by simp)
  rw [show turns2 [] [] [] [] [3] = false by simp [turns2, sub, mrg, kLess, kOr]] at f4
  have f5 := sp_Turns2 [] [3] [] [] [] [] (by simp) (by simp) (by simp) (by simp) (by simp)
  rw [show turns2 [] [3] [] [] [] = true by simp [turns2, sub, mrg, kLess, kOr]] at f5
  have f6 := sp_Sees2 [] [3] [] [] [] [] (by simp) (by simp) (by simp) (by simp) (by simp)
  rw [show sees2 [] [3] [] [] [] = false by simp [sees2, sub, mrg, kLess, kOr]] at f6
  have f7 := sp_Rises2 [] [] [] [] [] [3] (by simp) (by simp) (by simp) (by simp) (by simp) (by simp)
  rw [show rises2 [] [] [] [] [] [3] = 5 by simp [rises2, turns2, sub, mrg, kLess, kOr]] at f7
  have f8 := sp_Rises2 [] [] [3] [] [] [3] (by simp) (by simp) (by simp) (by simp) (by simp) (by simp)
  rw [show rises2 [] [] [3] [] [] [3] = 0 by simp [rises2, turns2, sub, mrg, kLess, kOr]] at f8
  have f9 := sp_Rises2 [] [] [3] [] [3] [] (by simp) (by simp) (by simp) (by simp) (by simp) (by simp)
  rw [show rises2 [] [] [3] [] [3] [] = 0 by simp [rises2, turns2, sub, mrg, kLess, kOr]] at f9
  have f10 := sp_Rises2 [3] [] [] [] [3] [] (by simp) (by simp) (by simp) (by simp) (by simp) (by simp)
  rw [show rises2 [3] [] [] [] [3] [] = 6 by simp [rises2, turns2, sub, mrg, kLess, kOr]] at f10
  have f11 := sp_Rises2 [3] [] [] [] [] [] (by simp) (by simp) (by simp) (by simp) (by simp) (by simp)
  rw [show rises2 [3] [] [] [] [] [] = 6 by simp [rises2, turns2, sub, mrg, kLess, kOr]] at f11
  have f12 := sp_Rises2 [] [3] [] [3] [] [] (by simp) (by simp) (by simp) (by simp) (by simp) (by simp)
  rw [show rises2 [] [3] [] [3] [] [] = 0 by simp [rises2, turns2, sub, mrg, kLess, kOr]] at f12
  have f13 := sp_Makes2 [] [] [3] [] [] [3] (by simp) (by simp) (by simp) (by simp) (by simp) (by simp)
  rw [show makes2 [] [] [3] [] [] [3] = 5 by simp [makes2, turns2, sub, mrg, kLess, kOr]] at f13
  have f14 := sp_Makes2 [] [] [] [] [3] [] (by simp) (by simp) (by simp) (by simp) (by simp) (by simp)
  rw [show makes2 [] [] [] [] [3] [] = 6 by simp [makes2, turns2, sub, mrg, kLess, kOr]] at f14
  have f15 := sp_Makes2 [] [] [3] [] [3] [] (by simp) (by simp) (by simp) (by simp) (by simp) (by simp)
  rw [show makes2 [] [] [3] [] [3] [] = 0 by simp [makes2, turns2, sub, mrg, kLess, kOr]] at f15
  have f16 := sp_Makes2 [3] [] [] [3] [] [] (by simp) (by simp) (by simp) (by simp) (by simp) (by simp)
  rw [show makes2 [3] [] [] [3] [] [] = 0 by simp [makes2, turns2, sub, mrg, kLess, kOr]] at f16
  have q0 : eqI 0 0 = true := rfl
  have q5 : eqI 5 5 = true := rfl
  have q6 : eqI 6 6 = true := rfl
  refine acall_of Try.func7 rfl rfl (Nat.le_of_ble_eq_true rfl) T_ok (fun base w0 => ?_)
  refine AWp.seq (AWp.regionW T_ok rfl (WL.all (by simp (decide := true) only [EVs, EVt, Array.toList] <;> exact rfl) ?_))
  refine AWp.seq (AWp.seq (AWp.regionW T_ok rfl ?_))
  (repeat (first | refine WL.c rfl rfl rfl (by simp (decide := true) only [EVs, EVt, Array.toList] <;> exact rfl) (by simp (decide := true) only [EVs, EVt, Array.toList, calleeOf] <;> exact rfl) (by simp (decide := true) only [EVs, EVt, Array.toList, argsOf, frz] <;> exact rfl) (by first | exact sp_begun10) rfl ?_ | refine WL.f rfl rfl rfl (by simp (decide := true) only [EVs, EVt, Array.toList] <;> exact rfl) (by simp (decide := true) only [EVs, EVt, Array.toList, calleeOf] <;> exact rfl) (by simp (decide := true) only [EVs, EVt, Array.toList, argsOf, frz] <;> exact rfl) (by first | exact sp_begun10) ?_ | refine WL.one (by simp (decide := true) only [EVs, EVt, Array.toList] <;> exact rfl) ?_)); refine WL.nil ?_
  refine AWp.cond (t := false) rfl (AWp.skip ?_)
  refine AWp.seq (AWp.regionW T_ok rfl (WL.all (by simp (decide := true) only [EVs, EVt, Array.toList] <;> exact rfl) ?_))
  refine AWp.seq (AWp.regionW T_ok rfl (WL.all (by simp (decide := true) only [EVs, EVt, Array.toList] <;> exact rfl) ?_))
  refine AWp.seq (AWp.regionW T_ok rfl ?_)
  simp only [List.append_eq, List.cons_append, List.nil_append]
  (repeat (first | refine WL.c rfl rfl rfl (by simp (decide := true) only [EVs, EVt, Array.toList, q0, q5, q6] <;> exact rfl) (by simp (decide := true) only [EVs, EVt, Array.toList, calleeOf, q0, q5, q6] <;> exact rfl) (by simp (decide := true) only [EVs, EVt, Array.toList, argsOf, frz, q0, q5, q6] <;> exact rfl) (by first | exact ACall.wkl f1 (.cons (wkN [] [] [3] _ _ _ _ _ _ (.inr rfl) (.inr rfl) (.inl rfl)) (.cons (wkN [3] [] [] _ _ _ _ _ _ (.inl rfl) (.inr rfl) (.inr rfl)) .nil)) | exact ACall.wkl f2 (.cons (wkN [] [] [3] _ _ _ _ _ _ (.inr rfl) (.inr rfl) (.inl rfl)) (.cons (wkN [] [3] [] _ _ _ _ _ _ (.inr rfl) (.inl rfl) (.inr rfl)) .nil)) | exact ACall.wkl f3 (.cons (wkN [] [] [] _ _ _ _ _ _ (.inr rfl) (.inr rfl) (.inr rfl)) (.cons (wkN [] [3] [] _ _ _ _ _ _ (.inr rfl) (.inl rfl) (.inr rfl)) .nil)) | exact ACall.wkl f4 (.cons (wkN [] [] [] _ _ _ _ _ _ (.inr rfl) (.inr rfl) (.inr rfl)) (.cons (wkN [] [3] [] _ _ _ _ _ _ (.inr rfl) (.inl rfl) (.inr rfl)) .nil)) | exact ACall.wkl f5 (.cons (wkN [] [3] [] _ _ _ _ _ _ (.inr rfl) (.inl rfl) (.inr rfl)) (.cons (wkN [] [] [] _ _ _ _ _ _ (.inr rfl) (.inr rfl) (.inr rfl)) .nil)) | exact ACall.wkl f6 (.cons (wkN [] [3] [] _ _ _ _ _ _ (.inr rfl) (.inl rfl) (.inr rfl)) (.cons (wkN [] [] [] _ _ _ _ _ _ (.inr rfl) (.inr rfl) (.inr rfl)) .nil)) | exact ACall.wkl f7 (.cons (wkN [] [] [] _ _ _ _ _ _ (.inr rfl) (.inr rfl) (.inr rfl)) (.cons (wkN [] [] [3] _ _ _ _ _ _ (.inr rfl) (.inr rfl) (.inl rfl)) .nil)) | exact ACall.wkl f8 (.cons (wkN [] [] [3] _ _ _ _ _ _ (.inr rfl) (.inr rfl) (.inl rfl)) (.cons (wkN [] [] [3] _ _ _ _ _ _ (.inr rfl) (.inr rfl) (.inl rfl)) .nil)) | exact ACall.wkl f9 (.cons (wkN [] [] [3] _ _ _ _ _ _ (.inr rfl) (.inr rfl) (.inl rfl)) (.cons (wkN [] [3] [] _ _ _ _ _ _ (.inr rfl) (.inl rfl) (.inr rfl)) .nil)) | exact ACall.wkl f10 (.cons (wkN [3] [] [] _ _ _ _ _ _ (.inl rfl) (.inr rfl) (.inr rfl)) (.cons (wkN [] [3] [] _ _ _ _ _ _ (.inr rfl) (.inl rfl) (.inr rfl)) .nil)) | exact ACall.wkl f11 (.cons (wkN [3] [] [] _ _ _ _ _ _ (.inl rfl) (.inr rfl) (.inr rfl)) (.cons (wkN [] [] [] _ _ _ _ _ _ (.inr rfl) (.inr rfl) (.inr rfl)) .nil)) | exact ACall.wkl f12 (.cons (wkN [] [3] [] _ _ _ _ _ _ (.inr rfl) (.inl rfl) (.inr rfl)) (.cons (wkN [3] [] [] _ _ _ _ _ _ (.inl rfl) (.inr rfl) (.inr rfl)) .nil)) | exact ACall.wkl f13 (.cons (wkN [] [] [3] _ _ _ _ _ _ (.inr rfl) (.inr rfl) (.inl rfl)) (.cons (wkN [] [] [3] _ _ _ _ _ _ (.inr rfl) (.inr rfl) (.inl rfl)) .nil)) | exact ACall.wkl f14 (.cons (wkN [] [] [] _ _ _ _ _ _ (.inr rfl) (.inr rfl) (.inr rfl)) (.cons (wkN [] [3] [] _ _ _ _ _ _ (.inr rfl) (.inl rfl) (.inr rfl)) .nil)) | exact ACall.wkl f15 (.cons (wkN [] [] [3] _ _ _ _ _ _ (.inr rfl) (.inr rfl) (.inl rfl)) (.cons (wkN [] [3] [] _ _ _ _ _ _ (.inr rfl) (.inl rfl) (.inr rfl)) .nil)) | exact ACall.wkl f16 (.cons (wkN [3] [] [] _ _ _ _ _ _ (.inl rfl) (.inr rfl) (.inr rfl)) (.cons (wkN [3] [] [] _ _ _ _ _ _ (.inl rfl) (.inr rfl) (.inr rfl)) .nil))) rfl ?_ | refine WL.f rfl rfl rfl (by simp (decide := true) only [EVs, EVt, Array.toList, q0, q5, q6] <;> exact rfl) (by simp (decide := true) only [EVs, EVt, Array.toList, calleeOf, q0, q5, q6] <;> exact rfl) (by simp (decide := true) only [EVs, EVt, Array.toList, argsOf, frz, q0, q5, q6] <;> exact rfl) (by first | exact ACall.wkl f1 (.cons (wkN [] [] [3] _ _ _ _ _ _ (.inr rfl) (.inr rfl) (.inl rfl)) (.cons (wkN [3] [] [] _ _ _ _ _ _ (.inl rfl) (.inr rfl) (.inr rfl)) .nil)) | exact ACall.wkl f2 (.cons (wkN [] [] [3] _ _ _ _ _ _ (.inr rfl) (.inr rfl) (.inl rfl)) (.cons (wkN [] [3] [] _ _ _ _ _ _ (.inr rfl) (.inl rfl) (.inr rfl)) .nil)) | exact ACall.wkl f3 (.cons (wkN [] [] [] _ _ _ _ _ _ (.inr rfl) (.inr rfl) (.inr rfl)) (.cons (wkN [] [3] [] _ _ _ _ _ _ (.inr rfl) (.inl rfl) (.inr rfl)) .nil)) | exact ACall.wkl f4 (.cons (wkN [] [] [] _ _ _ _ _ _ (.inr rfl) (.inr rfl) (.inr rfl)) (.cons (wkN [] [3] [] _ _ _ _ _ _ (.inr rfl) (.inl rfl) (.inr rfl)) .nil)) | exact ACall.wkl f5 (.cons (wkN [] [3] [] _ _ _ _ _ _ (.inr rfl) (.inl rfl) (.inr rfl)) (.cons (wkN [] [] [] _ _ _ _ _ _ (.inr rfl) (.inr rfl) (.inr rfl)) .nil)) | exact ACall.wkl f6 (.cons (wkN [] [3] [] _ _ _ _ _ _ (.inr rfl) (.inl rfl) (.inr rfl)) (.cons (wkN [] [] [] _ _ _ _ _ _ (.inr rfl) (.inr rfl) (.inr rfl)) .nil)) | exact ACall.wkl f7 (.cons (wkN [] [] [] _ _ _ _ _ _ (.inr rfl) (.inr rfl) (.inr rfl)) (.cons (wkN [] [] [3] _ _ _ _ _ _ (.inr rfl) (.inr rfl) (.inl rfl)) .nil)) | exact ACall.wkl f8 (.cons (wkN [] [] [3] _ _ _ _ _ _ (.inr rfl) (.inr rfl) (.inl rfl)) (.cons (wkN [] [] [3] _ _ _ _ _ _ (.inr rfl) (.inr rfl) (.inl rfl)) .nil)) | exact ACall.wkl f9 (.cons (wkN [] [] [3] _ _ _ _ _ _ (.inr rfl) (.inr rfl) (.inl rfl)) (.cons (wkN [] [3] [] _ _ _ _ _ _ (.inr rfl) (.inl rfl) (.inr rfl)) .nil)) | exact ACall.wkl f10 (.cons (wkN [3] [] [] _ _ _ _ _ _ (.inl rfl) (.inr rfl) (.inr rfl)) (.cons (wkN [] [3] [] _ _ _ _ _ _ (.inr rfl) (.inl rfl) (.inr rfl)) .nil)) | exact ACall.wkl f11 (.cons (wkN [3] [] [] _ _ _ _ _ _ (.inl rfl) (.inr rfl) (.inr rfl)) (.cons (wkN [] [] [] _ _ _ _ _ _ (.inr rfl) (.inr rfl) (.inr rfl)) .nil)) | exact ACall.wkl f12 (.cons (wkN [] [3] [] _ _ _ _ _ _ (.inr rfl) (.inl rfl) (.inr rfl)) (.cons (wkN [3] [] [] _ _ _ _ _ _ (.inl rfl) (.inr rfl) (.inr rfl)) .nil)) | exact ACall.wkl f13 (.cons (wkN [] [] [3] _ _ _ _ _ _ (.inr rfl) (.inr rfl) (.inl rfl)) (.cons (wkN [] [] [3] _ _ _ _ _ _ (.inr rfl) (.inr rfl) (.inl rfl)) .nil)) | exact ACall.wkl f14 (.cons (wkN [] [] [] _ _ _ _ _ _ (.inr rfl) (.inr rfl) (.inr rfl)) (.cons (wkN [] [3] [] _ _ _ _ _ _ (.inr rfl) (.inl rfl) (.inr rfl)) .nil)) | exact ACall.wkl f15 (.cons (wkN [] [] [3] _ _ _ _ _ _ (.inr rfl) (.inr rfl) (.inl rfl)) (.cons (wkN [] [3] [] _ _ _ _ _ _ (.inr rfl) (.inl rfl) (.inr rfl)) .nil)) | exact ACall.wkl f16 (.cons (wkN [3] [] [] _ _ _ _ _ _ (.inl rfl) (.inr rfl) (.inr rfl)) (.cons (wkN [3] [] [] _ _ _ _ _ _ (.inl rfl) (.inr rfl) (.inr rfl)) .nil))) ?_ | refine WL.one (by simp (decide := true) only [EVs, EVt, Array.toList, q0, q5, q6] <;> exact rfl) ?_)); refine WL.nil ?_
  exact AWp.ret ⟨_, rfl, .inl (.refl _)⟩
end Go.Proofs.Ytfgndnackofenaa.E
