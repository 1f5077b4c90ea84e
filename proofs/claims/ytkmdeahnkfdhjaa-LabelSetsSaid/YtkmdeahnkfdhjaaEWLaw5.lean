/-
  The statements of layer 5 about two labels, walked in abstract values. Conditions: lengths, bytes.
-/
import Derived.Test.YtkmdeahnkfdhjaaEWL5a
import Derived.Test.YtkmdeahnkfdhjaaEM9
namespace Go.Proofs.Ytkmdeahnkfdhjaa.E
open Go Go.RowKit Go.Proofs.YtkmdeahnkfdhjaaW.E
set_option linter.unusedVariables false
set_option linter.unusedSimpArgs false
set_option maxRecDepth 100000
set_option maxHeartbeats 8000000

theorem same_self (d : Int) (l : List Pr) : sameL d l d l = true := by simp [sameL]
theorem wfP_cat {l : List Pr} (h : ∀ p ∈ l, wfP p) : ∀ p ∈ l, 0 ≤ p.c ∧ p.c < 65536 := fun p hp => ⟨(h p hp).1, (h p hp).2.1⟩
theorem lv5 {l : List Pr} {d : Int} (h : ∀ p ∈ l, wfP p) (k : ∀ p ∈ l, p.l ≤ 5 ∧ p.l ≠ d) : ∀ p ∈ l, 0 ≤ p.l ∧ p.l ≤ 5 := fun p hp => ⟨(h p hp).2.2.1, (k p hp).1⟩

theorem sp_LabelAll (d : Int) (l : List Pr) (e : Int) (m : List Pr) (hd : isB d) (hl : l.length ≤ 35184372087808) (hw : ∀ p ∈ l, wfP p) (he : isB e) (hm : m.length ≤ 35184372087808) (hw' : ∀ p ∈ m, wfP p) : ACall Try.prog 9 [lab d l, lab e m] (bo true) := by
  refine acall_of Try.func9 rfl rfl (Nat.le_of_ble_eq_true rfl) T_ok (fun base w0 => ?_)
  refine AWp.seq (AWp.regionW T_ok rfl (WL.all (by simp (decide := true) only [EVs, EVt, Array.toList] <;> exact rfl) ?_))
  refine AWp.seq (AWp.seq (AWp.regionW T_ok rfl ?_))
  (repeat (first | refine WL.c rfl rfl rfl (by simp (decide := true) only [EVs, EVt, Array.toList] <;> exact rfl) (by simp (decide := true) only [EVs, EVt, Array.toList, calleeOf] <;> exact rfl) (by simp (decide := true) only [EVs, EVt, Array.toList, argsOf, frz] <;> exact rfl) (by first | exact sp_begun5) rfl ?_ | refine WL.f rfl rfl rfl (by simp (decide := true) only [EVs, EVt, Array.toList] <;> exact rfl) (by simp (decide := true) only [EVs, EVt, Array.toList, calleeOf] <;> exact rfl) (by simp (decide := true) only [EVs, EVt, Array.toList, argsOf, frz] <;> exact rfl) (by first | exact sp_begun5) ?_ | refine WL.one (by simp (decide := true) only [EVs, EVt, Array.toList] <;> exact rfl) ?_)); refine WL.nil ?_
  refine AWp.cond (t := false) rfl (AWp.skip ?_)
  have g1 := sp_Light d l (by omega)
  have g2 := sp_Light e m (by omega)
  cases h1 : lig d l with
  | false =>
    rw [h1] at g1
    refine AWp.seq (AWp.seq (AWp.regionW T_ok rfl ?_))
    (repeat (first | refine WL.c rfl rfl rfl (by simp (decide := true) only [EVs, EVt, Array.toList] <;> exact rfl) (by simp (decide := true) only [EVs, EVt, Array.toList, calleeOf] <;> exact rfl) (by simp (decide := true) only [EVs, EVt, Array.toList, argsOf, frz] <;> exact rfl) (by first | exact g1) rfl ?_ | refine WL.f rfl rfl rfl (by simp (decide := true) only [EVs, EVt, Array.toList] <;> exact rfl) (by simp (decide := true) only [EVs, EVt, Array.toList, calleeOf] <;> exact rfl) (by simp (decide := true) only [EVs, EVt, Array.toList, argsOf, frz] <;> exact rfl) (by first | exact g1) ?_ | refine WL.one (by simp (decide := true) only [EVs, EVt, Array.toList] <;> exact rfl) ?_)); refine WL.nil ?_
    refine AWp.cond (t := true) rfl (AWp.seq (AWp.regionW T_ok rfl (WL.all (by simp (decide := true) only [EVs, EVt, Array.toList] <;> exact rfl) ?_)))
    exact AWp.ret ⟨_, rfl, .inl (.refl _)⟩
  | true =>
    rw [h1] at g1
    cases h2 : lig e m with
    | false =>
      rw [h2] at g2
      refine AWp.seq (AWp.seq (AWp.regionW T_ok rfl ?_))
      (repeat (first | refine WL.c rfl rfl rfl (by simp (decide := true) only [EVs, EVt, Array.toList] <;> exact rfl) (by simp (decide := true) only [EVs, EVt, Array.toList, calleeOf] <;> exact rfl) (by simp (decide := true) only [EVs, EVt, Array.toList, argsOf, frz] <;> exact rfl) (by first | exact g1 | exact g2) rfl ?_ | refine WL.f rfl rfl rfl (by simp (decide := true) only [EVs, EVt, Array.toList] <;> exact rfl) (by simp (decide := true) only [EVs, EVt, Array.toList, calleeOf] <;> exact rfl) (by simp (decide := true) only [EVs, EVt, Array.toList, argsOf, frz] <;> exact rfl) (by first | exact g1 | exact g2) ?_ | refine WL.one (by simp (decide := true) only [EVs, EVt, Array.toList] <;> exact rfl) ?_)); refine WL.nil ?_
      refine AWp.cond (t := true) rfl (AWp.seq (AWp.regionW T_ok rfl (WL.all (by simp (decide := true) only [EVs, EVt, Array.toList] <;> exact rfl) ?_)))
      exact AWp.ret ⟨_, rfl, .inl (.refl _)⟩
    | true =>
      rw [h2] at g2
      refine AWp.seq (AWp.seq (AWp.regionW T_ok rfl ?_))
      (repeat (first | refine WL.c rfl rfl rfl (by simp (decide := true) only [EVs, EVt, Array.toList] <;> exact rfl) (by simp (decide := true) only [EVs, EVt, Array.toList, calleeOf] <;> exact rfl) (by simp (decide := true) only [EVs, EVt, Array.toList, argsOf, frz] <;> exact rfl) (by first | exact g1 | exact g2) rfl ?_ | refine WL.f rfl rfl rfl (by simp (decide := true) only [EVs, EVt, Array.toList] <;> exact rfl) (by simp (decide := true) only [EVs, EVt, Array.toList, calleeOf] <;> exact rfl) (by simp (decide := true) only [EVs, EVt, Array.toList, argsOf, frz] <;> exact rfl) (by first | exact g1 | exact g2) ?_ | refine WL.one (by simp (decide := true) only [EVs, EVt, Array.toList] <;> exact rfl) ?_)); refine WL.nil ?_
      refine AWp.cond (t := false) rfl (AWp.skip ?_)
      obtain ⟨l24, d5, al, ll⟩ := lig_spec h1
      obtain ⟨m24, e5, am, lm⟩ := lig_spec h2
      have ll' := lv5 hw ll
      have lm' := lv5 hw' lm
      have t1 := sp_LFlows d l e m (by omega) (by omega) hd.1 he.1 (fun p hp => (ll' p hp).1) (fun p hp => (lm' p hp).1)
      have t2 := sp_RFlows d l e m (by omega) (by omega)
      rw [flw_flwR al am] at t2
      have t3 := sp_LJoin d l e m (by omega) (by omega) ⟨hd.1, d5⟩ ⟨he.1, e5⟩ ll' lm'
      have t4 := sp_RJoin d l e m (by omega) (by omega) al am
      have jl := bthL_len (h := mx) (da := d) (db := e) (a := l) (b := m)
      have t5 := sp_RSame (mx d e) (bthL mx d l e m) (mx d e) (bthL mx d l e m) (by omega) (by omega)
      rw [same_self] at t5
      have t6 := sp_LMeet d l e m (by omega) (by omega) ⟨hd.1, d5⟩ ⟨he.1, e5⟩ ll' lm'
      have t7 := sp_RMeet d l e m (by omega) (by omega) al am
      have nl := bthL_len (h := mn) (da := d) (db := e) (a := l) (b := m)
      have t8 := sp_RSame (mn d e) (bthL mn d l e m) (mn d e) (bthL mn d l e m) (by omega) (by omega)
      rw [same_self] at t8
      have t9 := sp_LRise d l (by omega)
      have t10 := sp_RRiseAll d l (by omega)
      rw [risR_risL al] at t10
      have rl : (risL d l).length ≤ l.length + l.length := bthL_len
      have t11 := sp_RSame (rise d) (risL d l) (rise d) (risL d l) (by omega) (by omega)
      rw [same_self] at t11
      have t12 := sp_Stars d l (by omega)
      have t13 := sp_RLevels d l 0 (by omega)
      have vl := lvs_len l 0
      have t14 := sp_RSameSet (lvs l 0) (lvs l 0) (by omega) (by omega)
      rw [decide_eq_true rfl] at t14
      have t15 := sp_LSame d l e m (by omega) (by omega)
      have t16 := sp_RSame d l e m (by omega) (by omega)
      refine AWp.seq (AWp.regionW T_ok rfl (WL.all (by simp (decide := true) only [EVs, EVt, Array.toList] <;> exact rfl) ?_))
      refine AWp.seq (AWp.drawnW T_ok mixed (by kernel_rfl) rfl ?_)
      simp only [List.append_eq, List.cons_append, List.nil_append]
      (repeat (first | refine WL.c rfl rfl rfl (by simp (decide := true) only [EVs, EVt, Array.toList, eqI_self, beq_self_eq_true] <;> exact rfl) (by simp (decide := true) only [EVs, EVt, Array.toList, calleeOf, eqI_self, beq_self_eq_true] <;> exact rfl) (by simp (decide := true) only [EVs, EVt, Array.toList, argsOf, frz, eqI_self, beq_self_eq_true] <;> exact rfl) (by first | exact t1 | exact t2 | exact t3 | exact t4 | exact t5 | exact t6 | exact t7 | exact t8 | exact t9 | exact t10 | exact t11 | exact t12 | exact t13 | exact t14 | exact t15 | exact t16) rfl ?_ | refine WL.f rfl rfl rfl (by simp (decide := true) only [EVs, EVt, Array.toList, eqI_self, beq_self_eq_true] <;> exact rfl) (by simp (decide := true) only [EVs, EVt, Array.toList, calleeOf, eqI_self, beq_self_eq_true] <;> exact rfl) (by simp (decide := true) only [EVs, EVt, Array.toList, argsOf, frz, eqI_self, beq_self_eq_true] <;> exact rfl) (by first | exact t1 | exact t2 | exact t3 | exact t4 | exact t5 | exact t6 | exact t7 | exact t8 | exact t9 | exact t10 | exact t11 | exact t12 | exact t13 | exact t14 | exact t15 | exact t16) ?_ | refine WL.one (by simp (decide := true) only [EVs, EVt, Array.toList, eqI_self, beq_self_eq_true] <;> exact rfl) ?_)); refine WL.nil ?_
      exact AWp.ret ⟨_, rfl, .inl (.refl _)⟩
end Go.Proofs.Ytkmdeahnkfdhjaa.E
