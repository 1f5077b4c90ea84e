/-
  The greater and the lesser of two levels, of two labels (packages plane, level, label), walked in abstract values. Conditions: levels are 0 to 5; lengths.
-/
import Derived.Test.YtopdgmjmpmkamaaEWMrg
namespace Go.Proofs.Ytopdgmjmpmkamaa.E
open Go Go.RowKit Go.Proofs.YtopdgmjmpmkamaaW.E
set_option linter.unusedVariables false
set_option linter.unusedSimpArgs false
set_option maxRecDepth 100000
set_option maxHeartbeats 4000000

def mx (a b : Int) : Int := if a < b then b else a
def mn (a b : Int) : Int := if b < a then b else a
theorem mx_in {a b : Int} (a0 : 0 ≤ a) (a5 : a ≤ 5) (b0 : 0 ≤ b) (b5 : b ≤ 5) : 0 ≤ mx a b ∧ mx a b ≤ 5 := by unfold mx; split <;> omega
theorem mn_in {a b : Int} (a0 : 0 ≤ a) (a5 : a ≤ 5) (b0 : 0 ≤ b) (b5 : b ≤ 5) : 0 ≤ mn a b ∧ mn a b ≤ 5 := by unfold mn; split <;> omega
theorem oq_eq {a b : Int} (a0 : 0 ≤ a) (a5 : a ≤ 5) (b0 : 0 ≤ b) (b5 : b ≤ 5) : oq (pRe a) (pIm a) (pRe b) (pIm b) = decide (a = b) := by
  rcases lev6 a0 a5 with rfl | rfl | rfl | rfl | rfl | rfl <;> rcases lev6 b0 b5 with rfl | rfl | rfl | rfl | rfl | rfl <;> decide +kernel

theorem eqc (x y : Operand) (a b c d : Nat) : abin Try.prog .eql 51 x y (.complex .f64 a b) (.complex .f64 c d) = some (.bool (oq a b c d)) := by
  unfold oq
  rfl
@[reducible] def pts : AV := .list 1 [cpx (pRe 0) (pIm 0), cpx (pRe 1) (pIm 1), cpx (pRe 2) (pIm 2), cpx (pRe 3) (pIm 3), cpx (pRe 4) (pIm 4), cpx (pRe 5) (pIm 5)] .no
theorem sp_POf (v : Int) (h0 : 0 ≤ v) (h5 : v ≤ 5) : ACall Try.prog 84 [cpx (pRe v) (pIm v)] (.tup [u8 v, i64 0]) := by
  refine acall_of Try.func84 rfl rfl (Nat.le_of_ble_eq_true rfl) T_ok (fun base w0 => ?_)
  refine AWp.seq (AWp.regionW T_ok rfl (WL.all (by simp (decide := true) only [EVs, EVt, Array.toList] <;> exact rfl) ?_))
  refine AWp.seq (AWp.seq (AWp.regionW T_ok rfl ?_))
  (repeat (first | refine WL.c rfl rfl rfl (by simp (decide := true) only [EVs, EVt, Array.toList] <;> exact rfl) (by simp (decide := true) only [EVs, EVt, Array.toList, calleeOf] <;> exact rfl) (by simp (decide := true) only [EVs, EVt, Array.toList, argsOf, frz] <;> exact rfl) (by first | exact sp_points) rfl ?_ | refine WL.f rfl rfl rfl (by simp (decide := true) only [EVs, EVt, Array.toList] <;> exact rfl) (by simp (decide := true) only [EVs, EVt, Array.toList, calleeOf] <;> exact rfl) (by simp (decide := true) only [EVs, EVt, Array.toList, argsOf, frz] <;> exact rfl) (by first | exact sp_points) ?_ | refine WL.one (by simp (decide := true) only [EVs, EVt, Array.toList] <;> exact rfl) ?_)); refine WL.nil ?_
  refine AWp.block (AWp.loop (fun n st => ∃ (j : Nat) (s : Nat → AV) (B : Nat → Nat × List AV) (L : Nat → Nat), st = ⟨19, 0, s, B, L⟩ ∧ n = 6 - j ∧ (j : Int) ≤ v ∧ s 0 = cpx (pRe v) (pIm v) ∧ s 6 = pts ∧ s 7 = i64 ((6 : Nat) : Int) ∧ s 8 = i64 j) ?_ (n := 6) ⟨0, _, _, _, rfl, rfl, h0, rfl, rfl, rfl, rfl⟩)
  rintro n st ⟨j, s, B, L, rfl, rfl, hj, s0, s6, s7, s8⟩
  have e1 : ltI (j : Int) ((6 : Nat) : Int) = true := ltI_t (by omega)
  have e2 : ([cpx (pRe 0) (pIm 0), cpx (pRe 1) (pIm 1), cpx (pRe 2) (pIm 2), cpx (pRe 3) (pIm 3), cpx (pRe 4) (pIm 4), cpx (pRe 5) (pIm 5)] : List AV)[j]? = some (cpx (pRe (j : Int)) (pIm (j : Int))) := by
    have : j = 0 ∨ j = 1 ∨ j = 2 ∨ j = 3 ∨ j = 4 ∨ j = 5 := by omega
    rcases this with rfl | rfl | rfl | rfl | rfl | rfl <;> rfl
  have e3 : IntKind.u8.wrap (j : Int) = (j : Int) := IntWalk.u8_in _ (by omega)
  have e7 := wup j (by omega)
  have e4 := oq_eq (a := (j : Int)) (b := v) (by omega) (by omega) h0 h5
  refine AWp.seq (AWp.regionW T_ok rfl (WL.all (by simp (decide := true) only [EVs, EVt, Array.toList, s7, s8, e1] <;> exact rfl) ?_))
  refine AWp.seq (AWp.cond (t := true) rfl (AWp.skip ?_))
  by_cases hv : (j : Int) = v
  · rw [decide_eq_true hv] at e4
    refine AWp.seq (AWp.block (AWp.seq (AWp.regionW T_ok rfl (WL.all (by simp (decide := true) only [EVs, EVt, Array.toList, s6, s8, e2] <;> exact rfl) ?_))))
    refine AWp.seq (AWp.regionW T_ok rfl (WL.all (by simp (decide := true) only [EVs, EVt, Array.toList, s0, eqc, e4] <;> exact rfl) ?_))
    refine AWp.cond (t := true) rfl (AWp.seq (AWp.regionW T_ok rfl (WL.all (by simp (decide := true) only [EVs, EVt, Array.toList, e3, mapM_2] <;> exact rfl) ?_)))
    rw [← hv]
    exact AWp.ret ⟨_, rfl, .inl (.refl _)⟩
  · rw [decide_eq_false hv] at e4
    refine AWp.seq (AWp.block (AWp.seq (AWp.regionW T_ok rfl (WL.all (by simp (decide := true) only [EVs, EVt, Array.toList, s6, s8, e2] <;> exact rfl) ?_))))
    refine AWp.seq (AWp.regionW T_ok rfl (WL.all (by simp (decide := true) only [EVs, EVt, Array.toList, s0, eqc, e4] <;> exact rfl) ?_))
    refine AWp.cond (t := false) rfl (AWp.skip ?_)
    refine (AWp.regionW T_ok rfl (WL.all (by simp (decide := true) only [EVs, EVt, Array.toList, s8, e7] <;> exact rfl) ?_))
    refine ⟨6 - (j + 1), by omega, j + 1, _, _, _, rfl, rfl, by omega, ?_, ?_, ?_, ?_⟩
    · simp (decide := true) only [EVs, EVt, Array.toList, s0]
    · simp (decide := true) only [EVs, EVt, Array.toList, s6]
    · simp (decide := true) only [EVs, EVt, Array.toList, s7]
    · simp (decide := true) only [EVs, EVt, Array.toList]
theorem sp_Lof (v : Int) (h0 : 0 ≤ v) (h5 : v ≤ 5) : ACall Try.prog 74 [cpx (pRe v) (pIm v)] (u8 v) := by
  refine acall_of Try.func74 rfl rfl (Nat.le_of_ble_eq_true rfl) T_ok (fun base w0 => ?_)
  refine AWp.seq (AWp.regionW T_ok rfl (WL.all (by simp (decide := true) only [EVs, EVt, Array.toList] <;> exact rfl) ?_))
  refine AWp.seq (AWp.regionW T_ok rfl ?_)
  (repeat (first | refine WL.c rfl rfl rfl (by simp (decide := true) only [EVs, EVt, Array.toList] <;> exact rfl) (by simp (decide := true) only [EVs, EVt, Array.toList, calleeOf] <;> exact rfl) (by simp (decide := true) only [EVs, EVt, Array.toList, argsOf, frz] <;> exact rfl) (by first | exact sp_POf v h0 h5) rfl ?_ | refine WL.f rfl rfl rfl (by simp (decide := true) only [EVs, EVt, Array.toList] <;> exact rfl) (by simp (decide := true) only [EVs, EVt, Array.toList, calleeOf] <;> exact rfl) (by simp (decide := true) only [EVs, EVt, Array.toList, argsOf, frz] <;> exact rfl) (by first | exact sp_POf v h0 h5) ?_ | refine WL.one (by simp (decide := true) only [EVs, EVt, Array.toList] <;> exact rfl) ?_)); refine WL.nil ?_
  refine AWp.seq (AWp.regionW T_ok rfl (WL.all (by simp (decide := true) only [EVs, EVt, Array.toList] <;> exact rfl) ?_))
  exact AWp.ret ⟨_, rfl, .inl (.refl _)⟩
theorem sp_PJoin (a b : Int) (a0 : 0 ≤ a) (a5 : a ≤ 5) (b0 : 0 ≤ b) (b5 : b ≤ 5) : ACall Try.prog 75 [cpx (pRe a) (pIm a), cpx (pRe b) (pIm b)] (cpx (pRe (mx a b)) (pIm (mx a b))) := by
  have h := two a0 a5 b0 b5
  have m1 := fun ts t cs => ab_max (P := Try.prog) ts t cs (pRe a) (pRe b) h.re
  have m2 := fun ts t cs => ab_min (P := Try.prog) ts t cs (pIm a) (pIm b) h.im
  rw [h.jr] at m1
  rw [h.ji] at m2
  refine acall_of Try.func75 rfl rfl (Nat.le_of_ble_eq_true rfl) T_ok (fun base w0 => ?_)
  refine AWp.seq (AWp.regionW T_ok rfl (WL.all (by simp (decide := true) only [EVs, EVt, Array.toList] <;> exact rfl) ?_))
  refine AWp.seq (AWp.regionW T_ok rfl (WL.all (by simp (decide := true) only [EVs, EVt, Array.toList, mapM_1, mapM_2, ab_real, ab_imag, ab_complex, m1, m2] <;> exact rfl) ?_))
  exact AWp.ret ⟨_, rfl, .inl (.refl _)⟩
theorem sp_LvMax (a b : Int) (a0 : 0 ≤ a) (a5 : a ≤ 5) (b0 : 0 ≤ b) (b5 : b ≤ 5) : ACall Try.prog 50 [u8 a, u8 b] (u8 (mx a b)) := by
  have h := mx_in a0 a5 b0 b5
  refine acall_of Try.func50 rfl rfl (Nat.le_of_ble_eq_true rfl) T_ok (fun base w0 => ?_)
  refine AWp.seq (AWp.regionW T_ok rfl (WL.all (by simp (decide := true) only [EVs, EVt, Array.toList] <;> exact rfl) ?_))
  refine AWp.seq (AWp.regionW T_ok rfl ?_)
  (repeat (first | refine WL.c rfl rfl rfl (by simp (decide := true) only [EVs, EVt, Array.toList] <;> exact rfl) (by simp (decide := true) only [EVs, EVt, Array.toList, calleeOf] <;> exact rfl) (by simp (decide := true) only [EVs, EVt, Array.toList, argsOf, frz] <;> exact rfl) (by first | exact sp_Point a a0 a5 | exact sp_Point b b0 b5 | exact sp_PJoin a b a0 a5 b0 b5 | exact sp_Lof _ h.1 h.2) rfl ?_ | refine WL.f rfl rfl rfl (by simp (decide := true) only [EVs, EVt, Array.toList] <;> exact rfl) (by simp (decide := true) only [EVs, EVt, Array.toList, calleeOf] <;> exact rfl) (by simp (decide := true) only [EVs, EVt, Array.toList, argsOf, frz] <;> exact rfl) (by first | exact sp_Point a a0 a5 | exact sp_Point b b0 b5 | exact sp_PJoin a b a0 a5 b0 b5 | exact sp_Lof _ h.1 h.2) ?_ | refine WL.one (by simp (decide := true) only [EVs, EVt, Array.toList] <;> exact rfl) ?_)); refine WL.nil ?_
  exact AWp.ret ⟨_, rfl, .inl (.refl _)⟩
end Go.Proofs.Ytopdgmjmpmkamaa.E
