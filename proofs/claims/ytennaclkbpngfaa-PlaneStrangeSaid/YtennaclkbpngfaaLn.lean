/-
  The walks of plane's statements: PlaneLattice, PlaneLine. Conditions: levels are bytes.
-/
import Derived.Test.YtennaclkbpngfaaWk
import Derived.Deep.LoopGhost
import Derived.OpenShut
namespace Go.Proofs.Ytennaclkbpngfaa.Pl
open Go.RowKit

@[go_sem] theorem eqGuard_at_pt {op : BinOp} {t : TypeId} {x y : Operand} {v : Value} (p : Int) : eqGuard op t x y (PT p) v = pure () := by cases op <;> rfl

theorem eql_pt {p q : Int} (p0 : 0 ≤ p) (p5 : p ≤ 5) (q0 : 0 ≤ q) (q5 : q ≤ 5) (w : World) : (binOp .eql 23 (PT p) (PT q)).run Try.prog w = .ok (.bool (p == q)) w := by
  unfold PT
  rw [run_eql_complex, (show FloatKind.format .f64 = FloatKind.f64.format from rfl), (two p0 p5 q0 q5).eq]
theorem neq_pt {p q : Int} (p0 : 0 ≤ p) (p5 : p ≤ 5) (q0 : 0 ≤ q) (q5 : q ≤ 5) (w : World) : (binOp .neq 23 (PT p) (PT q)).run Try.prog w = .ok (.bool (!(p == q))) w := by
  unfold PT
  rw [run_neq_complex, (show FloatKind.format .f64 = FloatKind.f64.format from rfl), (two p0 p5 q0 q5).eq]

def mx (a b : Int) : Int := if a < b then b else a
def mn (a b : Int) : Int := if b < a then b else a
theorem join_mx {a b : Int} (a0 : 0 ≤ a) (a5 : a ≤ 5) (b0 : 0 ≤ b) (b5 : b ≤ 5) (w : World) :
    Calls Try.prog 12 #[PT a, PT b] w fun e w' => e = .returned (PT (mx a b)) ∧ w = w' := join_pt a0 a5 b0 b5 w
theorem meet_mn {a b : Int} (a0 : 0 ≤ a) (a5 : a ≤ 5) (b0 : 0 ≤ b) (b5 : b ≤ 5) (w : World) :
    Calls Try.prog 14 #[PT a, PT b] w fun e w' => e = .returned (PT (mn a b)) ∧ w = w' := meet_pt a0 a5 b0 b5 w
theorem mx_le {a b : Int} (a0 : 0 ≤ a) (a5 : a ≤ 5) (b0 : 0 ≤ b) (b5 : b ≤ 5) : 0 ≤ mx a b ∧ mx a b ≤ 5 := by unfold mx; split <;> omega
theorem mn_le {a b : Int} (a0 : 0 ≤ a) (a5 : a ≤ 5) (b0 : 0 ≤ b) (b5 : b ≤ 5) : 0 ≤ mn a b ∧ mn a b ≤ 5 := by unfold mn; split <;> omega

set_option maxRecDepth 100000 in
set_option maxHeartbeats 4000000 in
theorem lattice6 (a b c : Int) (x y z : Int) (ex : a % 6 = x) (ey : b % 6 = y) (ez : c % 6 = z) (ha : 0 ≤ a) (ha' : a ≤ 255) (hb : 0 ≤ b) (hb' : b ≤ 255) (hc : 0 ≤ c) (hc' : c ≤ 255)
    (x0 : 0 ≤ x) (x5 : x ≤ 5) (y0 : 0 ≤ y) (y5 : y ≤ 5) (z0 : 0 ≤ z) (z5 : z ≤ 5) (w : World) :
    Calls Try.prog 4 #[.int .u8 a, .int .u8 b, .int .u8 c] w fun e w' => e = .returned (.bool true) ∧ Below w.heap.size w w' := by
  have jxy := mx_le x0 x5 y0 y5
  have mxy := mn_le x0 x5 y0 y5
  have jyz := mx_le y0 y5 z0 z5
  have e1 := eql_pt jxy.1 jxy.2 (mx_le y0 y5 x0 x5).1 (mx_le y0 y5 x0 x5).2
  have e2 := eql_pt mxy.1 mxy.2 (mn_le y0 y5 x0 x5).1 (mn_le y0 y5 x0 x5).2
  have e3 := eql_pt (mx_le x0 x5 mxy.1 mxy.2).1 (mx_le x0 x5 mxy.1 mxy.2).2 x0 x5
  have e4 := eql_pt (mn_le x0 x5 jxy.1 jxy.2).1 (mn_le x0 x5 jxy.1 jxy.2).2 x0 x5
  have e5 := eql_pt (mx_le jxy.1 jxy.2 z0 z5).1 (mx_le jxy.1 jxy.2 z0 z5).2 (mx_le x0 x5 jyz.1 jyz.2).1 (mx_le x0 x5 jyz.1 jyz.2).2
  have e6 := eql_pt jxy.1 jxy.2 y0 y5
  have g1 : (mx x y == mx y x) = true := by simp only [beq_iff_eq]; unfold mx; split <;> split <;> omega
  have g2 : (mn x y == mn y x) = true := by simp only [beq_iff_eq]; unfold mn; split <;> split <;> omega
  have g3 : (mx x (mn x y) == x) = true := by simp only [beq_iff_eq]; unfold mx mn; split <;> split <;> omega
  have g4 : (mn x (mx x y) == x) = true := by simp only [beq_iff_eq]; unfold mx mn; split <;> split <;> omega
  have g5 : (mx (mx x y) z == mx x (mx y z)) = true := by simp only [beq_iff_eq]; unfold mx; (repeat' split) <;> omega
  have f1 : decide (x ≤ mx x y) = true := by simp only [decide_eq_true_eq]; unfold mx; split <;> omega
  have f2 : decide (mn x y ≤ x) = true := by simp only [decide_eq_true_eq]; unfold mn; split <;> omega
  rw [g1] at e1
  rw [g2] at e2
  rw [g3] at e3
  rw [g4] at e4
  rw [g5] at e5
  have hcase : (decide (x ≤ y) = true ∧ (mx x y == y) = true) ∨ (decide (x ≤ y) = false ∧ decide (y ≤ x) = true ∧ (mx x y == y) = false) := by
    by_cases h : x ≤ y
    · refine .inl ⟨by simpa using h, ?_⟩
      simp only [beq_iff_eq]; unfold mx; split <;> omega
    · refine .inr ⟨by simpa using h, by simp; omega, ?_⟩
      simp only [beq_eq_false_iff_ne, ne_eq]; unfold mx; split <;> omega
  clear g1 g2 g3 g4 g5
  go_enter Try.func4, Try.ntmps4
  go_wp2_with fail
  refine (begun_yes _).mono ?_
  rintro e w1 ⟨rfl, hb1⟩
  go_wp2_with fail
  rw [ex]
  refine (point_any x x0 (by omega) _).mono ?_
  rintro e w2 ⟨rfl, hb2⟩
  go_wp2_with fail
  rw [ey]
  refine (point_any y y0 (by omega) _).mono ?_
  rintro e w3 ⟨rfl, hb3⟩
  go_wp2_with fail
  rw [ez]
  refine (point_any z z0 (by omega) _).mono ?_
  rintro e w4 ⟨rfl, hb4⟩
  have hbb := bth (bth (bth hb1 hb2) hb3) hb4
  clear ex ey ez hb1 hb2 hb3 hb4
  go_wp2_with fail
  refine (join_mx x0 x5 y0 y5 _).mono ?_
  rintro e w5 ⟨rfl, rfl⟩
  go_wp2_with fail
  refine (meet_mn x0 x5 y0 y5 _).mono ?_
  rintro e w5 ⟨rfl, rfl⟩
  go_wp2_with fail
  refine (join_mx y0 y5 x0 x5 _).mono ?_
  rintro e w5 ⟨rfl, rfl⟩
  go_wp2_with fail
  refine (meet_mn y0 y5 x0 x5 _).mono ?_
  rintro e w5 ⟨rfl, rfl⟩
  go_wp2_with fail
  refine (join_mx x0 x5 mxy.1 mxy.2 _).mono ?_
  rintro e w5 ⟨rfl, rfl⟩
  go_wp2_with fail
  refine (meet_mn x0 x5 jxy.1 jxy.2 _).mono ?_
  rintro e w5 ⟨rfl, rfl⟩
  go_wp2_with fail
  refine (flows_pt x0 x5 jxy.1 jxy.2 _).mono ?_
  rintro e w5 ⟨rfl, rfl⟩
  go_wp2_with fail
  refine (flows_pt mxy.1 mxy.2 x0 x5 _).mono ?_
  rintro e w5 ⟨rfl, rfl⟩
  go_wp2_with fail
  refine (join_mx x0 x5 y0 y5 _).mono ?_
  rintro e w5 ⟨rfl, rfl⟩
  go_wp2_with fail
  refine (join_mx jxy.1 jxy.2 z0 z5 _).mono ?_
  rintro e w5 ⟨rfl, rfl⟩
  go_wp2_with fail
  refine (join_mx y0 y5 z0 z5 _).mono ?_
  rintro e w5 ⟨rfl, rfl⟩
  go_wp2_with fail
  refine (join_mx x0 x5 jyz.1 jyz.2 _).mono ?_
  rintro e w5 ⟨rfl, rfl⟩
  go_wp2_with fail
  refine (flows_pt x0 x5 y0 y5 _).mono ?_
  rintro e w5 ⟨rfl, rfl⟩
  rcases hcase with ⟨c1, c2⟩ | ⟨c1, c2, c3⟩
  · go_wp2_with fail
    refine (flows_pt x0 x5 y0 y5 _).mono ?_
    rintro e w5 ⟨rfl, rfl⟩
    go_wp2
    go_ret
    exact ⟨rfl, hbb⟩
  · go_wp2_with fail
    refine (flows_pt y0 y5 x0 x5 _).mono ?_
    rintro e w5 ⟨rfl, rfl⟩
    go_wp2_with fail
    refine (flows_pt x0 x5 y0 y5 _).mono ?_
    rintro e w5 ⟨rfl, rfl⟩
    go_wp2
    go_ret
    exact ⟨rfl, hbb⟩

theorem lattice_walk (a b c : Int) (w : World) (wa : (Lit.int .u8 a).wf = true) (wb : (Lit.int .u8 b).wf = true) (wc : (Lit.int .u8 c).wf = true) :
    Calls Try.prog 4 #[.int .u8 a, .int .u8 b, .int .u8 c] w fun e w' => e = .returned (.bool true) ∧ Below w.heap.size w w' := by
  have ha := bounds_u8 wa
  have hb := bounds_u8 wb
  have hc := bounds_u8 wc
  exact lattice6 a b c _ _ _ rfl rfl rfl ha.1 ha.2 hb.1 hb.2 hc.1 hc.2 (by omega) (by omega) (by omega) (by omega) (by omega) (by omega) w

end Go.Proofs.Ytennaclkbpngfaa.Pl
