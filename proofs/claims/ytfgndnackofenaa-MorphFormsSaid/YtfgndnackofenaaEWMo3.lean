/-
  The statements MorphAll, MorphForms of layer 27, walked in abstract values. Conditions: lengths, bytes.
-/
import Derived.Test.YtfgndnackofenaaEWMo2
namespace Go.Proofs.Ytfgndnackofenaa.E
open Go Go.RowKit Go.Proofs.YtfgndnackofenaaW.E
set_option linter.unusedVariables false
set_option linter.unusedSimpArgs false
set_option maxRecDepth 100000
set_option maxHeartbeats 8000000

theorem wfP_lv {l : List Pr} (h : ∀ p ∈ l, wfP p) : ∀ p ∈ l, 0 ≤ p.l := fun p hp => (h p hp).2.2.1
theorem wfP_cat {l : List Pr} (h : ∀ p ∈ l, wfP p) : ∀ p ∈ l, 0 ≤ p.c ∧ p.c < 65536 := fun p hp => ⟨(h p hp).1, (h p hp).2.1⟩
theorem sameL_self (d : Int) (l : List Pr) : sameL d l d l = true := by simp [sameL]
theorem same3_self (s i o : List Int) : same3 s i o s i o = true := by simp [same3, eqL]
/-- What is known of a label that may be. -/
structure LabK (d : Int) (l : List Pr) : Prop where
  len : l.length ≤ 16
  asc : ascP l
  lv : ∀ p ∈ l, 0 ≤ p.l ∧ p.l ≤ 5
  nam : nam d l = okS d l
theorem labK {d : Int} {l : List Pr} (h : mayL d l = true) (hw : ∀ p ∈ l, wfP p) : LabK d l := by
  obtain ⟨_, h1, h2, h3, h4, h5⟩ := mayL_spec h
  have h6 := wfP_lv hw
  exact ⟨h3, h4, fun p hp => ⟨h6 p hp, by have := (h5 p hp).1; omega⟩, nam_okS h h6⟩
/-- What is known of an object's parts, as they come. -/
structure ObW (b : Ob) : Prop where
  l : b.l.length ≤ 35184372087808
  lw : ∀ p ∈ b.l, wfP p
  s : b.s.length ≤ 70368744175616
  i : b.i.length ≤ 70368744175616
  o : b.o.length ≤ 70368744175616
  dat : b.dat.length ≤ 140737488351232
  cats : b.cats.length ≤ 70368744175616
  ring : b.ring.length ≤ 5864062014634
  rings : ∀ x ∈ b.ring, x.length ≤ 140737488351232
theorem moO_len (b : Ob) : (moO b).l.length = 0 ∧ (moO b).s.length ≤ b.l.length ∧ (moO b).i.length ≤ b.l.length ∧ (moO b).o.length ≤ b.l.length ∧ (moO b).cats.length ≤ b.cats.length ∧ (moO b).ring.length ≤ b.ring.length := by
  unfold moO
  split
  · exact ⟨rfl, lvs_len _ _, lvs_len _ _, lvs_len _ _, Nat.le_refl _, Nat.le_refl _⟩
  · simp
theorem moT_len (t : Th) : (moT t).l.length = 0 ∧ (moT t).s.length ≤ t.l.length ∧ (moT t).i.length ≤ t.l.length ∧ (moT t).o.length ≤ t.l.length := by
  unfold moT
  split
  · exact ⟨rfl, lvs_len _ _, lvs_len _ _, lvs_len _ _⟩
  · simp

theorem sp_SameO (b : Ob) (hl : b.l.length ≤ 140737488351232) (hs : b.s.length ≤ 4096) (hi : b.i.length ≤ 4096) (ho : b.o.length ≤ 4096) (hc : b.cats.length ≤ 70368744175616) (hr : b.ring.length ≤ 140737488351232) : ACall Try.prog 35 [obj b, obj b] (bo true) := by
  have f1 := sp_RSame b.d b.l b.d b.l hl hl
  have f2 := sp_SameSets8 b.s b.i b.o b.s b.i b.o hs hi ho hs hi ho
  have f3 := sp_SameSet b.cats b.cats (by omega) (by omega)
  have f4 := sp_SameRing b.ring hr
  rw [sameL_self] at f1
  rw [same3_self] at f2
  rw [decide_eq_true rfl] at f3
  refine acall_of Try.func35 rfl rfl (Nat.le_of_ble_eq_true rfl) T_ok (fun base w0 => ?_)
  refine AWp.seq (AWp.regionW T_ok rfl (WL.all (by simp (decide := true) only [EVs, EVt, Array.toList] <;> exact rfl) ?_))
  refine AWp.seq (AWp.regionW T_ok rfl ?_)
  simp only [List.append_eq, List.cons_append, List.nil_append]
  (repeat (first | refine WL.c rfl rfl rfl (by simp (decide := true) only [EVs, EVt, Array.toList, eqI_self, mb8, abin_eqS, eqS_self] <;> exact rfl) (by simp (decide := true) only [EVs, EVt, Array.toList, calleeOf, eqI_self, mb8, abin_eqS, eqS_self] <;> exact rfl) (by simp (decide := true) only [EVs, EVt, Array.toList, argsOf, frz, eqI_self, mb8, abin_eqS, eqS_self] <;> exact rfl) (by first | exact f1 | exact f2 | exact f3 | exact f4) rfl ?_ | refine WL.f rfl rfl rfl (by simp (decide := true) only [EVs, EVt, Array.toList, eqI_self, mb8, abin_eqS, eqS_self] <;> exact rfl) (by simp (decide := true) only [EVs, EVt, Array.toList, calleeOf, eqI_self, mb8, abin_eqS, eqS_self] <;> exact rfl) (by simp (decide := true) only [EVs, EVt, Array.toList, argsOf, frz, eqI_self, mb8, abin_eqS, eqS_self] <;> exact rfl) (by first | exact f1 | exact f2 | exact f3 | exact f4) ?_ | refine WL.one (by simp (decide := true) only [EVs, EVt, Array.toList, eqI_self, mb8, abin_eqS, eqS_self] <;> exact rfl) ?_)); refine WL.nil ?_
  exact AWp.ret ⟨_, rfl, .inl (.refl _)⟩
theorem sp_SameT (t : Th) (hl : t.l.length ≤ 140737488351232) (hs : t.s.length ≤ 4096) (hi : t.i.length ≤ 4096) (ho : t.o.length ≤ 4096) : ACall Try.prog 36 [thr t, thr t] (bo true) := by
  have f1 := sp_RSame t.d t.l t.d t.l hl hl
  have f2 := sp_SameSets8 t.s t.i t.o t.s t.i t.o hs hi ho hs hi ho
  rw [sameL_self] at f1
  rw [same3_self] at f2
  have c5 : ∀ b : Bool, (b == b) = true := fun b => by simp
  refine acall_of Try.func36 rfl rfl (Nat.le_of_ble_eq_true rfl) T_ok (fun base w0 => ?_)
  refine AWp.seq (AWp.regionW T_ok rfl (WL.all (by simp (decide := true) only [EVs, EVt, Array.toList] <;> exact rfl) ?_))
  refine AWp.seq (AWp.regionW T_ok rfl ?_)
  simp only [List.append_eq, List.cons_append, List.nil_append]
  (repeat (first | refine WL.c rfl rfl rfl (by simp (decide := true) only [EVs, EVt, Array.toList, eqI_self, c5] <;> exact rfl) (by simp (decide := true) only [EVs, EVt, Array.toList, calleeOf, eqI_self, c5] <;> exact rfl) (by simp (decide := true) only [EVs, EVt, Array.toList, argsOf, frz, eqI_self, c5] <;> exact rfl) (by first | exact f1 | exact f2) rfl ?_ | refine WL.f rfl rfl rfl (by simp (decide := true) only [EVs, EVt, Array.toList, eqI_self, c5] <;> exact rfl) (by simp (decide := true) only [EVs, EVt, Array.toList, calleeOf, eqI_self, c5] <;> exact rfl) (by simp (decide := true) only [EVs, EVt, Array.toList, argsOf, frz, eqI_self, c5] <;> exact rfl) (by first | exact f1 | exact f2) ?_ | refine WL.one (by simp (decide := true) only [EVs, EVt, Array.toList, eqI_self, c5] <;> exact rfl) ?_)); refine WL.nil ?_
  exact AWp.ret ⟨_, rfl, .inl (.refl _)⟩

theorem sp_begun27 : ACall Try.prog 28 [] (bo true) := by
  have h1 := sp_MoObject ⟨67, 4, 2, [⟨3, 4⟩], [], [], [], 0, 0, 0, [], [], []⟩ (by simp) (by simp) (by simp) (by simp) (by simp) (by simp)
  have h2 := sp_MoThread ⟨2, [], [], [], [], 4, 0, 0, 0, 0, 0, false⟩ (by simp) (by simp)
  rw [show moO ⟨67, 4, 2, [⟨3, 4⟩], [], [], [], 0, 0, 0, [], [], []⟩ = ⟨67, 4, 0, [], [3], [], [], 0, 0, 0, [], [], []⟩ by kernel_rfl, show splE 2 [⟨3, 4⟩] = 0 by kernel_rfl] at h1
  rw [show moT ⟨2, [], [], [], [], 4, 0, 0, 0, 0, 0, false⟩ = ⟨0, [], [], [], [], 4, 0, 0, 0, 0, 0, false⟩ by kernel_rfl, show splE 2 [] = 0 by kernel_rfl] at h2
  refine acall_of Try.func28 rfl rfl (Nat.le_of_ble_eq_true rfl) T_ok (fun base w0 => ?_)
  refine AWp.seq (AWp.regionW T_ok rfl (WL.all (by simp (decide := true) only [EVs, EVt, Array.toList] <;> exact rfl) ?_))
  refine AWp.seq (AWp.regionW T_ok rfl ?_)
  (repeat (first | refine WL.c rfl rfl rfl (by simp (decide := true) only [EVs, EVt, Array.toList] <;> exact rfl) (by simp (decide := true) only [EVs, EVt, Array.toList, calleeOf] <;> exact rfl) (by simp (decide := true) only [EVs, EVt, Array.toList, argsOf, frz] <;> exact rfl) (by first | exact h1) rfl ?_ | refine WL.f rfl rfl rfl (by simp (decide := true) only [EVs, EVt, Array.toList] <;> exact rfl) (by simp (decide := true) only [EVs, EVt, Array.toList, calleeOf] <;> exact rfl) (by simp (decide := true) only [EVs, EVt, Array.toList, argsOf, frz] <;> exact rfl) (by first | exact h1) ?_ | refine WL.one (by simp (decide := true) only [EVs, EVt, Array.toList] <;> exact rfl) ?_)); refine WL.nil ?_
  refine AWp.seq (AWp.regionW T_ok rfl ?_)
  (repeat (first | refine WL.c rfl rfl rfl (by simp (decide := true) only [EVs, EVt, Array.toList] <;> exact rfl) (by simp (decide := true) only [EVs, EVt, Array.toList, calleeOf] <;> exact rfl) (by simp (decide := true) only [EVs, EVt, Array.toList, argsOf, frz] <;> exact rfl) (by first | exact h2) rfl ?_ | refine WL.f rfl rfl rfl (by simp (decide := true) only [EVs, EVt, Array.toList] <;> exact rfl) (by simp (decide := true) only [EVs, EVt, Array.toList, calleeOf] <;> exact rfl) (by simp (decide := true) only [EVs, EVt, Array.toList, argsOf, frz] <;> exact rfl) (by first | exact h2) ?_ | refine WL.one (by simp (decide := true) only [EVs, EVt, Array.toList] <;> exact rfl) ?_)); refine WL.nil ?_
  refine AWp.seq (AWp.regionW T_ok rfl ?_)
  (repeat (first | refine WL.c rfl rfl rfl (by simp (decide := true) only [EVs, EVt, Array.toList, eqI_self] <;> exact rfl) (by simp (decide := true) only [EVs, EVt, Array.toList, calleeOf, eqI_self] <;> exact rfl) (by simp (decide := true) only [EVs, EVt, Array.toList, argsOf, frz, eqI_self] <;> exact rfl) (by fail) rfl ?_ | refine WL.f rfl rfl rfl (by simp (decide := true) only [EVs, EVt, Array.toList, eqI_self] <;> exact rfl) (by simp (decide := true) only [EVs, EVt, Array.toList, calleeOf, eqI_self] <;> exact rfl) (by simp (decide := true) only [EVs, EVt, Array.toList, argsOf, frz, eqI_self] <;> exact rfl) (by fail) ?_ | refine WL.one (by simp (decide := true) only [EVs, EVt, Array.toList, eqI_self] <;> exact rfl) ?_)); refine WL.nil ?_
  exact AWp.ret ⟨_, rfl, .inl (.refl _)⟩

theorem sp_MorphForms : ACall Try.prog 10 [] (bo true) := by
  have h1 := sp_MoObject ⟨65, 1, 2, [⟨1, 4⟩, ⟨2, 1⟩], [], [], [], 9, 3, 2, [], [], []⟩ (by simp) (by simp) (by simp) (by simp) (by simp) (by simp)
  have h2 := sp_MoThread ⟨2, [⟨3, 0⟩], [], [], [], 2, 1, 66, 0, 0, 0, true⟩ (by simp) (by simp)
  have h3 := sp_MoObject ⟨65, 4, 4, [], [], [], [], 0, 0, 0, [], [], []⟩ (by simp) (by simp) (by simp) (by simp) (by simp) (by simp)
  have h4 := sp_MoThread ⟨3, [], [], [], [], 1, 0, 0, 0, 0, 0, false⟩ (by simp) (by simp)
  have h5 := sp_SameSets8 [1] [2] [] [1] [2] [] (by simp) (by simp) (by simp) (by simp) (by simp) (by simp)
  have h6 := sp_SameSets8 [] [] [3] [] [] [3] (by simp) (by simp) (by simp) (by simp) (by simp) (by simp)
  rw [show moO ⟨65, 1, 2, [⟨1, 4⟩, ⟨2, 1⟩], [], [], [], 9, 3, 2, [], [], []⟩ = ⟨65, 1, 0, [], [1], [2], [], 9, 3, 2, [], [], []⟩ by kernel_rfl, show splE 2 [⟨1, 4⟩, ⟨2, 1⟩] = 0 by kernel_rfl] at h1
  rw [show moT ⟨2, [⟨3, 0⟩], [], [], [], 2, 1, 66, 0, 0, 0, true⟩ = ⟨0, [], [], [], [3], 2, 1, 66, 0, 0, 0, true⟩ by kernel_rfl, show splE 2 [⟨3, 0⟩] = 0 by kernel_rfl] at h2
  rw [show moO ⟨65, 4, 4, [], [], [], [], 0, 0, 0, [], [], []⟩ = ⟨0, 0, 0, [], [], [], [], 0, 0, 0, [], [], []⟩ by kernel_rfl, show splE 4 [] = 14 by kernel_rfl] at h3
  rw [show moT ⟨3, [], [], [], [], 1, 0, 0, 0, 0, 0, false⟩ = ⟨0, [], [], [], [], 0, 0, 0, 0, 0, 0, false⟩ by kernel_rfl, show splE 3 [] = 14 by kernel_rfl] at h4
  rw [same3_self] at h5 h6
  refine acall_of Try.func10 rfl rfl (Nat.le_of_ble_eq_true rfl) T_ok (fun base w0 => ?_)
  refine AWp.seq (AWp.regionW T_ok rfl (WL.all (by simp (decide := true) only [EVs, EVt, Array.toList] <;> exact rfl) ?_))
  refine AWp.seq (AWp.seq (AWp.regionW T_ok rfl ?_))
  (repeat (first | refine WL.c rfl rfl rfl (by simp (decide := true) only [EVs, EVt, Array.toList] <;> exact rfl) (by simp (decide := true) only [EVs, EVt, Array.toList, calleeOf] <;> exact rfl) (by simp (decide := true) only [EVs, EVt, Array.toList, argsOf, frz] <;> exact rfl) (by first | exact sp_begun27) rfl ?_ | refine WL.f rfl rfl rfl (by simp (decide := true) only [EVs, EVt, Array.toList] <;> exact rfl) (by simp (decide := true) only [EVs, EVt, Array.toList, calleeOf] <;> exact rfl) (by simp (decide := true) only [EVs, EVt, Array.toList, argsOf, frz] <;> exact rfl) (by first | exact sp_begun27) ?_ | refine WL.one (by simp (decide := true) only [EVs, EVt, Array.toList] <;> exact rfl) ?_)); refine WL.nil ?_
  refine AWp.cond (t := false) rfl (AWp.skip ?_)
  refine AWp.seq (AWp.regionW T_ok rfl (WL.all (by simp (decide := true) only [EVs, EVt, Array.toList] <;> exact rfl) ?_))
  refine AWp.seq (AWp.regionW T_ok rfl (WL.all (by simp (decide := true) only [EVs, EVt, Array.toList] <;> exact rfl) ?_))
  refine AWp.seq (AWp.regionW T_ok rfl ?_)
  (repeat (first | refine WL.c rfl rfl rfl (by simp (decide := true) only [EVs, EVt, Array.toList] <;> exact rfl) (by simp (decide := true) only [EVs, EVt, Array.toList, calleeOf] <;> exact rfl) (by simp (decide := true) only [EVs, EVt, Array.toList, argsOf, frz] <;> exact rfl) (by first | exact h1) rfl ?_ | refine WL.f rfl rfl rfl (by simp (decide := true) only [EVs, EVt, Array.toList] <;> exact rfl) (by simp (decide := true) only [EVs, EVt, Array.toList, calleeOf] <;> exact rfl) (by simp (decide := true) only [EVs, EVt, Array.toList, argsOf, frz] <;> exact rfl) (by first | exact h1) ?_ | refine WL.one (by simp (decide := true) only [EVs, EVt, Array.toList] <;> exact rfl) ?_)); refine WL.nil ?_
  refine AWp.seq (AWp.regionW T_ok rfl ?_)
  (repeat (first | refine WL.c rfl rfl rfl (by simp (decide := true) only [EVs, EVt, Array.toList] <;> exact rfl) (by simp (decide := true) only [EVs, EVt, Array.toList, calleeOf] <;> exact rfl) (by simp (decide := true) only [EVs, EVt, Array.toList, argsOf, frz] <;> exact rfl) (by first | exact h2) rfl ?_ | refine WL.f rfl rfl rfl (by simp (decide := true) only [EVs, EVt, Array.toList] <;> exact rfl) (by simp (decide := true) only [EVs, EVt, Array.toList, calleeOf] <;> exact rfl) (by simp (decide := true) only [EVs, EVt, Array.toList, argsOf, frz] <;> exact rfl) (by first | exact h2) ?_ | refine WL.one (by simp (decide := true) only [EVs, EVt, Array.toList] <;> exact rfl) ?_)); refine WL.nil ?_
  refine AWp.seq (AWp.regionW T_ok rfl ?_)
  (repeat (first | refine WL.c rfl rfl rfl (by simp (decide := true) only [EVs, EVt, Array.toList] <;> exact rfl) (by simp (decide := true) only [EVs, EVt, Array.toList, calleeOf] <;> exact rfl) (by simp (decide := true) only [EVs, EVt, Array.toList, argsOf, frz] <;> exact rfl) (by first | exact h3) rfl ?_ | refine WL.f rfl rfl rfl (by simp (decide := true) only [EVs, EVt, Array.toList] <;> exact rfl) (by simp (decide := true) only [EVs, EVt, Array.toList, calleeOf] <;> exact rfl) (by simp (decide := true) only [EVs, EVt, Array.toList, argsOf, frz] <;> exact rfl) (by first | exact h3) ?_ | refine WL.one (by simp (decide := true) only [EVs, EVt, Array.toList] <;> exact rfl) ?_)); refine WL.nil ?_
  refine AWp.seq (AWp.regionW T_ok rfl ?_)
  (repeat (first | refine WL.c rfl rfl rfl (by simp (decide := true) only [EVs, EVt, Array.toList] <;> exact rfl) (by simp (decide := true) only [EVs, EVt, Array.toList, calleeOf] <;> exact rfl) (by simp (decide := true) only [EVs, EVt, Array.toList, argsOf, frz] <;> exact rfl) (by first | exact h4) rfl ?_ | refine WL.f rfl rfl rfl (by simp (decide := true) only [EVs, EVt, Array.toList] <;> exact rfl) (by simp (decide := true) only [EVs, EVt, Array.toList, calleeOf] <;> exact rfl) (by simp (decide := true) only [EVs, EVt, Array.toList, argsOf, frz] <;> exact rfl) (by first | exact h4) ?_ | refine WL.one (by simp (decide := true) only [EVs, EVt, Array.toList] <;> exact rfl) ?_)); refine WL.nil ?_
  refine AWp.seq (AWp.regionW T_ok rfl ?_)
  simp only [List.append_eq, List.cons_append, List.nil_append]
  (repeat (first | refine WL.c rfl rfl rfl (by simp (decide := true) only [EVs, EVt, Array.toList, eqI_self] <;> exact rfl) (by simp (decide := true) only [EVs, EVt, Array.toList, calleeOf, eqI_self] <;> exact rfl) (by simp (decide := true) only [EVs, EVt, Array.toList, argsOf, frz, eqI_self] <;> exact rfl) (by first | exact h5 | exact h6) rfl ?_ | refine WL.f rfl rfl rfl (by simp (decide := true) only [EVs, EVt, Array.toList, eqI_self] <;> exact rfl) (by simp (decide := true) only [EVs, EVt, Array.toList, calleeOf, eqI_self] <;> exact rfl) (by simp (decide := true) only [EVs, EVt, Array.toList, argsOf, frz, eqI_self] <;> exact rfl) (by first | exact h5 | exact h6) ?_ | refine WL.one (by simp (decide := true) only [EVs, EVt, Array.toList, eqI_self] <;> exact rfl) ?_)); refine WL.nil ?_
  exact AWp.ret ⟨_, rfl, .inl (.refl _)⟩

theorem sp_MorphAll (b : Ob) (t : Th) (hb : ObW b) (tl : t.l.length ≤ 35184372087808) (tw : ∀ p ∈ t.l, wfP p) (ts : t.s.length ≤ 70368744175616) (ti : t.i.length ≤ 70368744175616) (to : t.o.length ≤ 70368744175616) : ACall Try.prog 8 [obj b, thr t] (bo true) := by
  refine acall_of Try.func8 rfl rfl (Nat.le_of_ble_eq_true rfl) T_ok (fun base w0 => ?_)
  refine AWp.seq (AWp.regionW T_ok rfl (WL.all (by simp (decide := true) only [EVs, EVt, Array.toList] <;> exact rfl) ?_))
  refine AWp.seq (AWp.seq (AWp.regionW T_ok rfl ?_))
  (repeat (first | refine WL.c rfl rfl rfl (by simp (decide := true) only [EVs, EVt, Array.toList] <;> exact rfl) (by simp (decide := true) only [EVs, EVt, Array.toList, calleeOf] <;> exact rfl) (by simp (decide := true) only [EVs, EVt, Array.toList, argsOf, frz] <;> exact rfl) (by first | exact sp_begun27) rfl ?_ | refine WL.f rfl rfl rfl (by simp (decide := true) only [EVs, EVt, Array.toList] <;> exact rfl) (by simp (decide := true) only [EVs, EVt, Array.toList, calleeOf] <;> exact rfl) (by simp (decide := true) only [EVs, EVt, Array.toList, argsOf, frz] <;> exact rfl) (by first | exact sp_begun27) ?_ | refine WL.one (by simp (decide := true) only [EVs, EVt, Array.toList] <;> exact rfl) ?_)); refine WL.nil ?_
  refine AWp.cond (t := false) rfl (AWp.skip ?_)
  have g1 := sp_May1 b hb.l (by have := hb.cats; omega) (by have := hb.ring; omega)
  have g2 := sp_RMay t.d t.l (by omega)
  have u1 : IntKind.i64.wrap ((t.s.length : Int) + (t.i.length : Int)) = (t.s.length : Int) + (t.i.length : Int) := by simp [IntKind.wrap, IntKind.bits]; omega
  have u2 : IntKind.i64.wrap ((t.s.length : Int) + (t.i.length : Int) + (t.o.length : Int)) = (t.s.length : Int) + (t.i.length : Int) + (t.o.length : Int) := by simp [IntKind.wrap, IntKind.bits]; omega
  cases h1 : may1O b with
  | false =>
    rw [h1] at g1
    refine AWp.seq (AWp.seq (AWp.regionW T_ok rfl ?_))
    (repeat (first | refine WL.c rfl rfl rfl (by simp (decide := true) only [EVs, EVt, Array.toList] <;> exact rfl) (by simp (decide := true) only [EVs, EVt, Array.toList, calleeOf] <;> exact rfl) (by simp (decide := true) only [EVs, EVt, Array.toList, argsOf, frz] <;> exact rfl) (by first | exact g1 | exact g2) rfl ?_ | refine WL.f rfl rfl rfl (by simp (decide := true) only [EVs, EVt, Array.toList] <;> exact rfl) (by simp (decide := true) only [EVs, EVt, Array.toList, calleeOf] <;> exact rfl) (by simp (decide := true) only [EVs, EVt, Array.toList, argsOf, frz] <;> exact rfl) (by first | exact g1 | exact g2) ?_ | refine WL.one (by simp (decide := true) only [EVs, EVt, Array.toList] <;> exact rfl) ?_)); refine WL.nil ?_
    refine AWp.cond (t := true) rfl (AWp.seq (AWp.regionW T_ok rfl (WL.all (by simp (decide := true) only [EVs, EVt, Array.toList] <;> exact rfl) ?_)))
    exact AWp.ret ⟨_, rfl, .inl (.refl _)⟩
  | true =>
  rw [h1] at g1
  cases h2 : mayL t.d t.l with
  | false =>
    rw [h2] at g2
    refine AWp.seq (AWp.seq (AWp.regionW T_ok rfl ?_))
    (repeat (first | refine WL.c rfl rfl rfl (by simp (decide := true) only [EVs, EVt, Array.toList] <;> exact rfl) (by simp (decide := true) only [EVs, EVt, Array.toList, calleeOf] <;> exact rfl) (by simp (decide := true) only [EVs, EVt, Array.toList, argsOf, frz] <;> exact rfl) (by first | exact g1 | exact g2) rfl ?_ | refine WL.f rfl rfl rfl (by simp (decide := true) only [EVs, EVt, Array.toList] <;> exact rfl) (by simp (decide := true) only [EVs, EVt, Array.toList, calleeOf] <;> exact rfl) (by simp (decide := true) only [EVs, EVt, Array.toList, argsOf, frz] <;> exact rfl) (by first | exact g1 | exact g2) ?_ | refine WL.one (by simp (decide := true) only [EVs, EVt, Array.toList] <;> exact rfl) ?_)); refine WL.nil ?_
    refine AWp.cond (t := true) rfl (AWp.seq (AWp.regionW T_ok rfl (WL.all (by simp (decide := true) only [EVs, EVt, Array.toList] <;> exact rfl) ?_)))
    exact AWp.ret ⟨_, rfl, .inl (.refl _)⟩
  | true =>
  rw [h2] at g2
  by_cases h3 : t.s = [] ∧ t.i = [] ∧ t.o = []
  rotate_left
  · have c1 : ltI 0 ((t.s.length : Int) + (t.i.length : Int) + (t.o.length : Int)) = true := ltI_t (by
      by_cases x1 : t.s = []
      · by_cases x2 : t.i = []
        · have := List.length_pos_iff.2 (fun h => h3 ⟨x1, x2, h⟩); omega
        · have := List.length_pos_iff.2 x2; omega
      · have := List.length_pos_iff.2 x1; omega)
    refine AWp.seq (AWp.seq (AWp.regionW T_ok rfl ?_))
    (repeat (first | refine WL.c rfl rfl rfl (by simp (decide := true) only [EVs, EVt, Array.toList, u1, u2, c1] <;> exact rfl) (by simp (decide := true) only [EVs, EVt, Array.toList, calleeOf, u1, u2, c1] <;> exact rfl) (by simp (decide := true) only [EVs, EVt, Array.toList, argsOf, frz, u1, u2, c1] <;> exact rfl) (by first | exact g1 | exact g2) rfl ?_ | refine WL.f rfl rfl rfl (by simp (decide := true) only [EVs, EVt, Array.toList, u1, u2, c1] <;> exact rfl) (by simp (decide := true) only [EVs, EVt, Array.toList, calleeOf, u1, u2, c1] <;> exact rfl) (by simp (decide := true) only [EVs, EVt, Array.toList, argsOf, frz, u1, u2, c1] <;> exact rfl) (by first | exact g1 | exact g2) ?_ | refine WL.one (by simp (decide := true) only [EVs, EVt, Array.toList, u1, u2, c1] <;> exact rfl) ?_)); refine WL.nil ?_
    refine AWp.cond (t := true) rfl (AWp.seq (AWp.regionW T_ok rfl (WL.all (by simp (decide := true) only [EVs, EVt, Array.toList] <;> exact rfl) ?_)))
    exact AWp.ret ⟨_, rfl, .inl (.refl _)⟩
  obtain ⟨x1, x2, x3⟩ := h3
  have c1 : ltI 0 ((t.s.length : Int) + (t.i.length : Int) + (t.o.length : Int)) = false := ltI_f (by rw [x1, x2, x3]; simp)
  have m1 : mayL b.d b.l = true := by
    simp only [may1O, Bool.and_eq_true] at h1
    exact h1.1.2
  have hK := labK m1 hb.lw
  have hT := labK h2 tw
  have k16 := hK.len
  have t16 := hT.len
  have bd := hb.dat
  have bc := hb.cats
  have br := hb.ring
  have f1 := sp_MoObject { b with s := [], i := [], o := [] } (by show b.l.length ≤ 100000; omega) hK.lv hb.dat hb.cats hb.ring hb.rings
  have f2 := sp_R22Split { b with s := [], i := [], o := [] } (by show b.l.length ≤ 100000; omega) hK.nam
  have f3 := sp_MoThread t (by omega) hT.lv
  have f4 := sp_R22SplitT t (by omega) hT.nam
  obtain ⟨n1, n2, n3, n4, n5, n6⟩ := moO_len { b with s := [], i := [], o := [] }
  obtain ⟨p1, p2, p3, p4⟩ := moT_len t
  simp only at n1 n2 n3 n4 n5 n6
  have f5 := sp_SameO (moO { b with s := [], i := [], o := [] }) (by omega) (by omega) (by omega) (by omega) (by omega) (by omega)
  have f6 := sp_SameT (moT t) (by omega) (by omega) (by omega) (by omega)
  refine AWp.seq (AWp.seq (AWp.regionW T_ok rfl ?_))
  (repeat (first | refine WL.c rfl rfl rfl (by simp (decide := true) only [EVs, EVt, Array.toList, u1, u2, c1] <;> exact rfl) (by simp (decide := true) only [EVs, EVt, Array.toList, calleeOf, u1, u2, c1] <;> exact rfl) (by simp (decide := true) only [EVs, EVt, Array.toList, argsOf, frz, u1, u2, c1] <;> exact rfl) (by first | exact g1 | exact g2) rfl ?_ | refine WL.f rfl rfl rfl (by simp (decide := true) only [EVs, EVt, Array.toList, u1, u2, c1] <;> exact rfl) (by simp (decide := true) only [EVs, EVt, Array.toList, calleeOf, u1, u2, c1] <;> exact rfl) (by simp (decide := true) only [EVs, EVt, Array.toList, argsOf, frz, u1, u2, c1] <;> exact rfl) (by first | exact g1 | exact g2) ?_ | refine WL.one (by simp (decide := true) only [EVs, EVt, Array.toList, u1, u2, c1] <;> exact rfl) ?_)); refine WL.nil ?_
  refine AWp.cond (t := false) rfl (AWp.skip ?_)
  refine AWp.seq (AWp.regionW T_ok rfl (WL.all (by simp (decide := true) only [EVs, EVt, Array.toList] <;> exact rfl) ?_))
  refine AWp.seq (AWp.regionW T_ok rfl ?_)
  (repeat (first | refine WL.c rfl rfl rfl (by simp (decide := true) only [EVs, EVt, Array.toList] <;> exact rfl) (by simp (decide := true) only [EVs, EVt, Array.toList, calleeOf] <;> exact rfl) (by simp (decide := true) only [EVs, EVt, Array.toList, argsOf, frz] <;> exact rfl) (by first | exact f1) rfl ?_ | refine WL.f rfl rfl rfl (by simp (decide := true) only [EVs, EVt, Array.toList] <;> exact rfl) (by simp (decide := true) only [EVs, EVt, Array.toList, calleeOf] <;> exact rfl) (by simp (decide := true) only [EVs, EVt, Array.toList, argsOf, frz] <;> exact rfl) (by first | exact f1) ?_ | refine WL.one (by simp (decide := true) only [EVs, EVt, Array.toList] <;> exact rfl) ?_)); refine WL.nil ?_
  refine AWp.seq (AWp.regionW T_ok rfl ?_)
  (repeat (first | refine WL.c rfl rfl rfl (by simp (decide := true) only [EVs, EVt, Array.toList] <;> exact rfl) (by simp (decide := true) only [EVs, EVt, Array.toList, calleeOf] <;> exact rfl) (by simp (decide := true) only [EVs, EVt, Array.toList, argsOf, frz] <;> exact rfl) (by first | exact f2) rfl ?_ | refine WL.f rfl rfl rfl (by simp (decide := true) only [EVs, EVt, Array.toList] <;> exact rfl) (by simp (decide := true) only [EVs, EVt, Array.toList, calleeOf] <;> exact rfl) (by simp (decide := true) only [EVs, EVt, Array.toList, argsOf, frz] <;> exact rfl) (by first | exact f2) ?_ | refine WL.one (by simp (decide := true) only [EVs, EVt, Array.toList] <;> exact rfl) ?_)); refine WL.nil ?_
  refine AWp.seq (AWp.regionW T_ok rfl ?_)
  (repeat (first | refine WL.c rfl rfl rfl (by simp (decide := true) only [EVs, EVt, Array.toList] <;> exact rfl) (by simp (decide := true) only [EVs, EVt, Array.toList, calleeOf] <;> exact rfl) (by simp (decide := true) only [EVs, EVt, Array.toList, argsOf, frz] <;> exact rfl) (by first | exact f3) rfl ?_ | refine WL.f rfl rfl rfl (by simp (decide := true) only [EVs, EVt, Array.toList] <;> exact rfl) (by simp (decide := true) only [EVs, EVt, Array.toList, calleeOf] <;> exact rfl) (by simp (decide := true) only [EVs, EVt, Array.toList, argsOf, frz] <;> exact rfl) (by first | exact f3) ?_ | refine WL.one (by simp (decide := true) only [EVs, EVt, Array.toList] <;> exact rfl) ?_)); refine WL.nil ?_
  refine AWp.seq (AWp.regionW T_ok rfl ?_)
  (repeat (first | refine WL.c rfl rfl rfl (by simp (decide := true) only [EVs, EVt, Array.toList] <;> exact rfl) (by simp (decide := true) only [EVs, EVt, Array.toList, calleeOf] <;> exact rfl) (by simp (decide := true) only [EVs, EVt, Array.toList, argsOf, frz] <;> exact rfl) (by first | exact f4) rfl ?_ | refine WL.f rfl rfl rfl (by simp (decide := true) only [EVs, EVt, Array.toList] <;> exact rfl) (by simp (decide := true) only [EVs, EVt, Array.toList, calleeOf] <;> exact rfl) (by simp (decide := true) only [EVs, EVt, Array.toList, argsOf, frz] <;> exact rfl) (by first | exact f4) ?_ | refine WL.one (by simp (decide := true) only [EVs, EVt, Array.toList] <;> exact rfl) ?_)); refine WL.nil ?_
  refine AWp.seq (AWp.regionW T_ok rfl ?_)
  (repeat (first | refine WL.c rfl rfl rfl (by simp (decide := true) only [EVs, EVt, Array.toList, eqI_self] <;> exact rfl) (by simp (decide := true) only [EVs, EVt, Array.toList, calleeOf, eqI_self] <;> exact rfl) (by simp (decide := true) only [EVs, EVt, Array.toList, argsOf, frz, eqI_self] <;> exact rfl) (by first | exact f5 | exact f6) rfl ?_ | refine WL.f rfl rfl rfl (by simp (decide := true) only [EVs, EVt, Array.toList, eqI_self] <;> exact rfl) (by simp (decide := true) only [EVs, EVt, Array.toList, calleeOf, eqI_self] <;> exact rfl) (by simp (decide := true) only [EVs, EVt, Array.toList, argsOf, frz, eqI_self] <;> exact rfl) (by first | exact f5 | exact f6) ?_ | refine WL.one (by simp (decide := true) only [EVs, EVt, Array.toList, eqI_self] <;> exact rfl) ?_)); refine WL.nil ?_
  exact AWp.ret ⟨_, rfl, .inl (.refl _)⟩
end Go.Proofs.Ytfgndnackofenaa.E
