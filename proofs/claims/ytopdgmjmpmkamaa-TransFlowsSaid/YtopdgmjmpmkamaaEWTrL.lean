/-
  The statements of layer 11, walked in abstract values. Conditions: lengths, bytes.
-/
import Derived.Test.YtopdgmjmpmkamaaEWTr
import Derived.Test.YtopdgmjmpmkamaaEWSame
import Derived.Test.YtopdgmjmpmkamaaEWL5a
import Derived.Test.YtopdgmjmpmkamaaEWCan
namespace Go.Proofs.Ytopdgmjmpmkamaa.E
open Go Go.RowKit Go.Proofs.YtopdgmjmpmkamaaW.E
open Go.Proofs.YtopdgmjmpmkamaaW.E.PM (Asc asc_ext le_asc un_asc turns2 sees2 rises2 makes2)
set_option linter.unusedVariables false
set_option linter.unusedSimpArgs false
set_option maxRecDepth 100000
set_option maxHeartbeats 8000000

theorem wfP_lv {l : List Pr} (h : ∀ p ∈ l, wfP p) : ∀ p ∈ l, 0 ≤ p.l := fun p hp => (h p hp).2.2.1
theorem wfP_cat {l : List Pr} (h : ∀ p ∈ l, wfP p) : ∀ p ∈ l, 0 ≤ p.c ∧ p.c < 65536 := fun p hp => ⟨(h p hp).1, (h p hp).2.1⟩
theorem sameL_self (d : Int) (l : List Pr) : sameL d l d l = true := by simp [sameL]
theorem same3_self (s i o : List Int) : same3 s i o s i o = true := by simp [same3, eqL]
theorem lvs_cat' {l : List Pr} (h : ∀ p ∈ l, 0 ≤ p.c ∧ p.c < 65536) (v : Int) : ∀ c ∈ lvs l v, 0 ≤ c ∧ c < 65536 := fun c hc => by
  obtain ⟨p, hp, rfl⟩ := List.mem_map.1 (lvs_cat hc)
  exact h p hp
/-- What is known of a label that may be. -/
structure LabK (d : Int) (l : List Pr) : Prop where
  len : l.length ≤ 16
  asc : ascP l
  lv : ∀ p ∈ l, 0 ≤ p.l ∧ p.l ≤ 5
  nam : nam d l = okS d l
  d1 : 1 ≤ d
  d4 : d ≤ 4
  lv4 : ∀ p ∈ l, p.l ≤ 4
theorem labK {d : Int} {l : List Pr} (h : mayL d l = true) (hw : ∀ p ∈ l, wfP p) : LabK d l := by
  obtain ⟨_, h1, h2, h3, h4, h5⟩ := mayL_spec h
  have h6 := wfP_lv hw
  exact ⟨h3, h4, fun p hp => ⟨h6 p hp, by have := (h5 p hp).1; omega⟩, nam_okS h h6, h1, h2, fun p hp => (h5 p hp).1⟩
theorem spl_t {d : Int} {l : List Pr} (h : okS d l = true) (v : Int) : spl d l v = lvs l v := by simp [spl, h]
theorem spl_f {d : Int} {l : List Pr} (h : okS d l = false) (v : Int) : spl d l v = [] := by simp [spl, h]
theorem splE_t {d : Int} {l : List Pr} (h : okS d l = true) : splE d l = 0 := by simp [splE, h]
theorem splE_f {d : Int} {l : List Pr} (h : okS d l = false) : splE d l = 14 := by simp [splE, h]

theorem sp_begun11 : ACall Try.prog 9 [] (bo true) := by
  have h1 := sp_TSplit 2 [⟨3, 4⟩] (by simp) (by simp)
  have h2 := sp_TSplit 3 [] (by simp) (by simp)
  have h3 := sp_TBack [3] [] [] (by simp) (by simp) (by simp) (by simp) (by simp) (by simp)
  rw [show spl 2 [⟨3, 4⟩] 4 = [3] by decide +kernel, show spl 2 [⟨3, 4⟩] 1 = [] by decide +kernel, show spl 2 [⟨3, 4⟩] 0 = [] by decide +kernel, show splE 2 [⟨3, 4⟩] = 0 by decide +kernel] at h1
  rw [show spl 3 [] 4 = [] by decide +kernel, show spl 3 [] 1 = [] by decide +kernel, show spl 3 [] 0 = [] by decide +kernel, show splE 3 [] = 14 by decide +kernel] at h2
  rw [show bk [3] [] [] = [⟨3, 4⟩] by kernel_rfl] at h3
  refine acall_of Try.func9 rfl rfl (Nat.le_of_ble_eq_true rfl) T_ok (fun base w0 => ?_)
  refine AWp.seq (AWp.regionW T_ok rfl (WL.all (by simp (decide := true) only [EVs, EVt, Array.toList] <;> exact rfl) ?_))
  refine AWp.seq (AWp.regionW T_ok rfl (WL.all (by simp (decide := true) only [EVs, EVt, Array.toList] <;> exact rfl) ?_))
  refine AWp.seq (AWp.regionW T_ok rfl ?_)
  (repeat (first | refine WL.c rfl rfl rfl (by simp (decide := true) only [EVs, EVt, Array.toList] <;> exact rfl) (by simp (decide := true) only [EVs, EVt, Array.toList, calleeOf] <;> exact rfl) (by simp (decide := true) only [EVs, EVt, Array.toList, argsOf, frz] <;> exact rfl) (by first | exact h1) rfl ?_ | refine WL.f rfl rfl rfl (by simp (decide := true) only [EVs, EVt, Array.toList] <;> exact rfl) (by simp (decide := true) only [EVs, EVt, Array.toList, calleeOf] <;> exact rfl) (by simp (decide := true) only [EVs, EVt, Array.toList, argsOf, frz] <;> exact rfl) (by first | exact h1) ?_ | refine WL.one (by simp (decide := true) only [EVs, EVt, Array.toList] <;> exact rfl) ?_)); refine WL.nil ?_
  refine AWp.seq (AWp.regionW T_ok rfl ?_)
  (repeat (first | refine WL.c rfl rfl rfl (by simp (decide := true) only [EVs, EVt, Array.toList] <;> exact rfl) (by simp (decide := true) only [EVs, EVt, Array.toList, calleeOf] <;> exact rfl) (by simp (decide := true) only [EVs, EVt, Array.toList, argsOf, frz] <;> exact rfl) (by first | exact h2) rfl ?_ | refine WL.f rfl rfl rfl (by simp (decide := true) only [EVs, EVt, Array.toList] <;> exact rfl) (by simp (decide := true) only [EVs, EVt, Array.toList, calleeOf] <;> exact rfl) (by simp (decide := true) only [EVs, EVt, Array.toList, argsOf, frz] <;> exact rfl) (by first | exact h2) ?_ | refine WL.one (by simp (decide := true) only [EVs, EVt, Array.toList] <;> exact rfl) ?_)); refine WL.nil ?_
  refine AWp.seq (AWp.regionW T_ok rfl ?_)
  (repeat (first | refine WL.c rfl rfl rfl (by simp (decide := true) only [EVs, EVt, Array.toList, eqI_self] <;> exact rfl) (by simp (decide := true) only [EVs, EVt, Array.toList, calleeOf, eqI_self] <;> exact rfl) (by simp (decide := true) only [EVs, EVt, Array.toList, argsOf, frz, eqI_self] <;> exact rfl) (by first | exact h3) rfl ?_ | refine WL.f rfl rfl rfl (by simp (decide := true) only [EVs, EVt, Array.toList, eqI_self] <;> exact rfl) (by simp (decide := true) only [EVs, EVt, Array.toList, calleeOf, eqI_self] <;> exact rfl) (by simp (decide := true) only [EVs, EVt, Array.toList, argsOf, frz, eqI_self] <;> exact rfl) (by first | exact h3) ?_ | refine WL.one (by simp (decide := true) only [EVs, EVt, Array.toList, eqI_self] <;> exact rfl) ?_)); refine WL.nil ?_
  exact AWp.ret ⟨_, rfl, .inl (.refl _)⟩

theorem sp_TransForms : ACall Try.prog 5 [] (bo true) := by
  have h1 := sp_TSplit 2 [⟨1, 4⟩, ⟨2, 1⟩, ⟨3, 0⟩] (by simp) (by simp)
  have h2 := sp_TSplit 1 [] (by simp) (by simp)
  have h3 := sp_TSplit 2 [⟨1, 3⟩] (by simp) (by simp)
  have h4 := sp_TSplit 2 [] (by simp) (by simp)
  have h5 := sp_TBack [1] [2] [3] (by simp) (by simp) (by simp) (by simp) (by simp) (by simp)
  have h6 := sp_RSame 2 [⟨1, 4⟩, ⟨2, 1⟩, ⟨3, 0⟩] 2 [⟨1, 4⟩, ⟨2, 1⟩, ⟨3, 0⟩] (by simp) (by simp)
  rw [show spl 2 [⟨1, 4⟩, ⟨2, 1⟩, ⟨3, 0⟩] 4 = [1] by decide +kernel, show spl 2 [⟨1, 4⟩, ⟨2, 1⟩, ⟨3, 0⟩] 1 = [2] by decide +kernel, show spl 2 [⟨1, 4⟩, ⟨2, 1⟩, ⟨3, 0⟩] 0 = [3] by decide +kernel, show splE 2 [⟨1, 4⟩, ⟨2, 1⟩, ⟨3, 0⟩] = 0 by decide +kernel] at h1
  rw [show spl 1 [] 4 = [] by decide +kernel, show spl 1 [] 1 = [] by decide +kernel, show spl 1 [] 0 = [] by decide +kernel, show splE 1 [] = 14 by decide +kernel] at h2
  rw [show spl 2 [⟨1, 3⟩] 4 = [] by decide +kernel, show spl 2 [⟨1, 3⟩] 1 = [] by decide +kernel, show spl 2 [⟨1, 3⟩] 0 = [] by decide +kernel, show splE 2 [⟨1, 3⟩] = 14 by decide +kernel] at h3
  rw [show spl 2 [] 4 = [] by decide +kernel, show spl 2 [] 1 = [] by decide +kernel, show spl 2 [] 0 = [] by decide +kernel, show splE 2 [] = 0 by decide +kernel] at h4
  rw [show bk [1] [2] [3] = [⟨1, 4⟩, ⟨2, 1⟩, ⟨3, 0⟩] by kernel_rfl] at h5
  rw [sameL_self] at h6
  refine acall_of Try.func5 rfl rfl (Nat.le_of_ble_eq_true rfl) T_ok (fun base w0 => ?_)
  refine AWp.seq (AWp.regionW T_ok rfl (WL.all (by simp (decide := true) only [EVs, EVt, Array.toList] <;> exact rfl) ?_))
  refine AWp.seq (AWp.seq (AWp.regionW T_ok rfl ?_))
  (repeat (first | refine WL.c rfl rfl rfl (by simp (decide := true) only [EVs, EVt, Array.toList] <;> exact rfl) (by simp (decide := true) only [EVs, EVt, Array.toList, calleeOf] <;> exact rfl) (by simp (decide := true) only [EVs, EVt, Array.toList, argsOf, frz] <;> exact rfl) (by first | exact sp_begun11) rfl ?_ | refine WL.f rfl rfl rfl (by simp (decide := true) only [EVs, EVt, Array.toList] <;> exact rfl) (by simp (decide := true) only [EVs, EVt, Array.toList, calleeOf] <;> exact rfl) (by simp (decide := true) only [EVs, EVt, Array.toList, argsOf, frz] <;> exact rfl) (by first | exact sp_begun11) ?_ | refine WL.one (by simp (decide := true) only [EVs, EVt, Array.toList] <;> exact rfl) ?_)); refine WL.nil ?_
  refine AWp.cond (t := false) rfl (AWp.skip ?_)
  refine AWp.seq (AWp.regionW T_ok rfl (WL.all (by simp (decide := true) only [EVs, EVt, Array.toList] <;> exact rfl) ?_))
  refine AWp.seq (AWp.regionW T_ok rfl ?_)
  (repeat (first | refine WL.c rfl rfl rfl (by simp (decide := true) only [EVs, EVt, Array.toList] <;> exact rfl) (by simp (decide := true) only [EVs, EVt, Array.toList, calleeOf] <;> exact rfl) (by simp (decide := true) only [EVs, EVt, Array.toList, argsOf, frz] <;> exact rfl) (by first | exact h1) rfl ?_ | refine WL.f rfl rfl rfl (by simp (decide := true) only [EVs, EVt, Array.toList] <;> exact rfl) (by simp (decide := true) only [EVs, EVt, Array.toList, calleeOf] <;> exact rfl) (by simp (decide := true) only [EVs, EVt, Array.toList, argsOf, frz] <;> exact rfl) (by first | exact h1) ?_ | refine WL.one (by simp (decide := true) only [EVs, EVt, Array.toList] <;> exact rfl) ?_)); refine WL.nil ?_
  refine AWp.seq (AWp.regionW T_ok rfl ?_)
  (repeat (first | refine WL.c rfl rfl rfl (by simp (decide := true) only [EVs, EVt, Array.toList] <;> exact rfl) (by simp (decide := true) only [EVs, EVt, Array.toList, calleeOf] <;> exact rfl) (by simp (decide := true) only [EVs, EVt, Array.toList, argsOf, frz] <;> exact rfl) (by first | exact h2) rfl ?_ | refine WL.f rfl rfl rfl (by simp (decide := true) only [EVs, EVt, Array.toList] <;> exact rfl) (by simp (decide := true) only [EVs, EVt, Array.toList, calleeOf] <;> exact rfl) (by simp (decide := true) only [EVs, EVt, Array.toList, argsOf, frz] <;> exact rfl) (by first | exact h2) ?_ | refine WL.one (by simp (decide := true) only [EVs, EVt, Array.toList] <;> exact rfl) ?_)); refine WL.nil ?_
  refine AWp.seq (AWp.regionW T_ok rfl ?_)
  (repeat (first | refine WL.c rfl rfl rfl (by simp (decide := true) only [EVs, EVt, Array.toList] <;> exact rfl) (by simp (decide := true) only [EVs, EVt, Array.toList, calleeOf] <;> exact rfl) (by simp (decide := true) only [EVs, EVt, Array.toList, argsOf, frz] <;> exact rfl) (by first | exact h3) rfl ?_ | refine WL.f rfl rfl rfl (by simp (decide := true) only [EVs, EVt, Array.toList] <;> exact rfl) (by simp (decide := true) only [EVs, EVt, Array.toList, calleeOf] <;> exact rfl) (by simp (decide := true) only [EVs, EVt, Array.toList, argsOf, frz] <;> exact rfl) (by first | exact h3) ?_ | refine WL.one (by simp (decide := true) only [EVs, EVt, Array.toList] <;> exact rfl) ?_)); refine WL.nil ?_
  refine AWp.seq (AWp.regionW T_ok rfl ?_)
  (repeat (first | refine WL.c rfl rfl rfl (by simp (decide := true) only [EVs, EVt, Array.toList] <;> exact rfl) (by simp (decide := true) only [EVs, EVt, Array.toList, calleeOf] <;> exact rfl) (by simp (decide := true) only [EVs, EVt, Array.toList, argsOf, frz] <;> exact rfl) (by first | exact h4) rfl ?_ | refine WL.f rfl rfl rfl (by simp (decide := true) only [EVs, EVt, Array.toList] <;> exact rfl) (by simp (decide := true) only [EVs, EVt, Array.toList, calleeOf] <;> exact rfl) (by simp (decide := true) only [EVs, EVt, Array.toList, argsOf, frz] <;> exact rfl) (by first | exact h4) ?_ | refine WL.one (by simp (decide := true) only [EVs, EVt, Array.toList] <;> exact rfl) ?_)); refine WL.nil ?_
  refine AWp.seq (AWp.drawnW T_ok mixed (by kernel_rfl) rfl ?_)
  simp only [List.append_eq, List.cons_append, List.nil_append]
  (repeat (first | refine WL.c rfl rfl rfl (by simp (decide := true) only [EVs, EVt, Array.toList, eqI_self] <;> exact rfl) (by simp (decide := true) only [EVs, EVt, Array.toList, calleeOf, eqI_self] <;> exact rfl) (by simp (decide := true) only [EVs, EVt, Array.toList, argsOf, frz, eqI_self] <;> exact rfl) (by first | exact h5 | exact h6) rfl ?_ | refine WL.f rfl rfl rfl (by simp (decide := true) only [EVs, EVt, Array.toList, eqI_self] <;> exact rfl) (by simp (decide := true) only [EVs, EVt, Array.toList, calleeOf, eqI_self] <;> exact rfl) (by simp (decide := true) only [EVs, EVt, Array.toList, argsOf, frz, eqI_self] <;> exact rfl) (by first | exact h5 | exact h6) ?_ | refine WL.one (by simp (decide := true) only [EVs, EVt, Array.toList, eqI_self] <;> exact rfl) ?_)); refine WL.nil ?_
  exact AWp.ret ⟨_, rfl, .inl (.refl _)⟩

theorem sp_TransAll (d : Int) (l : List Pr) (s i o : List Int) (hd : isB d) (hl : l.length ≤ 35184372087808) (hw : ∀ p ∈ l, wfP p) (hs : s.length ≤ 70368744175616) (hi : i.length ≤ 70368744175616) (ho : o.length ≤ 70368744175616)
    (cs : ∀ c ∈ s, 0 ≤ c ∧ c < 65536) (ci : ∀ c ∈ i, 0 ≤ c ∧ c < 65536) (co : ∀ c ∈ o, 0 ≤ c ∧ c < 65536) : ACall Try.prog 3 [lab d l, sts s i o] (bo true) := by
  refine acall_of Try.func3 rfl rfl (Nat.le_of_ble_eq_true rfl) T_ok (fun base w0 => ?_)
  refine AWp.seq (AWp.regionW T_ok rfl (WL.all (by simp (decide := true) only [EVs, EVt, Array.toList] <;> exact rfl) ?_))
  refine AWp.seq (AWp.seq (AWp.regionW T_ok rfl ?_))
  (repeat (first | refine WL.c rfl rfl rfl (by simp (decide := true) only [EVs, EVt, Array.toList] <;> exact rfl) (by simp (decide := true) only [EVs, EVt, Array.toList, calleeOf] <;> exact rfl) (by simp (decide := true) only [EVs, EVt, Array.toList, argsOf, frz] <;> exact rfl) (by first | exact sp_begun11) rfl ?_ | refine WL.f rfl rfl rfl (by simp (decide := true) only [EVs, EVt, Array.toList] <;> exact rfl) (by simp (decide := true) only [EVs, EVt, Array.toList, calleeOf] <;> exact rfl) (by simp (decide := true) only [EVs, EVt, Array.toList, argsOf, frz] <;> exact rfl) (by first | exact sp_begun11) ?_ | refine WL.one (by simp (decide := true) only [EVs, EVt, Array.toList] <;> exact rfl) ?_)); refine WL.nil ?_
  refine AWp.cond (t := false) rfl (AWp.skip ?_)
  have g1 := sp_RMay d l (by omega)
  have g2 := sp_May8 s i o (by omega) (by omega) (by omega)
  cases h1 : mayL d l with
  | false =>
    rw [h1] at g1
    refine AWp.seq (AWp.seq (AWp.regionW T_ok rfl ?_))
    (repeat (first | refine WL.c rfl rfl rfl (by simp (decide := true) only [EVs, EVt, Array.toList] <;> exact rfl) (by simp (decide := true) only [EVs, EVt, Array.toList, calleeOf] <;> exact rfl) (by simp (decide := true) only [EVs, EVt, Array.toList, argsOf, frz] <;> exact rfl) (by first | exact g1 | exact g2) rfl ?_ | refine WL.f rfl rfl rfl (by simp (decide := true) only [EVs, EVt, Array.toList] <;> exact rfl) (by simp (decide := true) only [EVs, EVt, Array.toList, calleeOf] <;> exact rfl) (by simp (decide := true) only [EVs, EVt, Array.toList, argsOf, frz] <;> exact rfl) (by first | exact g1 | exact g2) ?_ | refine WL.one (by simp (decide := true) only [EVs, EVt, Array.toList] <;> exact rfl) ?_)); refine WL.nil ?_
    refine AWp.cond (t := true) rfl (AWp.seq (AWp.regionW T_ok rfl (WL.all (by simp (decide := true) only [EVs, EVt, Array.toList] <;> exact rfl) ?_)))
    exact AWp.ret ⟨_, rfl, .inl (.refl _)⟩
  | true =>
    rw [h1] at g1
    cases h2 : may8 s i o with
    | false =>
      rw [h2] at g2
      refine AWp.seq (AWp.seq (AWp.regionW T_ok rfl ?_))
      (repeat (first | refine WL.c rfl rfl rfl (by simp (decide := true) only [EVs, EVt, Array.toList] <;> exact rfl) (by simp (decide := true) only [EVs, EVt, Array.toList, calleeOf] <;> exact rfl) (by simp (decide := true) only [EVs, EVt, Array.toList, argsOf, frz] <;> exact rfl) (by first | exact g1 | exact g2) rfl ?_ | refine WL.f rfl rfl rfl (by simp (decide := true) only [EVs, EVt, Array.toList] <;> exact rfl) (by simp (decide := true) only [EVs, EVt, Array.toList, calleeOf] <;> exact rfl) (by simp (decide := true) only [EVs, EVt, Array.toList, argsOf, frz] <;> exact rfl) (by first | exact g1 | exact g2) ?_ | refine WL.one (by simp (decide := true) only [EVs, EVt, Array.toList] <;> exact rfl) ?_)); refine WL.nil ?_
      refine AWp.cond (t := true) rfl (AWp.seq (AWp.regionW T_ok rfl (WL.all (by simp (decide := true) only [EVs, EVt, Array.toList] <;> exact rfl) ?_)))
      exact AWp.ret ⟨_, rfl, .inl (.refl _)⟩
    | true =>
      rw [h2] at g2
      have hK := labK h1 hw
      obtain ⟨a1, a2, a3, hD, hlen⟩ := may8_dis h2
      have s4 := spl_len d l 4
      have s1 := spl_len d l 1
      have s0 := spl_len d l 0
      have k16 := hK.len
      have f1 := sp_TSplit d l (by omega) hK.lv
      have f2 := sp_R8Split d l (by omega) hK.nam
      have f3 := sp_SameSets8 (spl d l 4) (spl d l 1) (spl d l 0) (spl d l 4) (spl d l 1) (spl d l 0) (by omega) (by omega) (by omega) (by omega) (by omega) (by omega)
      have f4 := sp_TBack s i o (by omega) (by omega) (by omega) cs ci co
      have f5 := sp_R8Back s i o (by omega) (by omega) (by omega)
      have hbl := bk_len s i o
      have f6 := sp_RSame 2 (bk s i o) 2 (bk s i o) (by omega) (by omega)
      rw [same3_self] at f3
      rw [sameL_self] at f6
      refine AWp.seq (AWp.seq (AWp.regionW T_ok rfl ?_))
      (repeat (first | refine WL.c rfl rfl rfl (by simp (decide := true) only [EVs, EVt, Array.toList] <;> exact rfl) (by simp (decide := true) only [EVs, EVt, Array.toList, calleeOf] <;> exact rfl) (by simp (decide := true) only [EVs, EVt, Array.toList, argsOf, frz] <;> exact rfl) (by first | exact g1 | exact g2) rfl ?_ | refine WL.f rfl rfl rfl (by simp (decide := true) only [EVs, EVt, Array.toList] <;> exact rfl) (by simp (decide := true) only [EVs, EVt, Array.toList, calleeOf] <;> exact rfl) (by simp (decide := true) only [EVs, EVt, Array.toList, argsOf, frz] <;> exact rfl) (by first | exact g1 | exact g2) ?_ | refine WL.one (by simp (decide := true) only [EVs, EVt, Array.toList] <;> exact rfl) ?_)); refine WL.nil ?_
      refine AWp.cond (t := false) rfl (AWp.skip ?_)
      refine AWp.seq (AWp.regionW T_ok rfl ?_)
      (repeat (first | refine WL.c rfl rfl rfl (by simp (decide := true) only [EVs, EVt, Array.toList] <;> exact rfl) (by simp (decide := true) only [EVs, EVt, Array.toList, calleeOf] <;> exact rfl) (by simp (decide := true) only [EVs, EVt, Array.toList, argsOf, frz] <;> exact rfl) (by first | exact f1) rfl ?_ | refine WL.f rfl rfl rfl (by simp (decide := true) only [EVs, EVt, Array.toList] <;> exact rfl) (by simp (decide := true) only [EVs, EVt, Array.toList, calleeOf] <;> exact rfl) (by simp (decide := true) only [EVs, EVt, Array.toList, argsOf, frz] <;> exact rfl) (by first | exact f1) ?_ | refine WL.one (by simp (decide := true) only [EVs, EVt, Array.toList] <;> exact rfl) ?_)); refine WL.nil ?_
      refine AWp.seq (AWp.regionW T_ok rfl ?_)
      (repeat (first | refine WL.c rfl rfl rfl (by simp (decide := true) only [EVs, EVt, Array.toList] <;> exact rfl) (by simp (decide := true) only [EVs, EVt, Array.toList, calleeOf] <;> exact rfl) (by simp (decide := true) only [EVs, EVt, Array.toList, argsOf, frz] <;> exact rfl) (by first | exact f2) rfl ?_ | refine WL.f rfl rfl rfl (by simp (decide := true) only [EVs, EVt, Array.toList] <;> exact rfl) (by simp (decide := true) only [EVs, EVt, Array.toList, calleeOf] <;> exact rfl) (by simp (decide := true) only [EVs, EVt, Array.toList, argsOf, frz] <;> exact rfl) (by first | exact f2) ?_ | refine WL.one (by simp (decide := true) only [EVs, EVt, Array.toList] <;> exact rfl) ?_)); refine WL.nil ?_
      refine AWp.seq (AWp.drawnW T_ok mixed (by kernel_rfl) rfl ?_)
      (repeat (first | refine WL.c rfl rfl rfl (by simp (decide := true) only [EVs, EVt, Array.toList, eqI_self] <;> exact rfl) (by simp (decide := true) only [EVs, EVt, Array.toList, calleeOf, eqI_self] <;> exact rfl) (by simp (decide := true) only [EVs, EVt, Array.toList, argsOf, frz, eqI_self] <;> exact rfl) (by first | exact f3 | exact f4 | exact f5 | exact f6) rfl ?_ | refine WL.f rfl rfl rfl (by simp (decide := true) only [EVs, EVt, Array.toList, eqI_self] <;> exact rfl) (by simp (decide := true) only [EVs, EVt, Array.toList, calleeOf, eqI_self] <;> exact rfl) (by simp (decide := true) only [EVs, EVt, Array.toList, argsOf, frz, eqI_self] <;> exact rfl) (by first | exact f3 | exact f4 | exact f5 | exact f6) ?_ | refine WL.one (by simp (decide := true) only [EVs, EVt, Array.toList, eqI_self] <;> exact rfl) ?_)); refine WL.nil ?_
      exact AWp.ret ⟨_, rfl, .inl (.refl _)⟩

/-- Is one of the first n of L2, or the default not L1? -/
def two (d : Int) (l : List Pr) (n : Nat) : Bool := !decide (d = 2) || (l.take n).any fun p => decide (p.l = 3)
theorem two_succ (d : Int) (l : List Pr) (j : Nat) (h : j < l.length) : two d l (j + 1) = (two d l j || decide (l[j].l = 3)) := by
  unfold two; rw [take_snoc l j h, List.any_append]; simp [Bool.or_assoc]
theorem two_all (d : Int) (l : List Pr) : two d l l.length = !nam d l := by
  unfold two nam; rw [List.take_length]; cases decide (d = 2) <;> simp
theorem sp_TransBack (d : Int) (l : List Pr) (s i o : List Int) (hd : isB d) (hl : l.length ≤ 35184372087808) (hw : ∀ p ∈ l, wfP p) (hs : s.length ≤ 70368744175616) (hi : i.length ≤ 70368744175616) (ho : o.length ≤ 70368744175616)
    (cs : ∀ c ∈ s, 0 ≤ c ∧ c < 65536) (ci : ∀ c ∈ i, 0 ≤ c ∧ c < 65536) (co : ∀ c ∈ o, 0 ≤ c ∧ c < 65536) : ACall Try.prog 4 [lab d l, sts s i o] (bo true) := by
  refine acall_of Try.func4 rfl rfl (Nat.le_of_ble_eq_true rfl) T_ok (fun base w0 => ?_)
  refine AWp.seq (AWp.regionW T_ok rfl (WL.all (by simp (decide := true) only [EVs, EVt, Array.toList] <;> exact rfl) ?_))
  refine AWp.seq (AWp.seq (AWp.regionW T_ok rfl ?_))
  (repeat (first | refine WL.c rfl rfl rfl (by simp (decide := true) only [EVs, EVt, Array.toList] <;> exact rfl) (by simp (decide := true) only [EVs, EVt, Array.toList, calleeOf] <;> exact rfl) (by simp (decide := true) only [EVs, EVt, Array.toList, argsOf, frz] <;> exact rfl) (by first | exact sp_begun11) rfl ?_ | refine WL.f rfl rfl rfl (by simp (decide := true) only [EVs, EVt, Array.toList] <;> exact rfl) (by simp (decide := true) only [EVs, EVt, Array.toList, calleeOf] <;> exact rfl) (by simp (decide := true) only [EVs, EVt, Array.toList, argsOf, frz] <;> exact rfl) (by first | exact sp_begun11) ?_ | refine WL.one (by simp (decide := true) only [EVs, EVt, Array.toList] <;> exact rfl) ?_)); refine WL.nil ?_
  refine AWp.cond (t := false) rfl (AWp.skip ?_)
  have g1 := sp_RMay d l (by omega)
  have g2 := sp_May8 s i o (by omega) (by omega) (by omega)
  cases h1 : mayL d l with
  | false =>
    rw [h1] at g1
    refine AWp.seq (AWp.seq (AWp.regionW T_ok rfl ?_))
    (repeat (first | refine WL.c rfl rfl rfl (by simp (decide := true) only [EVs, EVt, Array.toList] <;> exact rfl) (by simp (decide := true) only [EVs, EVt, Array.toList, calleeOf] <;> exact rfl) (by simp (decide := true) only [EVs, EVt, Array.toList, argsOf, frz] <;> exact rfl) (by first | exact g1 | exact g2) rfl ?_ | refine WL.f rfl rfl rfl (by simp (decide := true) only [EVs, EVt, Array.toList] <;> exact rfl) (by simp (decide := true) only [EVs, EVt, Array.toList, calleeOf] <;> exact rfl) (by simp (decide := true) only [EVs, EVt, Array.toList, argsOf, frz] <;> exact rfl) (by first | exact g1 | exact g2) ?_ | refine WL.one (by simp (decide := true) only [EVs, EVt, Array.toList] <;> exact rfl) ?_)); refine WL.nil ?_
    refine AWp.cond (t := true) rfl (AWp.seq (AWp.regionW T_ok rfl (WL.all (by simp (decide := true) only [EVs, EVt, Array.toList] <;> exact rfl) ?_)))
    exact AWp.ret ⟨_, rfl, .inl (.refl _)⟩
  | true =>
    rw [h1] at g1
    cases h2 : may8 s i o with
    | false =>
      rw [h2] at g2
      refine AWp.seq (AWp.seq (AWp.regionW T_ok rfl ?_))
      (repeat (first | refine WL.c rfl rfl rfl (by simp (decide := true) only [EVs, EVt, Array.toList] <;> exact rfl) (by simp (decide := true) only [EVs, EVt, Array.toList, calleeOf] <;> exact rfl) (by simp (decide := true) only [EVs, EVt, Array.toList, argsOf, frz] <;> exact rfl) (by first | exact g1 | exact g2) rfl ?_ | refine WL.f rfl rfl rfl (by simp (decide := true) only [EVs, EVt, Array.toList] <;> exact rfl) (by simp (decide := true) only [EVs, EVt, Array.toList, calleeOf] <;> exact rfl) (by simp (decide := true) only [EVs, EVt, Array.toList, argsOf, frz] <;> exact rfl) (by first | exact g1 | exact g2) ?_ | refine WL.one (by simp (decide := true) only [EVs, EVt, Array.toList] <;> exact rfl) ?_)); refine WL.nil ?_
      refine AWp.cond (t := true) rfl (AWp.seq (AWp.regionW T_ok rfl (WL.all (by simp (decide := true) only [EVs, EVt, Array.toList] <;> exact rfl) ?_)))
      exact AWp.ret ⟨_, rfl, .inl (.refl _)⟩
    | true =>
      rw [h2] at g2
      have hK := labK h1 hw
      obtain ⟨a1, a2, a3, hD, hlen⟩ := may8_dis h2
      have s4 := spl_len d l 4
      have s1 := spl_len d l 1
      have s0 := spl_len d l 0
      have k16 := hK.len
      have hbl := bk_len s i o
      obtain ⟨b4, b1, b0⟩ := lvs_bk a1 a2 a3 hD
      have f1 := sp_TSplit d l (by omega) hK.lv
      have f2 := sp_TBack s i o (by omega) (by omega) (by omega) cs ci co
      have f3 := sp_TSplit 2 (bk s i o) (by omega) (fun p hp => by have := bk_lv p hp; omega)
      rw [spl_t (okS_bk s i o), spl_t (okS_bk s i o), spl_t (okS_bk s i o), splE_t (okS_bk s i o), b4, b1, b0] at f3
      have f4 := sp_SameSets8 s i o s i o (by omega) (by omega) (by omega) (by omega) (by omega) (by omega)
      rw [same3_self] at f4
      refine AWp.seq (AWp.seq (AWp.regionW T_ok rfl ?_))
      (repeat (first | refine WL.c rfl rfl rfl (by simp (decide := true) only [EVs, EVt, Array.toList] <;> exact rfl) (by simp (decide := true) only [EVs, EVt, Array.toList, calleeOf] <;> exact rfl) (by simp (decide := true) only [EVs, EVt, Array.toList, argsOf, frz] <;> exact rfl) (by first | exact g1 | exact g2) rfl ?_ | refine WL.f rfl rfl rfl (by simp (decide := true) only [EVs, EVt, Array.toList] <;> exact rfl) (by simp (decide := true) only [EVs, EVt, Array.toList, calleeOf] <;> exact rfl) (by simp (decide := true) only [EVs, EVt, Array.toList, argsOf, frz] <;> exact rfl) (by first | exact g1 | exact g2) ?_ | refine WL.one (by simp (decide := true) only [EVs, EVt, Array.toList] <;> exact rfl) ?_)); refine WL.nil ?_
      refine AWp.cond (t := false) rfl (AWp.skip ?_)
      refine AWp.seq (AWp.regionW T_ok rfl ?_)
      (repeat (first | refine WL.c rfl rfl rfl (by simp (decide := true) only [EVs, EVt, Array.toList] <;> exact rfl) (by simp (decide := true) only [EVs, EVt, Array.toList, calleeOf] <;> exact rfl) (by simp (decide := true) only [EVs, EVt, Array.toList, argsOf, frz] <;> exact rfl) (by first | exact f1) rfl ?_ | refine WL.f rfl rfl rfl (by simp (decide := true) only [EVs, EVt, Array.toList] <;> exact rfl) (by simp (decide := true) only [EVs, EVt, Array.toList, calleeOf] <;> exact rfl) (by simp (decide := true) only [EVs, EVt, Array.toList, argsOf, frz] <;> exact rfl) (by first | exact f1) ?_ | refine WL.one (by simp (decide := true) only [EVs, EVt, Array.toList] <;> exact rfl) ?_)); refine WL.nil ?_
      refine AWp.seq (AWp.regionW T_ok rfl ?_)
      (repeat (first | refine WL.c rfl rfl rfl (by simp (decide := true) only [EVs, EVt, Array.toList] <;> exact rfl) (by simp (decide := true) only [EVs, EVt, Array.toList, calleeOf] <;> exact rfl) (by simp (decide := true) only [EVs, EVt, Array.toList, argsOf, frz] <;> exact rfl) (by first | exact f2 | exact f3) rfl ?_ | refine WL.f rfl rfl rfl (by simp (decide := true) only [EVs, EVt, Array.toList] <;> exact rfl) (by simp (decide := true) only [EVs, EVt, Array.toList, calleeOf] <;> exact rfl) (by simp (decide := true) only [EVs, EVt, Array.toList, argsOf, frz] <;> exact rfl) (by first | exact f2 | exact f3) ?_ | refine WL.one (by simp (decide := true) only [EVs, EVt, Array.toList] <;> exact rfl) ?_)); refine WL.nil ?_
      refine AWp.seqI (fun st => ∃ (q : Nat → AV) (B : Nat → Nat × List AV) (L : Nat → Nat), st = ⟨99, 0, q, B, L⟩ ∧ q 2 = .ptr 2 1 0 ∧ q 3 = .ptr 3 1 0 ∧ q 5 = .ptr 5 1 0 ∧ q 7 = .ptr 7 1 0 ∧ q 6 = i64 (splE d l) ∧ q 8 = i64 0 ∧ q 9 = bo (two d l 0) ∧
        B 2 = (1, [u8 d, lps l]) ∧ B 3 = (1, [l16 s, l16 i, l16 o]) ∧ B 5 = (1, [l16 (spl d l 4), l16 (spl d l 1), l16 (spl d l 0)]) ∧ B 7 = (1, [l16 s, l16 i, l16 o])) (AWp.regionW T_ok rfl (WL.all (by simp (decide := true) only [EVs, EVt, Array.toList] <;> exact rfl) ?_)) ?_
      · refine ⟨_, _, _, rfl, rfl, rfl, rfl, rfl, rfl, rfl, ?_, rfl, rfl, rfl, rfl⟩
        simp (decide := true) only [EVs, EVt, Array.toList]
        simp [two, eqI]
      rintro st ⟨q, B, L, rfl, q2, q3, q5, q7, q6, q8, q9, B2, B3, B5, B7⟩
      refine AWp.seqI (fun st => ∃ (q : Nat → AV) (L : Nat → Nat), st = ⟨99, 0, q, B, L⟩ ∧ q 2 = .ptr 2 1 0 ∧ q 3 = .ptr 3 1 0 ∧ q 5 = .ptr 5 1 0 ∧ q 7 = .ptr 7 1 0 ∧ q 6 = i64 (splE d l) ∧ q 8 = i64 0 ∧ q 9 = bo (!okS d l)) (AWp.seq (AWp.regionW T_ok rfl (WL.all (by simp (decide := true) only [EVs, EVt, Array.toList] <;> exact rfl) ?_))) ?_
      · refine AWp.block (AWp.loop (fun n st => ∃ (j : Nat) (q : Nat → AV) (L : Nat → Nat), st = ⟨99, 0, q, B, L⟩ ∧ j ≤ l.length ∧ n = l.length - j ∧ q 2 = .ptr 2 1 0 ∧ q 3 = .ptr 3 1 0 ∧ q 5 = .ptr 5 1 0 ∧ q 7 = .ptr 7 1 0 ∧ q 6 = i64 (splE d l) ∧ q 8 = i64 0 ∧ q 9 = bo (two d l j) ∧ q 10 = i64 j) ?_ (n := l.length)
          ⟨0, _, _, rfl, Nat.zero_le _, rfl, ?_, ?_, ?_, ?_, ?_, ?_, ?_, rfl⟩)
        · rintro n st ⟨j, q, L, rfl, hj, rfl, q2, q3, q5, q7, q6, q8, q9, q10⟩
          by_cases hlt : j < l.length
          · have e1 : ltI (j : Int) (l.length : Int) = true := ltI_t (by omega)
            have e2 := get_mapi prA l j hlt
            have e7 := wup j (by omega)
            have hs := two_succ d l j hlt
            refine AWp.seq (AWp.seq (AWp.regionW T_ok rfl (WL.all (by simp (decide := true) only [EVs, EVt, Array.toList, q2, q10, B2, e1] <;> exact rfl) ?_)))
            refine AWp.cond (t := true) rfl (AWp.skip ?_)
            cases ht : two d l j with
            | true =>
              rw [ht] at q9 hs
              refine AWp.seq (AWp.block (AWp.regionW T_ok rfl (WL.all (by simp (decide := true) only [EVs, EVt, Array.toList, q2, q9, q10, B2, e2] <;> exact rfl) ?_)))
              refine (AWp.regionW T_ok rfl (WL.all (by simp (decide := true) only [EVs, EVt, Array.toList, q10, e7] <;> exact rfl) ?_))
              refine ⟨l.length - (j + 1), by omega, j + 1, _, _, rfl, by omega, rfl, ?_, ?_, ?_, ?_, ?_, ?_, ?_, ?_⟩
              · simp (decide := true) only [EVs, EVt, Array.toList, q2]
              · simp (decide := true) only [EVs, EVt, Array.toList, q3]
              · simp (decide := true) only [EVs, EVt, Array.toList, q5]
              · simp (decide := true) only [EVs, EVt, Array.toList, q7]
              · simp (decide := true) only [EVs, EVt, Array.toList, q6]
              · simp (decide := true) only [EVs, EVt, Array.toList, q8]
              · rw [hs]; simp (decide := true) only [EVs, EVt, Array.toList]; rfl
              · simp (decide := true) only [EVs, EVt, Array.toList]
            | false =>
              rw [ht, Bool.false_or] at hs
              rw [ht] at q9
              have hx : eqI l[j].l 3 = decide (l[j].l = 3) := rfl
              refine AWp.seq (AWp.block (AWp.regionW T_ok rfl (WL.all (by simp (decide := true) only [EVs, EVt, Array.toList, q2, q9, q10, B2, e2] <;> exact rfl) ?_)))
              refine (AWp.regionW T_ok rfl (WL.all (by simp (decide := true) only [EVs, EVt, Array.toList, q10, e7] <;> exact rfl) ?_))
              refine ⟨l.length - (j + 1), by omega, j + 1, _, _, rfl, by omega, rfl, ?_, ?_, ?_, ?_, ?_, ?_, ?_, ?_⟩
              · simp (decide := true) only [EVs, EVt, Array.toList, q2]
              · simp (decide := true) only [EVs, EVt, Array.toList, q3]
              · simp (decide := true) only [EVs, EVt, Array.toList, q5]
              · simp (decide := true) only [EVs, EVt, Array.toList, q7]
              · simp (decide := true) only [EVs, EVt, Array.toList, q6]
              · simp (decide := true) only [EVs, EVt, Array.toList, q8]
              · rw [hs, ← hx]; simp (decide := true) only [EVs, EVt, Array.toList]
              · simp (decide := true) only [EVs, EVt, Array.toList]
          · obtain rfl : j = l.length := by omega
            have e1 : ltI (l.length : Int) (l.length : Int) = false := ltI_f (by omega)
            rw [two_all, hK.nam] at q9
            refine AWp.seq (AWp.seq (AWp.regionW T_ok rfl (WL.all (by simp (decide := true) only [EVs, EVt, Array.toList, q2, q10, B2, e1] <;> exact rfl) ?_)))
            refine AWp.cond (t := false) rfl (AWp.exit ?_)
            refine ⟨_, _, rfl, ?_, ?_, ?_, ?_, ?_, ?_, ?_⟩
            · simp (decide := true) only [EVs, EVt, Array.toList, q2]
            · simp (decide := true) only [EVs, EVt, Array.toList, q3]
            · simp (decide := true) only [EVs, EVt, Array.toList, q5]
            · simp (decide := true) only [EVs, EVt, Array.toList, q7]
            · simp (decide := true) only [EVs, EVt, Array.toList, q6]
            · simp (decide := true) only [EVs, EVt, Array.toList, q8]
            · simp (decide := true) only [EVs, EVt, Array.toList, q9]
        · simp (decide := true) only [EVs, EVt, Array.toList, q2]
        · simp (decide := true) only [EVs, EVt, Array.toList, q3]
        · simp (decide := true) only [EVs, EVt, Array.toList, q5]
        · simp (decide := true) only [EVs, EVt, Array.toList, q7]
        · simp (decide := true) only [EVs, EVt, Array.toList, q6]
        · simp (decide := true) only [EVs, EVt, Array.toList, q8]
        · simp (decide := true) only [EVs, EVt, Array.toList, q9]
      rintro st ⟨q, L, rfl, q2, q3, q5, q7, q6, q8, q9⟩
      cases hk : okS d l with
      | false =>
        rw [hk] at q9
        rw [splE_f hk] at q6
        rw [spl_f hk, spl_f hk, spl_f hk] at B5
        have w0 : IntKind.i64.wrap (0 + 0) = 0 := rfl
        refine AWp.seq (AWp.seq (AWp.regionW T_ok rfl (WL.all (by simp (decide := true) only [EVs, EVt, Array.toList, q9] <;> exact rfl) ?_)))
        refine AWp.cond (t := true) rfl (AWp.seq (AWp.regionW T_ok rfl ?_))
        (repeat (first | refine WL.c rfl rfl rfl (by simp (decide := true) only [EVs, EVt, Array.toList, q3, q5, q6, q7, q8, B3, B5, B7, eqI_self, w0, Int.natCast_zero, Int.ofNat_zero] <;> exact rfl) (by simp (decide := true) only [EVs, EVt, Array.toList, calleeOf, q3, q5, q6, q7, q8, B3, B5, B7, eqI_self, w0, Int.natCast_zero, Int.ofNat_zero] <;> exact rfl) (by simp (decide := true) only [EVs, EVt, Array.toList, argsOf, frz, q3, q5, q6, q7, q8, B3, B5, B7, eqI_self, w0, Int.natCast_zero, Int.ofNat_zero] <;> exact rfl) (by first | exact f4) rfl ?_ | refine WL.f rfl rfl rfl (by simp (decide := true) only [EVs, EVt, Array.toList, q3, q5, q6, q7, q8, B3, B5, B7, eqI_self, w0, Int.natCast_zero, Int.ofNat_zero] <;> exact rfl) (by simp (decide := true) only [EVs, EVt, Array.toList, calleeOf, q3, q5, q6, q7, q8, B3, B5, B7, eqI_self, w0, Int.natCast_zero, Int.ofNat_zero] <;> exact rfl) (by simp (decide := true) only [EVs, EVt, Array.toList, argsOf, frz, q3, q5, q6, q7, q8, B3, B5, B7, eqI_self, w0, Int.natCast_zero, Int.ofNat_zero] <;> exact rfl) (by first | exact f4) ?_ | refine WL.one (by simp (decide := true) only [EVs, EVt, Array.toList, q3, q5, q6, q7, q8, B3, B5, B7, eqI_self, w0, Int.natCast_zero, Int.ofNat_zero] <;> exact rfl) ?_)); refine WL.nil ?_
        exact AWp.ret ⟨_, rfl, .inl (.refl _)⟩
      | true =>
        obtain ⟨rfl, _⟩ := okS_iff.1 hk
        rw [hk] at q9
        rw [splE_t hk] at q6
        rw [spl_t hk, spl_t hk, spl_t hk] at B5
        rw [spl_t hk] at s4 s1 s0
        have c' := lvs_cat' (wfP_cat hw)
        have f5 := sp_TBack (lvs l 4) (lvs l 1) (lvs l 0) (by omega) (by omega) (by omega) (c' 4) (c' 1) (c' 0)
        rw [bk_lvs hk hK.asc] at f5
        have f6 := sp_RSame 2 l 2 l (by omega) (by omega)
        rw [sameL_self] at f6
        have f7 := sp_May8 (lvs l 4) (lvs l 1) (lvs l 0) (by omega) (by omega) (by omega)
        rw [may8_lvs hK.asc k16] at f7
        refine AWp.seq (AWp.seq (AWp.regionW T_ok rfl (WL.all (by simp (decide := true) only [EVs, EVt, Array.toList, q9] <;> exact rfl) ?_)))
        refine AWp.cond (t := false) rfl (AWp.skip ?_)
        refine AWp.seq (AWp.drawnW T_ok mixed (by kernel_rfl) rfl ?_)
        (repeat (first | refine WL.c rfl rfl rfl (by simp (decide := true) only [EVs, EVt, Array.toList, q2, q3, q5, q6, q7, q8, B2, B3, B5, B7, eqI_self] <;> exact rfl) (by simp (decide := true) only [EVs, EVt, Array.toList, calleeOf, q2, q3, q5, q6, q7, q8, B2, B3, B5, B7, eqI_self] <;> exact rfl) (by simp (decide := true) only [EVs, EVt, Array.toList, argsOf, frz, q2, q3, q5, q6, q7, q8, B2, B3, B5, B7, eqI_self] <;> exact rfl) (by first | exact f4 | exact f5 | exact f6 | exact f7) rfl ?_ | refine WL.f rfl rfl rfl (by simp (decide := true) only [EVs, EVt, Array.toList, q2, q3, q5, q6, q7, q8, B2, B3, B5, B7, eqI_self] <;> exact rfl) (by simp (decide := true) only [EVs, EVt, Array.toList, calleeOf, q2, q3, q5, q6, q7, q8, B2, B3, B5, B7, eqI_self] <;> exact rfl) (by simp (decide := true) only [EVs, EVt, Array.toList, argsOf, frz, q2, q3, q5, q6, q7, q8, B2, B3, B5, B7, eqI_self] <;> exact rfl) (by first | exact f4 | exact f5 | exact f6 | exact f7) ?_ | refine WL.one (by simp (decide := true) only [EVs, EVt, Array.toList, q2, q3, q5, q6, q7, q8, B2, B3, B5, B7, eqI_self] <;> exact rfl) ?_)); refine WL.nil ?_
        exact AWp.ret ⟨_, rfl, .inl (.refl _)⟩

theorem sp_TransOwns (d : Int) (l : List Pr) (c : Int) (hd : isB d) (hl : l.length ≤ 35184372087808) (hw : ∀ p ∈ l, wfP p) (hc : 0 ≤ c ∧ c < 65536) : ACall Try.prog 6 [lab d l, u16 c] (bo true) := by
  refine acall_of Try.func6 rfl rfl (Nat.le_of_ble_eq_true rfl) T_ok (fun base w0 => ?_)
  refine AWp.seq (AWp.regionW T_ok rfl (WL.all (by simp (decide := true) only [EVs, EVt, Array.toList] <;> exact rfl) ?_))
  refine AWp.seq (AWp.seq (AWp.regionW T_ok rfl ?_))
  (repeat (first | refine WL.c rfl rfl rfl (by simp (decide := true) only [EVs, EVt, Array.toList] <;> exact rfl) (by simp (decide := true) only [EVs, EVt, Array.toList, calleeOf] <;> exact rfl) (by simp (decide := true) only [EVs, EVt, Array.toList, argsOf, frz] <;> exact rfl) (by first | exact sp_begun11) rfl ?_ | refine WL.f rfl rfl rfl (by simp (decide := true) only [EVs, EVt, Array.toList] <;> exact rfl) (by simp (decide := true) only [EVs, EVt, Array.toList, calleeOf] <;> exact rfl) (by simp (decide := true) only [EVs, EVt, Array.toList, argsOf, frz] <;> exact rfl) (by first | exact sp_begun11) ?_ | refine WL.one (by simp (decide := true) only [EVs, EVt, Array.toList] <;> exact rfl) ?_)); refine WL.nil ?_
  refine AWp.cond (t := false) rfl (AWp.skip ?_)
  have g1 := sp_RMay d l (by omega)
  cases h1 : mayL d l with
  | false =>
    rw [h1] at g1
    refine AWp.seq (AWp.seq (AWp.regionW T_ok rfl ?_))
    (repeat (first | refine WL.c rfl rfl rfl (by simp (decide := true) only [EVs, EVt, Array.toList] <;> exact rfl) (by simp (decide := true) only [EVs, EVt, Array.toList, calleeOf] <;> exact rfl) (by simp (decide := true) only [EVs, EVt, Array.toList, argsOf, frz] <;> exact rfl) (by first | exact g1) rfl ?_ | refine WL.f rfl rfl rfl (by simp (decide := true) only [EVs, EVt, Array.toList] <;> exact rfl) (by simp (decide := true) only [EVs, EVt, Array.toList, calleeOf] <;> exact rfl) (by simp (decide := true) only [EVs, EVt, Array.toList, argsOf, frz] <;> exact rfl) (by first | exact g1) ?_ | refine WL.one (by simp (decide := true) only [EVs, EVt, Array.toList] <;> exact rfl) ?_)); refine WL.nil ?_
    refine AWp.cond (t := true) rfl (AWp.seq (AWp.regionW T_ok rfl (WL.all (by simp (decide := true) only [EVs, EVt, Array.toList] <;> exact rfl) ?_)))
    exact AWp.ret ⟨_, rfl, .inl (.refl _)⟩
  | true =>
    rw [h1] at g1
    have hK := labK h1 hw
    have k16 := hK.len
    have f1 := sp_TSplit d l (by omega) hK.lv
    have f2 := sp_RSetAt d l c 0 (by omega)
    have hml := mkl_len d (l ++ [⟨c, 0⟩])
    rw [List.length_append, List.length_singleton] at hml
    have f3 := sp_RMay d (setR d l c 0) (by unfold setR; omega)
    refine AWp.seq (AWp.seq (AWp.regionW T_ok rfl ?_))
    (repeat (first | refine WL.c rfl rfl rfl (by simp (decide := true) only [EVs, EVt, Array.toList] <;> exact rfl) (by simp (decide := true) only [EVs, EVt, Array.toList, calleeOf] <;> exact rfl) (by simp (decide := true) only [EVs, EVt, Array.toList, argsOf, frz] <;> exact rfl) (by first | exact g1) rfl ?_ | refine WL.f rfl rfl rfl (by simp (decide := true) only [EVs, EVt, Array.toList] <;> exact rfl) (by simp (decide := true) only [EVs, EVt, Array.toList, calleeOf] <;> exact rfl) (by simp (decide := true) only [EVs, EVt, Array.toList, argsOf, frz] <;> exact rfl) (by first | exact g1) ?_ | refine WL.one (by simp (decide := true) only [EVs, EVt, Array.toList] <;> exact rfl) ?_)); refine WL.nil ?_
    refine AWp.cond (t := false) rfl (AWp.skip ?_)
    cases hk : okS d l with
    | false =>
      rw [splE_f hk] at f1
      have c1 : eqI 14 0 = false := rfl
      refine AWp.seq (AWp.regionW T_ok rfl ?_)
      (repeat (first | refine WL.c rfl rfl rfl (by simp (decide := true) only [EVs, EVt, Array.toList] <;> exact rfl) (by simp (decide := true) only [EVs, EVt, Array.toList, calleeOf] <;> exact rfl) (by simp (decide := true) only [EVs, EVt, Array.toList, argsOf, frz] <;> exact rfl) (by first | exact f1) rfl ?_ | refine WL.f rfl rfl rfl (by simp (decide := true) only [EVs, EVt, Array.toList] <;> exact rfl) (by simp (decide := true) only [EVs, EVt, Array.toList, calleeOf] <;> exact rfl) (by simp (decide := true) only [EVs, EVt, Array.toList, argsOf, frz] <;> exact rfl) (by first | exact f1) ?_ | refine WL.one (by simp (decide := true) only [EVs, EVt, Array.toList] <;> exact rfl) ?_)); refine WL.nil ?_
      refine AWp.seq (AWp.seq (AWp.regionW T_ok rfl ?_))
      (repeat (first | refine WL.c rfl rfl rfl (by simp (decide := true) only [EVs, EVt, Array.toList, c1] <;> exact rfl) (by simp (decide := true) only [EVs, EVt, Array.toList, calleeOf, c1] <;> exact rfl) (by simp (decide := true) only [EVs, EVt, Array.toList, argsOf, frz, c1] <;> exact rfl) (by first | exact f2 | exact f3) rfl ?_ | refine WL.f rfl rfl rfl (by simp (decide := true) only [EVs, EVt, Array.toList, c1] <;> exact rfl) (by simp (decide := true) only [EVs, EVt, Array.toList, calleeOf, c1] <;> exact rfl) (by simp (decide := true) only [EVs, EVt, Array.toList, argsOf, frz, c1] <;> exact rfl) (by first | exact f2 | exact f3) ?_ | refine WL.one (by simp (decide := true) only [EVs, EVt, Array.toList, c1] <;> exact rfl) ?_)); refine WL.nil ?_
      refine AWp.cond (t := true) rfl (AWp.seq (AWp.regionW T_ok rfl (WL.all (by simp (decide := true) only [EVs, EVt, Array.toList] <;> exact rfl) ?_)))
      exact AWp.ret ⟨_, rfl, .inl (.refl _)⟩
    | true =>
      obtain ⟨rfl, _⟩ := okS_iff.1 hk
      rw [splE_t hk, spl_t hk, spl_t hk, spl_t hk] at f1
      refine AWp.seq (AWp.regionW T_ok rfl ?_)
      (repeat (first | refine WL.c rfl rfl rfl (by simp (decide := true) only [EVs, EVt, Array.toList] <;> exact rfl) (by simp (decide := true) only [EVs, EVt, Array.toList, calleeOf] <;> exact rfl) (by simp (decide := true) only [EVs, EVt, Array.toList, argsOf, frz] <;> exact rfl) (by first | exact f1) rfl ?_ | refine WL.f rfl rfl rfl (by simp (decide := true) only [EVs, EVt, Array.toList] <;> exact rfl) (by simp (decide := true) only [EVs, EVt, Array.toList, calleeOf] <;> exact rfl) (by simp (decide := true) only [EVs, EVt, Array.toList, argsOf, frz] <;> exact rfl) (by first | exact f1) ?_ | refine WL.one (by simp (decide := true) only [EVs, EVt, Array.toList] <;> exact rfl) ?_)); refine WL.nil ?_
      cases h2 : mayL 2 (setR 2 l c 0) with
      | false =>
        rw [h2] at f3
        refine AWp.seq (AWp.seq (AWp.regionW T_ok rfl ?_))
        (repeat (first | refine WL.c rfl rfl rfl (by simp (decide := true) only [EVs, EVt, Array.toList, eqI_self] <;> exact rfl) (by simp (decide := true) only [EVs, EVt, Array.toList, calleeOf, eqI_self] <;> exact rfl) (by simp (decide := true) only [EVs, EVt, Array.toList, argsOf, frz, eqI_self] <;> exact rfl) (by first | exact f2 | exact f3) rfl ?_ | refine WL.f rfl rfl rfl (by simp (decide := true) only [EVs, EVt, Array.toList, eqI_self] <;> exact rfl) (by simp (decide := true) only [EVs, EVt, Array.toList, calleeOf, eqI_self] <;> exact rfl) (by simp (decide := true) only [EVs, EVt, Array.toList, argsOf, frz, eqI_self] <;> exact rfl) (by first | exact f2 | exact f3) ?_ | refine WL.one (by simp (decide := true) only [EVs, EVt, Array.toList, eqI_self] <;> exact rfl) ?_)); refine WL.nil ?_
        refine AWp.cond (t := true) rfl (AWp.seq (AWp.regionW T_ok rfl (WL.all (by simp (decide := true) only [EVs, EVt, Array.toList] <;> exact rfl) ?_)))
        exact AWp.ret ⟨_, rfl, .inl (.refl _)⟩
      | true =>
        rw [h2] at f3
        obtain ⟨m0, m4, m1, m9⟩ := star_of hk hK.asc c
        rw [show mkl 2 (l ++ [⟨c, 0⟩]) = setR 2 l c 0 from rfl] at m0 m4 m1 m9
        have f4 := sp_LSet 2 l c 0 (by omega) (wfP_cat hw) hc.1 hc.2
        have f5 := sp_TSplit 2 (setR 2 l c 0) (by unfold setR; omega) (mkl_q (q := fun x => 0 ≤ x ∧ x ≤ 5) (by omega) fun p hp => by
          rcases List.mem_append.1 hp with hp | hp
          · exact hK.lv p hp
          · rw [List.mem_singleton.1 hp]; simp)
        rw [splE_t m0, spl_t m0, spl_t m0, spl_t m0] at f5
        rw [m4, m1, m9] at f5
        have n4 := lvs_len l 4
        have n1 := lvs_len l 1
        have n0 := lvs_len l 0
        have f6 := sp_SAdd (lvs l 4) (lvs l 1) (lvs l 0) c (by omega) (by omega) (by omega)
        have u1 : (less (lvs l 4) [c]).length ≤ (lvs l 4).length + 1 := mrg_len ..
        have u2 : (less (lvs l 1) [c]).length ≤ (lvs l 1).length + 1 := mrg_len ..
        have u3 : (un (lvs l 0) [c]).length ≤ (lvs l 0).length + 1 := mrg_len ..
        have f7 := sp_SameSets8 (less (lvs l 4) [c]) (less (lvs l 1) [c]) (un (lvs l 0) [c]) (less (lvs l 4) [c]) (less (lvs l 1) [c]) (un (lvs l 0) [c]) (by omega) (by omega) (by omega) (by omega) (by omega) (by omega)
        rw [same3_self] at f7
        refine AWp.seq (AWp.seq (AWp.regionW T_ok rfl ?_))
        (repeat (first | refine WL.c rfl rfl rfl (by simp (decide := true) only [EVs, EVt, Array.toList, eqI_self] <;> exact rfl) (by simp (decide := true) only [EVs, EVt, Array.toList, calleeOf, eqI_self] <;> exact rfl) (by simp (decide := true) only [EVs, EVt, Array.toList, argsOf, frz, eqI_self] <;> exact rfl) (by first | exact f2 | exact f3) rfl ?_ | refine WL.f rfl rfl rfl (by simp (decide := true) only [EVs, EVt, Array.toList, eqI_self] <;> exact rfl) (by simp (decide := true) only [EVs, EVt, Array.toList, calleeOf, eqI_self] <;> exact rfl) (by simp (decide := true) only [EVs, EVt, Array.toList, argsOf, frz, eqI_self] <;> exact rfl) (by first | exact f2 | exact f3) ?_ | refine WL.one (by simp (decide := true) only [EVs, EVt, Array.toList, eqI_self] <;> exact rfl) ?_)); refine WL.nil ?_
        refine AWp.cond (t := false) rfl (AWp.skip ?_)
        refine AWp.seq (AWp.regionW T_ok rfl ?_)
        (repeat (first | refine WL.c rfl rfl rfl (by simp (decide := true) only [EVs, EVt, Array.toList] <;> exact rfl) (by simp (decide := true) only [EVs, EVt, Array.toList, calleeOf] <;> exact rfl) (by simp (decide := true) only [EVs, EVt, Array.toList, argsOf, frz] <;> exact rfl) (by first | exact f4 | exact f5) rfl ?_ | refine WL.f rfl rfl rfl (by simp (decide := true) only [EVs, EVt, Array.toList] <;> exact rfl) (by simp (decide := true) only [EVs, EVt, Array.toList, calleeOf] <;> exact rfl) (by simp (decide := true) only [EVs, EVt, Array.toList, argsOf, frz] <;> exact rfl) (by first | exact f4 | exact f5) ?_ | refine WL.one (by simp (decide := true) only [EVs, EVt, Array.toList] <;> exact rfl) ?_)); refine WL.nil ?_
        refine AWp.seq (AWp.drawnW T_ok mixed (by kernel_rfl) rfl ?_)
        (repeat (first | refine WL.c rfl rfl rfl (by simp (decide := true) only [EVs, EVt, Array.toList, eqI_self] <;> exact rfl) (by simp (decide := true) only [EVs, EVt, Array.toList, calleeOf, eqI_self] <;> exact rfl) (by simp (decide := true) only [EVs, EVt, Array.toList, argsOf, frz, eqI_self] <;> exact rfl) (by first | exact f6 | exact f7) rfl ?_ | refine WL.f rfl rfl rfl (by simp (decide := true) only [EVs, EVt, Array.toList, eqI_self] <;> exact rfl) (by simp (decide := true) only [EVs, EVt, Array.toList, calleeOf, eqI_self] <;> exact rfl) (by simp (decide := true) only [EVs, EVt, Array.toList, argsOf, frz, eqI_self] <;> exact rfl) (by first | exact f6 | exact f7) ?_ | refine WL.one (by simp (decide := true) only [EVs, EVt, Array.toList, eqI_self] <;> exact rfl) ?_)); refine WL.nil ?_
        exact AWp.ret ⟨_, rfl, .inl (.refl _)⟩

theorem sp_TransMay (d : Int) (l : List Pr) (e : Int) (m : List Pr) (hd : isB d) (hl : l.length ≤ 35184372087808) (hw : ∀ p ∈ l, wfP p) (he : isB e) (hm : m.length ≤ 35184372087808) (hw' : ∀ p ∈ m, wfP p) : ACall Try.prog 8 [lab d l, lab e m] (bo true) := by
  refine acall_of Try.func8 rfl rfl (Nat.le_of_ble_eq_true rfl) T_ok (fun base w0 => ?_)
  refine AWp.seq (AWp.regionW T_ok rfl (WL.all (by simp (decide := true) only [EVs, EVt, Array.toList] <;> exact rfl) ?_))
  refine AWp.seq (AWp.seq (AWp.regionW T_ok rfl ?_))
  (repeat (first | refine WL.c rfl rfl rfl (by simp (decide := true) only [EVs, EVt, Array.toList] <;> exact rfl) (by simp (decide := true) only [EVs, EVt, Array.toList, calleeOf] <;> exact rfl) (by simp (decide := true) only [EVs, EVt, Array.toList, argsOf, frz] <;> exact rfl) (by first | exact sp_begun11) rfl ?_ | refine WL.f rfl rfl rfl (by simp (decide := true) only [EVs, EVt, Array.toList] <;> exact rfl) (by simp (decide := true) only [EVs, EVt, Array.toList, calleeOf] <;> exact rfl) (by simp (decide := true) only [EVs, EVt, Array.toList, argsOf, frz] <;> exact rfl) (by first | exact sp_begun11) ?_ | refine WL.one (by simp (decide := true) only [EVs, EVt, Array.toList] <;> exact rfl) ?_)); refine WL.nil ?_
  refine AWp.cond (t := false) rfl (AWp.skip ?_)
  have g1 := sp_RMay d l (by omega)
  have g2 := sp_RMay e m (by omega)
  cases h1 : mayL d l with
  | false =>
    rw [h1] at g1
    refine AWp.seq (AWp.seq (AWp.regionW T_ok rfl ?_))
    (repeat (first | refine WL.c rfl rfl rfl (by simp (decide := true) only [EVs, EVt, Array.toList] <;> exact rfl) (by simp (decide := true) only [EVs, EVt, Array.toList, calleeOf] <;> exact rfl) (by simp (decide := true) only [EVs, EVt, Array.toList, argsOf, frz] <;> exact rfl) (by first | exact g1 | exact g2) rfl ?_ | refine WL.f rfl rfl rfl (by simp (decide := true) only [EVs, EVt, Array.toList] <;> exact rfl) (by simp (decide := true) only [EVs, EVt, Array.toList, calleeOf] <;> exact rfl) (by simp (decide := true) only [EVs, EVt, Array.toList, argsOf, frz] <;> exact rfl) (by first | exact g1 | exact g2) ?_ | refine WL.one (by simp (decide := true) only [EVs, EVt, Array.toList] <;> exact rfl) ?_)); refine WL.nil ?_
    refine AWp.cond (t := true) rfl (AWp.seq (AWp.regionW T_ok rfl (WL.all (by simp (decide := true) only [EVs, EVt, Array.toList] <;> exact rfl) ?_)))
    exact AWp.ret ⟨_, rfl, .inl (.refl _)⟩
  | true =>
  rw [h1] at g1
  cases h2 : mayL e m with
  | false =>
    rw [h2] at g2
    refine AWp.seq (AWp.seq (AWp.regionW T_ok rfl ?_))
    (repeat (first | refine WL.c rfl rfl rfl (by simp (decide := true) only [EVs, EVt, Array.toList] <;> exact rfl) (by simp (decide := true) only [EVs, EVt, Array.toList, calleeOf] <;> exact rfl) (by simp (decide := true) only [EVs, EVt, Array.toList, argsOf, frz] <;> exact rfl) (by first | exact g1 | exact g2) rfl ?_ | refine WL.f rfl rfl rfl (by simp (decide := true) only [EVs, EVt, Array.toList] <;> exact rfl) (by simp (decide := true) only [EVs, EVt, Array.toList, calleeOf] <;> exact rfl) (by simp (decide := true) only [EVs, EVt, Array.toList, argsOf, frz] <;> exact rfl) (by first | exact g1 | exact g2) ?_ | refine WL.one (by simp (decide := true) only [EVs, EVt, Array.toList] <;> exact rfl) ?_)); refine WL.nil ?_
    refine AWp.cond (t := true) rfl (AWp.seq (AWp.regionW T_ok rfl (WL.all (by simp (decide := true) only [EVs, EVt, Array.toList] <;> exact rfl) ?_)))
    exact AWp.ret ⟨_, rfl, .inl (.refl _)⟩
  | true =>
  rw [h2] at g2
  have hK := labK h1 hw
  have hM := labK h2 hw'
  have k16 := hK.len
  have m16 := hM.len
  have f1 := sp_TSplit d l (by omega) hK.lv
  have f2 := sp_TSplit e m (by omega) hM.lv
  have f3 := sp_Names d l (by omega)
  have f4 := sp_Names e m (by omega)
  rw [hK.nam] at f3
  rw [hM.nam] at f4
  refine AWp.seq (AWp.seq (AWp.regionW T_ok rfl ?_))
  (repeat (first | refine WL.c rfl rfl rfl (by simp (decide := true) only [EVs, EVt, Array.toList] <;> exact rfl) (by simp (decide := true) only [EVs, EVt, Array.toList, calleeOf] <;> exact rfl) (by simp (decide := true) only [EVs, EVt, Array.toList, argsOf, frz] <;> exact rfl) (by first | exact g1 | exact g2) rfl ?_ | refine WL.f rfl rfl rfl (by simp (decide := true) only [EVs, EVt, Array.toList] <;> exact rfl) (by simp (decide := true) only [EVs, EVt, Array.toList, calleeOf] <;> exact rfl) (by simp (decide := true) only [EVs, EVt, Array.toList, argsOf, frz] <;> exact rfl) (by first | exact g1 | exact g2) ?_ | refine WL.one (by simp (decide := true) only [EVs, EVt, Array.toList] <;> exact rfl) ?_)); refine WL.nil ?_
  refine AWp.cond (t := false) rfl (AWp.skip ?_)
  have c1 : eqI 14 0 = false := rfl
  have c2 : ((true : Bool) == true) = true := rfl
  have c3 : ((false : Bool) == false) = true := rfl
  refine AWp.seq (AWp.regionW T_ok rfl ?_)
  (repeat (first | refine WL.c rfl rfl rfl (by simp (decide := true) only [EVs, EVt, Array.toList] <;> exact rfl) (by simp (decide := true) only [EVs, EVt, Array.toList, calleeOf] <;> exact rfl) (by simp (decide := true) only [EVs, EVt, Array.toList, argsOf, frz] <;> exact rfl) (by first | exact f1) rfl ?_ | refine WL.f rfl rfl rfl (by simp (decide := true) only [EVs, EVt, Array.toList] <;> exact rfl) (by simp (decide := true) only [EVs, EVt, Array.toList, calleeOf] <;> exact rfl) (by simp (decide := true) only [EVs, EVt, Array.toList, argsOf, frz] <;> exact rfl) (by first | exact f1) ?_ | refine WL.one (by simp (decide := true) only [EVs, EVt, Array.toList] <;> exact rfl) ?_)); refine WL.nil ?_
  refine AWp.seq (AWp.regionW T_ok rfl ?_)
  (repeat (first | refine WL.c rfl rfl rfl (by simp (decide := true) only [EVs, EVt, Array.toList] <;> exact rfl) (by simp (decide := true) only [EVs, EVt, Array.toList, calleeOf] <;> exact rfl) (by simp (decide := true) only [EVs, EVt, Array.toList, argsOf, frz] <;> exact rfl) (by first | exact f2) rfl ?_ | refine WL.f rfl rfl rfl (by simp (decide := true) only [EVs, EVt, Array.toList] <;> exact rfl) (by simp (decide := true) only [EVs, EVt, Array.toList, calleeOf] <;> exact rfl) (by simp (decide := true) only [EVs, EVt, Array.toList, argsOf, frz] <;> exact rfl) (by first | exact f2) ?_ | refine WL.one (by simp (decide := true) only [EVs, EVt, Array.toList] <;> exact rfl) ?_)); refine WL.nil ?_
  cases k1 : okS d l with
  | false =>
    rw [k1] at f3
    rw [splE_f k1]
    cases k2 : okS e m with
    | false =>
      rw [k2] at f4
      rw [splE_f k2]
      refine AWp.seq (AWp.seq (AWp.regionW T_ok rfl (WL.all (by simp (decide := true) only [EVs, EVt, Array.toList, c1] <;> exact rfl) ?_)))
      refine AWp.cond (t := true) rfl (AWp.seq (AWp.regionW T_ok rfl ?_))
      (repeat (first | refine WL.c rfl rfl rfl (by simp (decide := true) only [EVs, EVt, Array.toList, c1, c2, c3] <;> exact rfl) (by simp (decide := true) only [EVs, EVt, Array.toList, calleeOf, c1, c2, c3] <;> exact rfl) (by simp (decide := true) only [EVs, EVt, Array.toList, argsOf, frz, c1, c2, c3] <;> exact rfl) (by first | exact f3 | exact f4) rfl ?_ | refine WL.f rfl rfl rfl (by simp (decide := true) only [EVs, EVt, Array.toList, c1, c2, c3] <;> exact rfl) (by simp (decide := true) only [EVs, EVt, Array.toList, calleeOf, c1, c2, c3] <;> exact rfl) (by simp (decide := true) only [EVs, EVt, Array.toList, argsOf, frz, c1, c2, c3] <;> exact rfl) (by first | exact f3 | exact f4) ?_ | refine WL.one (by simp (decide := true) only [EVs, EVt, Array.toList, c1, c2, c3] <;> exact rfl) ?_)); refine WL.nil ?_
      exact AWp.ret ⟨_, rfl, .inl (.refl _)⟩
    | true =>
      rw [k2] at f4
      rw [splE_t k2]
      refine AWp.seq (AWp.seq (AWp.regionW T_ok rfl (WL.all (by simp (decide := true) only [EVs, EVt, Array.toList, c1] <;> exact rfl) ?_)))
      refine AWp.cond (t := true) rfl (AWp.seq (AWp.regionW T_ok rfl ?_))
      (repeat (first | refine WL.c rfl rfl rfl (by simp (decide := true) only [EVs, EVt, Array.toList, c1, c2, c3, eqI_self] <;> exact rfl) (by simp (decide := true) only [EVs, EVt, Array.toList, calleeOf, c1, c2, c3, eqI_self] <;> exact rfl) (by simp (decide := true) only [EVs, EVt, Array.toList, argsOf, frz, c1, c2, c3, eqI_self] <;> exact rfl) (by first | exact f3 | exact f4) rfl ?_ | refine WL.f rfl rfl rfl (by simp (decide := true) only [EVs, EVt, Array.toList, c1, c2, c3, eqI_self] <;> exact rfl) (by simp (decide := true) only [EVs, EVt, Array.toList, calleeOf, c1, c2, c3, eqI_self] <;> exact rfl) (by simp (decide := true) only [EVs, EVt, Array.toList, argsOf, frz, c1, c2, c3, eqI_self] <;> exact rfl) (by first | exact f3 | exact f4) ?_ | refine WL.one (by simp (decide := true) only [EVs, EVt, Array.toList, c1, c2, c3, eqI_self] <;> exact rfl) ?_)); refine WL.nil ?_
      exact AWp.ret ⟨_, rfl, .inl (.refl _)⟩
  | true =>
    rw [k1] at f3
    rw [splE_t k1]
    cases k2 : okS e m with
    | false =>
      rw [k2] at f4
      rw [splE_f k2]
      refine AWp.seq (AWp.seq (AWp.regionW T_ok rfl (WL.all (by simp (decide := true) only [EVs, EVt, Array.toList, c1, eqI_self] <;> exact rfl) ?_)))
      refine AWp.cond (t := true) rfl (AWp.seq (AWp.regionW T_ok rfl ?_))
      (repeat (first | refine WL.c rfl rfl rfl (by simp (decide := true) only [EVs, EVt, Array.toList, c1, c2, c3, eqI_self] <;> exact rfl) (by simp (decide := true) only [EVs, EVt, Array.toList, calleeOf, c1, c2, c3, eqI_self] <;> exact rfl) (by simp (decide := true) only [EVs, EVt, Array.toList, argsOf, frz, c1, c2, c3, eqI_self] <;> exact rfl) (by first | exact f3 | exact f4) rfl ?_ | refine WL.f rfl rfl rfl (by simp (decide := true) only [EVs, EVt, Array.toList, c1, c2, c3, eqI_self] <;> exact rfl) (by simp (decide := true) only [EVs, EVt, Array.toList, calleeOf, c1, c2, c3, eqI_self] <;> exact rfl) (by simp (decide := true) only [EVs, EVt, Array.toList, argsOf, frz, c1, c2, c3, eqI_self] <;> exact rfl) (by first | exact f3 | exact f4) ?_ | refine WL.one (by simp (decide := true) only [EVs, EVt, Array.toList, c1, c2, c3, eqI_self] <;> exact rfl) ?_)); refine WL.nil ?_
      exact AWp.ret ⟨_, rfl, .inl (.refl _)⟩
    | true =>
      rw [splE_t k2, spl_t k1, spl_t k1, spl_t k1, spl_t k2, spl_t k2, spl_t k2]
      obtain ⟨rfl, _⟩ := okS_iff.1 k1
      obtain ⟨rfl, _⟩ := okS_iff.1 k2
      have n4 := lvs_len l 4
      have n1 := lvs_len l 1
      have n0 := lvs_len l 0
      have p4 := lvs_len m 4
      have p1 := lvs_len m 1
      have p0 := lvs_len m 0
      have al := hK.asc
      have am := hM.asc
      have f5 := sp_MRises 2 l 2 m (by omega) (by omega) (by omega) (by omega) (wfP_lv hw) (wfP_lv hw')
      have f6 := sp_Rises2 (lvs l 4) (lvs l 1) (lvs l 0) (lvs m 4) (lvs m 1) (lvs m 0) (by omega) (by omega) (by omega) (by omega) (by omega) (by omega)
      have f7 := sp_MMakes 2 l 2 m (by omega) (by omega) (by omega) (by omega) (wfP_lv hw) (wfP_lv hw')
      have f8 := sp_Makes2 (lvs l 4) (lvs l 1) (lvs l 0) (lvs m 4) (lvs m 1) (lvs m 0) (by omega) (by omega) (by omega) (by omega) (by omega) (by omega)
      rw [rises_of k1 k2 al am] at f5
      rw [makes_of k1 k2 al am] at f7
      refine AWp.seq (AWp.seq (AWp.regionW T_ok rfl (WL.all (by simp (decide := true) only [EVs, EVt, Array.toList, eqI_self] <;> exact rfl) ?_)))
      refine AWp.cond (t := false) rfl (AWp.skip ?_)
      refine AWp.seq (AWp.seq (AWp.drawnW T_ok mixed (by kernel_rfl) rfl ?_))
      (repeat (first | refine WL.c rfl rfl rfl (by simp (decide := true) only [EVs, EVt, Array.toList, eqI_self] <;> exact rfl) (by simp (decide := true) only [EVs, EVt, Array.toList, calleeOf, eqI_self] <;> exact rfl) (by simp (decide := true) only [EVs, EVt, Array.toList, argsOf, frz, eqI_self] <;> exact rfl) (by first | exact f5 | exact f6 | exact f7 | exact f8) rfl ?_ | refine WL.f rfl rfl rfl (by simp (decide := true) only [EVs, EVt, Array.toList, eqI_self] <;> exact rfl) (by simp (decide := true) only [EVs, EVt, Array.toList, calleeOf, eqI_self] <;> exact rfl) (by simp (decide := true) only [EVs, EVt, Array.toList, argsOf, frz, eqI_self] <;> exact rfl) (by first | exact f5 | exact f6 | exact f7 | exact f8) ?_ | refine WL.one (by simp (decide := true) only [EVs, EVt, Array.toList, eqI_self] <;> exact rfl) ?_)); refine WL.nil ?_
      refine AWp.cond (t := false) rfl (AWp.skip ?_)
      by_cases hO : lvs m 0 = []
      · rw [hO]
        have c4 : ltI 0 0 = false := rfl
        have f9 := sp_MSees 2 l 2 m (by omega) (by omega) (by omega) (by omega) (wfP_lv hw) (wfP_lv hw')
        have f10 := sp_Sees2 (lvs l 4) (lvs l 1) (lvs l 0) (lvs m 4) (lvs m 1) [] (by omega) (by omega) (by omega) (by omega) (by omega)
        have f11 := sp_MTurns 2 l 2 m (by omega) (by omega) (by omega) (by omega) (wfP_lv hw) (wfP_lv hw')
        have f12 := sp_Turns2 (lvs l 4) (lvs l 1) (lvs l 0) (lvs m 4) (lvs m 1) [] (by omega) (by omega) (by omega) (by omega) (by omega)
        rw [sees_of k1 k2 al am hO] at f9
        rw [turns_of k1 k2 al am (by simp [hO])] at f11
        have c5 : ∀ b : Bool, (b == b) = true := fun b => by simp
        refine AWp.seq (AWp.seq (AWp.regionW T_ok rfl (WL.all (by simp (decide := true) only [EVs, EVt, Array.toList, c4, Int.natCast_zero, Int.ofNat_zero] <;> exact rfl) ?_)))
        refine AWp.cond (t := false) rfl (AWp.skip ?_)
        refine AWp.seq (AWp.drawnW T_ok mixed (by kernel_rfl) rfl ?_)
        (repeat (first | refine WL.c rfl rfl rfl (by simp (decide := true) only [EVs, EVt, Array.toList, c5] <;> exact rfl) (by simp (decide := true) only [EVs, EVt, Array.toList, calleeOf, c5] <;> exact rfl) (by simp (decide := true) only [EVs, EVt, Array.toList, argsOf, frz, c5] <;> exact rfl) (by first | exact f9 | exact f10 | exact f11 | exact f12) rfl ?_ | refine WL.f rfl rfl rfl (by simp (decide := true) only [EVs, EVt, Array.toList, c5] <;> exact rfl) (by simp (decide := true) only [EVs, EVt, Array.toList, calleeOf, c5] <;> exact rfl) (by simp (decide := true) only [EVs, EVt, Array.toList, argsOf, frz, c5] <;> exact rfl) (by first | exact f9 | exact f10 | exact f11 | exact f12) ?_ | refine WL.one (by simp (decide := true) only [EVs, EVt, Array.toList, c5] <;> exact rfl) ?_)); refine WL.nil ?_
        exact AWp.ret ⟨_, rfl, .inl (.refl _)⟩
      · have c4 : ltI 0 ((lvs m 0).length : Int) = true := ltI_t (by have := List.length_pos_iff.2 hO; omega)
        refine AWp.seq (AWp.seq (AWp.regionW T_ok rfl (WL.all (by simp (decide := true) only [EVs, EVt, Array.toList, c4] <;> exact rfl) ?_)))
        refine AWp.cond (t := true) rfl (AWp.seq (AWp.regionW T_ok rfl (WL.all (by simp (decide := true) only [EVs, EVt, Array.toList] <;> exact rfl) ?_)))
        exact AWp.ret ⟨_, rfl, .inl (.refl _)⟩

theorem sp_TransFlows (d : Int) (l : List Pr) (e : Int) (m : List Pr) (hd : isB d) (hl : l.length ≤ 35184372087808) (hw : ∀ p ∈ l, wfP p) (he : isB e) (hm : m.length ≤ 35184372087808) (hw' : ∀ p ∈ m, wfP p) : ACall Try.prog 7 [lab d l, lab e m] (bo true) := by
  refine acall_of Try.func7 rfl rfl (Nat.le_of_ble_eq_true rfl) T_ok (fun base w0 => ?_)
  refine AWp.seq (AWp.regionW T_ok rfl (WL.all (by simp (decide := true) only [EVs, EVt, Array.toList] <;> exact rfl) ?_))
  refine AWp.seq (AWp.seq (AWp.regionW T_ok rfl ?_))
  (repeat (first | refine WL.c rfl rfl rfl (by simp (decide := true) only [EVs, EVt, Array.toList] <;> exact rfl) (by simp (decide := true) only [EVs, EVt, Array.toList, calleeOf] <;> exact rfl) (by simp (decide := true) only [EVs, EVt, Array.toList, argsOf, frz] <;> exact rfl) (by first | exact sp_begun11) rfl ?_ | refine WL.f rfl rfl rfl (by simp (decide := true) only [EVs, EVt, Array.toList] <;> exact rfl) (by simp (decide := true) only [EVs, EVt, Array.toList, calleeOf] <;> exact rfl) (by simp (decide := true) only [EVs, EVt, Array.toList, argsOf, frz] <;> exact rfl) (by first | exact sp_begun11) ?_ | refine WL.one (by simp (decide := true) only [EVs, EVt, Array.toList] <;> exact rfl) ?_)); refine WL.nil ?_
  refine AWp.cond (t := false) rfl (AWp.skip ?_)
  have g1 := sp_RMay d l (by omega)
  have g2 := sp_RMay e m (by omega)
  have g3 := sp_RLevels d l 0 (by omega)
  have g4 := sp_RLevels e m 0 (by omega)
  cases h1 : mayL d l with
  | false =>
    rw [h1] at g1
    refine AWp.seq (AWp.seq (AWp.drawnW T_ok mixed (by kernel_rfl) rfl ?_))
    (repeat (first | refine WL.c rfl rfl rfl (by simp (decide := true) only [EVs, EVt, Array.toList] <;> exact rfl) (by simp (decide := true) only [EVs, EVt, Array.toList, calleeOf] <;> exact rfl) (by simp (decide := true) only [EVs, EVt, Array.toList, argsOf, frz] <;> exact rfl) (by first | exact g1 | exact g2 | exact g3 | exact g4) rfl ?_ | refine WL.f rfl rfl rfl (by simp (decide := true) only [EVs, EVt, Array.toList] <;> exact rfl) (by simp (decide := true) only [EVs, EVt, Array.toList, calleeOf] <;> exact rfl) (by simp (decide := true) only [EVs, EVt, Array.toList, argsOf, frz] <;> exact rfl) (by first | exact g1 | exact g2 | exact g3 | exact g4) ?_ | refine WL.one (by simp (decide := true) only [EVs, EVt, Array.toList] <;> exact rfl) ?_)); refine WL.nil ?_
    refine AWp.cond (t := true) rfl (AWp.seq (AWp.regionW T_ok rfl (WL.all (by simp (decide := true) only [EVs, EVt, Array.toList] <;> exact rfl) ?_)))
    exact AWp.ret ⟨_, rfl, .inl (.refl _)⟩
  | true =>
  rw [h1] at g1
  cases h2 : mayL e m with
  | false =>
    rw [h2] at g2
    refine AWp.seq (AWp.seq (AWp.drawnW T_ok mixed (by kernel_rfl) rfl ?_))
    (repeat (first | refine WL.c rfl rfl rfl (by simp (decide := true) only [EVs, EVt, Array.toList] <;> exact rfl) (by simp (decide := true) only [EVs, EVt, Array.toList, calleeOf] <;> exact rfl) (by simp (decide := true) only [EVs, EVt, Array.toList, argsOf, frz] <;> exact rfl) (by first | exact g1 | exact g2 | exact g3 | exact g4) rfl ?_ | refine WL.f rfl rfl rfl (by simp (decide := true) only [EVs, EVt, Array.toList] <;> exact rfl) (by simp (decide := true) only [EVs, EVt, Array.toList, calleeOf] <;> exact rfl) (by simp (decide := true) only [EVs, EVt, Array.toList, argsOf, frz] <;> exact rfl) (by first | exact g1 | exact g2 | exact g3 | exact g4) ?_ | refine WL.one (by simp (decide := true) only [EVs, EVt, Array.toList] <;> exact rfl) ?_)); refine WL.nil ?_
    refine AWp.cond (t := true) rfl (AWp.seq (AWp.regionW T_ok rfl (WL.all (by simp (decide := true) only [EVs, EVt, Array.toList] <;> exact rfl) ?_)))
    exact AWp.ret ⟨_, rfl, .inl (.refl _)⟩
  | true =>
  rw [h2] at g2
  have hK := labK h1 hw
  have hM := labK h2 hw'
  have k16 := hK.len
  have m16 := hM.len
  have n0 := lvs_len l 0
  have p0 := lvs_len m 0
  have hsum : IntKind.i64.wrap (((lvs l 0).length : Int) + ((lvs m 0).length : Int)) = ((lvs l 0).length : Int) + ((lvs m 0).length : Int) := by
    simp [IntKind.wrap, IntKind.bits]; omega
  by_cases hO : lvs l 0 = [] ∧ lvs m 0 = []
  rotate_left
  · have c4 : ltI 0 (((lvs l 0).length : Int) + ((lvs m 0).length : Int)) = true := ltI_t (by
      by_cases hx : lvs l 0 = []
      · have := List.length_pos_iff.2 (fun h => hO ⟨hx, h⟩); omega
      · have := List.length_pos_iff.2 hx; omega)
    refine AWp.seq (AWp.seq (AWp.drawnW T_ok mixed (by kernel_rfl) rfl ?_))
    (repeat (first | refine WL.c rfl rfl rfl (by simp (decide := true) only [EVs, EVt, Array.toList, hsum, c4] <;> exact rfl) (by simp (decide := true) only [EVs, EVt, Array.toList, calleeOf, hsum, c4] <;> exact rfl) (by simp (decide := true) only [EVs, EVt, Array.toList, argsOf, frz, hsum, c4] <;> exact rfl) (by first | exact g1 | exact g2 | exact g3 | exact g4) rfl ?_ | refine WL.f rfl rfl rfl (by simp (decide := true) only [EVs, EVt, Array.toList, hsum, c4] <;> exact rfl) (by simp (decide := true) only [EVs, EVt, Array.toList, calleeOf, hsum, c4] <;> exact rfl) (by simp (decide := true) only [EVs, EVt, Array.toList, argsOf, frz, hsum, c4] <;> exact rfl) (by first | exact g1 | exact g2 | exact g3 | exact g4) ?_ | refine WL.one (by simp (decide := true) only [EVs, EVt, Array.toList, hsum, c4] <;> exact rfl) ?_)); refine WL.nil ?_
    refine AWp.cond (t := true) rfl (AWp.seq (AWp.regionW T_ok rfl (WL.all (by simp (decide := true) only [EVs, EVt, Array.toList] <;> exact rfl) ?_)))
    exact AWp.ret ⟨_, rfl, .inl (.refl _)⟩
  obtain ⟨hl0, hm0⟩ := hO
  have c4 : ltI 0 (((lvs l 0).length : Int) + ((lvs m 0).length : Int)) = false := ltI_f (by rw [hl0, hm0]; simp)
  have f1 := sp_TSplit d l (by omega) hK.lv
  have f2 := sp_TSplit e m (by omega) hM.lv
  have c1 : eqI 14 0 = false := rfl
  refine AWp.seq (AWp.seq (AWp.drawnW T_ok mixed (by kernel_rfl) rfl ?_))
  (repeat (first | refine WL.c rfl rfl rfl (by simp (decide := true) only [EVs, EVt, Array.toList, hsum, c4] <;> exact rfl) (by simp (decide := true) only [EVs, EVt, Array.toList, calleeOf, hsum, c4] <;> exact rfl) (by simp (decide := true) only [EVs, EVt, Array.toList, argsOf, frz, hsum, c4] <;> exact rfl) (by first | exact g1 | exact g2 | exact g3 | exact g4) rfl ?_ | refine WL.f rfl rfl rfl (by simp (decide := true) only [EVs, EVt, Array.toList, hsum, c4] <;> exact rfl) (by simp (decide := true) only [EVs, EVt, Array.toList, calleeOf, hsum, c4] <;> exact rfl) (by simp (decide := true) only [EVs, EVt, Array.toList, argsOf, frz, hsum, c4] <;> exact rfl) (by first | exact g1 | exact g2 | exact g3 | exact g4) ?_ | refine WL.one (by simp (decide := true) only [EVs, EVt, Array.toList, hsum, c4] <;> exact rfl) ?_)); refine WL.nil ?_
  refine AWp.cond (t := false) rfl (AWp.skip ?_)
  refine AWp.seq (AWp.regionW T_ok rfl ?_)
  (repeat (first | refine WL.c rfl rfl rfl (by simp (decide := true) only [EVs, EVt, Array.toList] <;> exact rfl) (by simp (decide := true) only [EVs, EVt, Array.toList, calleeOf] <;> exact rfl) (by simp (decide := true) only [EVs, EVt, Array.toList, argsOf, frz] <;> exact rfl) (by first | exact f1) rfl ?_ | refine WL.f rfl rfl rfl (by simp (decide := true) only [EVs, EVt, Array.toList] <;> exact rfl) (by simp (decide := true) only [EVs, EVt, Array.toList, calleeOf] <;> exact rfl) (by simp (decide := true) only [EVs, EVt, Array.toList, argsOf, frz] <;> exact rfl) (by first | exact f1) ?_ | refine WL.one (by simp (decide := true) only [EVs, EVt, Array.toList] <;> exact rfl) ?_)); refine WL.nil ?_
  refine AWp.seq (AWp.regionW T_ok rfl ?_)
  (repeat (first | refine WL.c rfl rfl rfl (by simp (decide := true) only [EVs, EVt, Array.toList] <;> exact rfl) (by simp (decide := true) only [EVs, EVt, Array.toList, calleeOf] <;> exact rfl) (by simp (decide := true) only [EVs, EVt, Array.toList, argsOf, frz] <;> exact rfl) (by first | exact f2) rfl ?_ | refine WL.f rfl rfl rfl (by simp (decide := true) only [EVs, EVt, Array.toList] <;> exact rfl) (by simp (decide := true) only [EVs, EVt, Array.toList, calleeOf] <;> exact rfl) (by simp (decide := true) only [EVs, EVt, Array.toList, argsOf, frz] <;> exact rfl) (by first | exact f2) ?_ | refine WL.one (by simp (decide := true) only [EVs, EVt, Array.toList] <;> exact rfl) ?_)); refine WL.nil ?_
  cases k1 : okS d l with
  | false =>
    rw [splE_f k1]
    refine AWp.seq (AWp.seq (AWp.regionW T_ok rfl (WL.all (by simp (decide := true) only [EVs, EVt, Array.toList, c1] <;> exact rfl) ?_)))
    refine AWp.cond (t := true) rfl (AWp.seq (AWp.regionW T_ok rfl (WL.all (by simp (decide := true) only [EVs, EVt, Array.toList] <;> exact rfl) ?_)))
    exact AWp.ret ⟨_, rfl, .inl (.refl _)⟩
  | true =>
  rw [splE_t k1]
  cases k2 : okS e m with
  | false =>
    rw [splE_f k2]
    refine AWp.seq (AWp.seq (AWp.regionW T_ok rfl (WL.all (by simp (decide := true) only [EVs, EVt, Array.toList, c1, eqI_self] <;> exact rfl) ?_)))
    refine AWp.cond (t := true) rfl (AWp.seq (AWp.regionW T_ok rfl (WL.all (by simp (decide := true) only [EVs, EVt, Array.toList] <;> exact rfl) ?_)))
    exact AWp.ret ⟨_, rfl, .inl (.refl _)⟩
  | true =>
  rw [splE_t k2, spl_t k1, spl_t k1, spl_t k1, spl_t k2, spl_t k2, spl_t k2]
  obtain ⟨rfl, _⟩ := okS_iff.1 k1
  obtain ⟨rfl, _⟩ := okS_iff.1 k2
  have al := hK.asc
  have am := hM.asc
  have n4 := lvs_len l 4
  have n1 := lvs_len l 1
  have p4 := lvs_len m 4
  have p1 := lvs_len m 1
  have hbl := bthL_len (h := mx) (da := 2) (db := 2) (a := l) (b := m)
  have e22 : mx 2 2 = 2 := rfl
  have f3 := sp_RJoin 2 l 2 m (by omega) (by omega) al am
  have f4 := sp_RMay 2 (bthL mx 2 l 2 m) (by omega)
  rw [e22] at f3
  refine AWp.seq (AWp.seq (AWp.regionW T_ok rfl (WL.all (by simp (decide := true) only [EVs, EVt, Array.toList, eqI_self] <;> exact rfl) ?_)))
  refine AWp.cond (t := false) rfl (AWp.skip ?_)
  cases h3 : mayL 2 (bthL mx 2 l 2 m) with
  | false =>
    rw [h3] at f4
    refine AWp.seq (AWp.seq (AWp.regionW T_ok rfl ?_))
    (repeat (first | refine WL.c rfl rfl rfl (by simp (decide := true) only [EVs, EVt, Array.toList] <;> exact rfl) (by simp (decide := true) only [EVs, EVt, Array.toList, calleeOf] <;> exact rfl) (by simp (decide := true) only [EVs, EVt, Array.toList, argsOf, frz] <;> exact rfl) (by first | exact f3 | exact f4) rfl ?_ | refine WL.f rfl rfl rfl (by simp (decide := true) only [EVs, EVt, Array.toList] <;> exact rfl) (by simp (decide := true) only [EVs, EVt, Array.toList, calleeOf] <;> exact rfl) (by simp (decide := true) only [EVs, EVt, Array.toList, argsOf, frz] <;> exact rfl) (by first | exact f3 | exact f4) ?_ | refine WL.one (by simp (decide := true) only [EVs, EVt, Array.toList] <;> exact rfl) ?_)); refine WL.nil ?_
    refine AWp.cond (t := true) rfl (AWp.seq (AWp.regionW T_ok rfl (WL.all (by simp (decide := true) only [EVs, EVt, Array.toList] <;> exact rfl) ?_)))
    exact AWp.ret ⟨_, rfl, .inl (.refl _)⟩
  | true =>
  rw [h3] at f4
  obtain ⟨j0, j4, j1, j9⟩ := join_of k1 k2 al am hl0 hm0
  have em : mxx = mx := rfl
  rw [em] at j0 j4 j1 j9
  have f5 := sp_LJoin 2 l 2 m (by omega) (by omega) (by omega) (by omega) hK.lv hM.lv
  rw [e22] at f5
  have f6 := sp_TSplit 2 (bthL mx 2 l 2 m) (by omega) (fun p hp => by have := (okS_iff.1 j0).2 p hp; omega)
  rw [splE_t j0, spl_t j0, spl_t j0, spl_t j0, j4, j1, j9] at f6
  have f7 := sp_LFlows 2 l 2 m (by omega) (by omega) (by omega) (by omega) (wfP_lv hw) (wfP_lv hw')
  rw [flows_of k1 k2 al am hl0 hm0] at f7
  have f8 := sp_SFlows (lvs l 4) (lvs l 1) (lvs l 0) (lvs m 4) (lvs m 1) (lvs m 0) (by omega) (by omega) (by omega) (by omega)
  have f9 := sp_SJoin (lvs l 4) (lvs l 1) (lvs l 0) (lvs m 4) (lvs m 1) (lvs m 0) (by omega) (by omega) (by omega) (by omega)
  have u1 : (un (lvs l 4) (lvs m 4)).length ≤ (lvs l 4).length + (lvs m 4).length := mrg_len ..
  have u2 : (inter (lvs l 1) (lvs m 1)).length ≤ (lvs l 1).length + (lvs m 1).length := mrg_len ..
  have f10 := sp_SameSets8 (un (lvs l 4) (lvs m 4)) (inter (lvs l 1) (lvs m 1)) [] (un (lvs l 4) (lvs m 4)) (inter (lvs l 1) (lvs m 1)) [] (by omega) (by omega) (by simp) (by omega) (by omega) (by simp)
  rw [same3_self] at f10
  have c5 : ∀ b : Bool, (b == b) = true := fun b => by simp
  refine AWp.seq (AWp.seq (AWp.regionW T_ok rfl ?_))
  (repeat (first | refine WL.c rfl rfl rfl (by simp (decide := true) only [EVs, EVt, Array.toList] <;> exact rfl) (by simp (decide := true) only [EVs, EVt, Array.toList, calleeOf] <;> exact rfl) (by simp (decide := true) only [EVs, EVt, Array.toList, argsOf, frz] <;> exact rfl) (by first | exact f3 | exact f4) rfl ?_ | refine WL.f rfl rfl rfl (by simp (decide := true) only [EVs, EVt, Array.toList] <;> exact rfl) (by simp (decide := true) only [EVs, EVt, Array.toList, calleeOf] <;> exact rfl) (by simp (decide := true) only [EVs, EVt, Array.toList, argsOf, frz] <;> exact rfl) (by first | exact f3 | exact f4) ?_ | refine WL.one (by simp (decide := true) only [EVs, EVt, Array.toList] <;> exact rfl) ?_)); refine WL.nil ?_
  refine AWp.cond (t := false) rfl (AWp.skip ?_)
  refine AWp.seq (AWp.regionW T_ok rfl ?_)
  (repeat (first | refine WL.c rfl rfl rfl (by simp (decide := true) only [EVs, EVt, Array.toList] <;> exact rfl) (by simp (decide := true) only [EVs, EVt, Array.toList, calleeOf] <;> exact rfl) (by simp (decide := true) only [EVs, EVt, Array.toList, argsOf, frz] <;> exact rfl) (by first | exact f5 | exact f6) rfl ?_ | refine WL.f rfl rfl rfl (by simp (decide := true) only [EVs, EVt, Array.toList] <;> exact rfl) (by simp (decide := true) only [EVs, EVt, Array.toList, calleeOf] <;> exact rfl) (by simp (decide := true) only [EVs, EVt, Array.toList, argsOf, frz] <;> exact rfl) (by first | exact f5 | exact f6) ?_ | refine WL.one (by simp (decide := true) only [EVs, EVt, Array.toList] <;> exact rfl) ?_)); refine WL.nil ?_
  refine AWp.seq (AWp.drawnW T_ok mixed (by kernel_rfl) rfl ?_)
  (repeat (first | refine WL.c rfl rfl rfl (by simp (decide := true) only [EVs, EVt, Array.toList, eqI_self, c5] <;> exact rfl) (by simp (decide := true) only [EVs, EVt, Array.toList, calleeOf, eqI_self, c5] <;> exact rfl) (by simp (decide := true) only [EVs, EVt, Array.toList, argsOf, frz, eqI_self, c5] <;> exact rfl) (by first | exact f7 | exact f8 | exact f9 | exact f10) rfl ?_ | refine WL.f rfl rfl rfl (by simp (decide := true) only [EVs, EVt, Array.toList, eqI_self, c5] <;> exact rfl) (by simp (decide := true) only [EVs, EVt, Array.toList, calleeOf, eqI_self, c5] <;> exact rfl) (by simp (decide := true) only [EVs, EVt, Array.toList, argsOf, frz, eqI_self, c5] <;> exact rfl) (by first | exact f7 | exact f8 | exact f9 | exact f10) ?_ | refine WL.one (by simp (decide := true) only [EVs, EVt, Array.toList, eqI_self, c5] <;> exact rfl) ?_)); refine WL.nil ?_
  exact AWp.ret ⟨_, rfl, .inl (.refl _)⟩
end Go.Proofs.Ytopdgmjmpmkamaa.E
