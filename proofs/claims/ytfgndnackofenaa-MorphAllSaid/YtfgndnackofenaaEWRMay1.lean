/-
  Who may, by levels, by the document (package transomref8), walked in abstract values. Conditions: lengths; categories rise.
-/
import Derived.Test.YtfgndnackofenaaEWRLab
namespace Go.Proofs.Ytfgndnackofenaa.E
open Go Go.RowKit Go.Proofs.YtfgndnackofenaaW.E
set_option linter.unusedVariables false
set_option linter.unusedSimpArgs false
set_option maxRecDepth 100000
set_option maxHeartbeats 4000000

theorem eqI_nil (l : List Int) : eqI (l.length : Int) 0 = decide (l = []) := eqI_len l
theorem sp_RNames (d : Int) (l : List Pr) (hl : l.length ≤ 35184372087808) : ACall Try.prog 37 [lab d l] (bo (nam d l)) := by
  have hn := nam_lvs d l
  have hz := eqI_nil (lvs l 3)
  refine acall_of Try.func37 rfl rfl (Nat.le_of_ble_eq_true rfl) T_ok (fun base w0 => ?_)
  refine AWp.seq (AWp.regionW T_ok rfl (WL.all (by simp (decide := true) only [EVs, EVt, Array.toList] <;> exact rfl) ?_))
  by_cases hd : d = 2
  · have c1 : eqI d 2 = true := eqI_t hd
    have e : decide (lvs l 3 = []) = nam d l := by rw [← hn]; simp [hd]
    rw [e] at hz
    refine AWp.seq (AWp.regionW T_ok rfl ?_)
    (repeat (first | refine WL.c rfl rfl rfl (by simp (decide := true) only [EVs, EVt, Array.toList, c1, hz] <;> exact rfl) (by simp (decide := true) only [EVs, EVt, Array.toList, calleeOf, c1, hz] <;> exact rfl) (by simp (decide := true) only [EVs, EVt, Array.toList, argsOf, frz, c1, hz] <;> exact rfl) (by first | exact sp_RLevels d l 3 hl) rfl ?_ | refine WL.f rfl rfl rfl (by simp (decide := true) only [EVs, EVt, Array.toList, c1, hz] <;> exact rfl) (by simp (decide := true) only [EVs, EVt, Array.toList, calleeOf, c1, hz] <;> exact rfl) (by simp (decide := true) only [EVs, EVt, Array.toList, argsOf, frz, c1, hz] <;> exact rfl) (by first | exact sp_RLevels d l 3 hl) ?_ | refine WL.one (by simp (decide := true) only [EVs, EVt, Array.toList, c1, hz] <;> exact rfl) ?_)); refine WL.nil ?_
    exact AWp.ret ⟨_, rfl, .inl (.refl _)⟩
  · have c1 : eqI d 2 = false := eqI_f hd
    have e : nam d l = false := by rw [← hn]; simp [hd]
    rw [e]
    refine AWp.seq (AWp.regionW T_ok rfl ?_)
    (repeat (first | refine WL.c rfl rfl rfl (by simp (decide := true) only [EVs, EVt, Array.toList, c1] <;> exact rfl) (by simp (decide := true) only [EVs, EVt, Array.toList, calleeOf, c1] <;> exact rfl) (by simp (decide := true) only [EVs, EVt, Array.toList, argsOf, frz, c1] <;> exact rfl) (by first | exact sp_RLevels d l 3 hl) rfl ?_ | refine WL.f rfl rfl rfl (by simp (decide := true) only [EVs, EVt, Array.toList, c1] <;> exact rfl) (by simp (decide := true) only [EVs, EVt, Array.toList, calleeOf, c1] <;> exact rfl) (by simp (decide := true) only [EVs, EVt, Array.toList, argsOf, frz, c1] <;> exact rfl) (by first | exact sp_RLevels d l 3 hl) ?_ | refine WL.one (by simp (decide := true) only [EVs, EVt, Array.toList, c1] <;> exact rfl) ?_)); refine WL.nil ?_
    exact AWp.ret ⟨_, rfl, .inl (.refl _)⟩
theorem sp_RSees (d : Int) (l : List Pr) (e : Int) (m : List Pr) (hl : l.length ≤ 1000000) (hm : m.length ≤ 1000000) (al : ascP l) (am : ascP m) : ACall Try.prog 67 [lab d l, lab e m] (bo (sees d l e m)) := by
  have h1 := sp_RRiseAll d l (by omega)
  have hlen : (risL d l).length ≤ l.length + l.length := bthL_len
  have h2 := sp_RFlows e m (rise d) (risL d l) (by omega) (by omega)
  rw [flw_flwR am (risL_asc al)] at h2
  rw [risR_risL al] at h1
  refine acall_of Try.func67 rfl rfl (Nat.le_of_ble_eq_true rfl) T_ok (fun base w0 => ?_)
  refine AWp.seq (AWp.regionW T_ok rfl (WL.all (by simp (decide := true) only [EVs, EVt, Array.toList] <;> exact rfl) ?_))
  refine AWp.seq (AWp.drawnW T_ok mixed (by kernel_rfl) rfl ?_)
  (repeat (first | refine WL.c rfl rfl rfl (by simp (decide := true) only [EVs, EVt, Array.toList] <;> exact rfl) (by simp (decide := true) only [EVs, EVt, Array.toList, calleeOf] <;> exact rfl) (by simp (decide := true) only [EVs, EVt, Array.toList, argsOf, frz] <;> exact rfl) (by first | exact h1 | exact h2) rfl ?_ | refine WL.f rfl rfl rfl (by simp (decide := true) only [EVs, EVt, Array.toList] <;> exact rfl) (by simp (decide := true) only [EVs, EVt, Array.toList, calleeOf] <;> exact rfl) (by simp (decide := true) only [EVs, EVt, Array.toList, argsOf, frz] <;> exact rfl) (by first | exact h1 | exact h2) ?_ | refine WL.one (by simp (decide := true) only [EVs, EVt, Array.toList] <;> exact rfl) ?_)); refine WL.nil ?_
  exact AWp.ret ⟨_, rfl, .inl (.refl _)⟩
theorem sp_RTurns (d : Int) (l : List Pr) (e : Int) (m : List Pr) (hl : l.length ≤ 1000000) (hm : m.length ≤ 1000000) (al : ascP l) (am : ascP m) : ACall Try.prog 68 [lab d l, lab e m] (bo (flw d l e m)) := by
  have h2 := sp_RFlows d l e m (by omega) (by omega)
  rw [flw_flwR al am] at h2
  refine acall_of Try.func68 rfl rfl (Nat.le_of_ble_eq_true rfl) T_ok (fun base w0 => ?_)
  refine AWp.seq (AWp.regionW T_ok rfl (WL.all (by simp (decide := true) only [EVs, EVt, Array.toList] <;> exact rfl) ?_))
  refine AWp.seq (AWp.regionW T_ok rfl ?_)
  (repeat (first | refine WL.c rfl rfl rfl (by simp (decide := true) only [EVs, EVt, Array.toList] <;> exact rfl) (by simp (decide := true) only [EVs, EVt, Array.toList, calleeOf] <;> exact rfl) (by simp (decide := true) only [EVs, EVt, Array.toList, argsOf, frz] <;> exact rfl) (by first | exact h2) rfl ?_ | refine WL.f rfl rfl rfl (by simp (decide := true) only [EVs, EVt, Array.toList] <;> exact rfl) (by simp (decide := true) only [EVs, EVt, Array.toList, calleeOf] <;> exact rfl) (by simp (decide := true) only [EVs, EVt, Array.toList, argsOf, frz] <;> exact rfl) (by first | exact h2) ?_ | refine WL.one (by simp (decide := true) only [EVs, EVt, Array.toList] <;> exact rfl) ?_)); refine WL.nil ?_
  exact AWp.ret ⟨_, rfl, .inl (.refl _)⟩
theorem sp_RRises (d : Int) (l : List Pr) (e : Int) (m : List Pr) (hl : l.length ≤ 1000000) (hm : m.length ≤ 1000000) (al : ascP l) (am : ascP m) : ACall Try.prog 64 [lab d l, lab e m] (i64 (risE d l e m)) := by
  have hF := sp_RFlows d l e m (by omega) (by omega)
  rw [flw_flwR al am] at hF
  have hlen := lvs_len m 0
  refine acall_of Try.func64 rfl rfl (Nat.le_of_ble_eq_true rfl) T_ok (fun base w0 => ?_)
  refine AWp.seq (AWp.regionW T_ok rfl (WL.all (by simp (decide := true) only [EVs, EVt, Array.toList] <;> exact rfl) ?_))
  cases h1 : nam e m with
  | false =>
    have hr : risE d l e m = 4 := by simp [risE, h1]
    rw [hr]
    refine AWp.seq (AWp.seq (AWp.regionW T_ok rfl ?_))
    (repeat (first | refine WL.c rfl rfl rfl (by simp (decide := true) only [EVs, EVt, Array.toList, h1] <;> exact rfl) (by simp (decide := true) only [EVs, EVt, Array.toList, calleeOf, h1] <;> exact rfl) (by simp (decide := true) only [EVs, EVt, Array.toList, argsOf, frz, h1] <;> exact rfl) (by first | exact sp_RNames e m (by omega)) rfl ?_ | refine WL.f rfl rfl rfl (by simp (decide := true) only [EVs, EVt, Array.toList, h1] <;> exact rfl) (by simp (decide := true) only [EVs, EVt, Array.toList, calleeOf, h1] <;> exact rfl) (by simp (decide := true) only [EVs, EVt, Array.toList, argsOf, frz, h1] <;> exact rfl) (by first | exact sp_RNames e m (by omega)) ?_ | refine WL.one (by simp (decide := true) only [EVs, EVt, Array.toList, h1] <;> exact rfl) ?_)); refine WL.nil ?_
    refine AWp.cond (t := true) rfl (AWp.seq (AWp.regionW T_ok rfl (WL.all (by simp (decide := true) only [EVs, EVt, Array.toList] <;> exact rfl) ?_)))
    exact AWp.ret ⟨_, rfl, .inl (.refl _)⟩
  | true =>
    refine AWp.seq (AWp.seq (AWp.regionW T_ok rfl ?_))
    (repeat (first | refine WL.c rfl rfl rfl (by simp (decide := true) only [EVs, EVt, Array.toList, h1] <;> exact rfl) (by simp (decide := true) only [EVs, EVt, Array.toList, calleeOf, h1] <;> exact rfl) (by simp (decide := true) only [EVs, EVt, Array.toList, argsOf, frz, h1] <;> exact rfl) (by first | exact sp_RNames e m (by omega)) rfl ?_ | refine WL.f rfl rfl rfl (by simp (decide := true) only [EVs, EVt, Array.toList, h1] <;> exact rfl) (by simp (decide := true) only [EVs, EVt, Array.toList, calleeOf, h1] <;> exact rfl) (by simp (decide := true) only [EVs, EVt, Array.toList, argsOf, frz, h1] <;> exact rfl) (by first | exact sp_RNames e m (by omega)) ?_ | refine WL.one (by simp (decide := true) only [EVs, EVt, Array.toList, h1] <;> exact rfl) ?_)); refine WL.nil ?_
    refine AWp.cond (t := false) rfl (AWp.skip ?_)
    refine AWp.seq (AWp.regionW T_ok rfl ?_)
    (repeat (first | refine WL.c rfl rfl rfl (by simp (decide := true) only [EVs, EVt, Array.toList] <;> exact rfl) (by simp (decide := true) only [EVs, EVt, Array.toList, calleeOf] <;> exact rfl) (by simp (decide := true) only [EVs, EVt, Array.toList, argsOf, frz] <;> exact rfl) (by first | exact sp_RLevels e m 0 (by omega)) rfl ?_ | refine WL.f rfl rfl rfl (by simp (decide := true) only [EVs, EVt, Array.toList] <;> exact rfl) (by simp (decide := true) only [EVs, EVt, Array.toList, calleeOf] <;> exact rfl) (by simp (decide := true) only [EVs, EVt, Array.toList, argsOf, frz] <;> exact rfl) (by first | exact sp_RLevels e m 0 (by omega)) ?_ | refine WL.one (by simp (decide := true) only [EVs, EVt, Array.toList] <;> exact rfl) ?_)); refine WL.nil ?_
    refine AWp.seq (AWp.seq (AWp.regionW T_ok rfl (WL.all (by simp (decide := true) only [EVs, EVt, Array.toList] <;> exact rfl) ?_)))
    refine AWp.block (AWp.loop (fun n st => ∃ (j : Nat) (s : Nat → AV) (B : Nat → Nat × List AV) (L : Nat → Nat) (o : Own), st = ⟨29, 0, s, B, L⟩ ∧ n = (lvs m 0).length - j ∧ s 2 = .ptr 2 1 0 ∧ B 2 = (1, [u8 d, lps l]) ∧ s 3 = .ptr 3 1 0 ∧ B 3 = (1, [u8 e, lps m]) ∧
      s 5 = .list 1 ((lvs m 0).map u16) o ∧ s 6 = i64 j ∧ ∀ (i : Nat) (hi : i < (lvs m 0).length), i < j → at_ d l (lvs m 0)[i] = 0) ?_ (n := (lvs m 0).length)
      ⟨0, _, _, _, _, rfl, rfl, rfl, rfl, rfl, rfl, rfl, rfl, fun i hi h => by omega⟩)
    rintro n st ⟨j, s, B, L, o, rfl, rfl, s2, B2, s3, B3, s5, s6, hk⟩
    by_cases hlt : j < (lvs m 0).length
    · have e1 : ltI (j : Int) ((lvs m 0).length : Int) = true := ltI_t (by omega)
      have e2 := get_mapi u16 (lvs m 0) j hlt
      have e7 := wup j (by omega)
      have hA := sp_RAt d l (lvs m 0)[j] (by omega)
      refine AWp.seq (AWp.seq (AWp.regionW T_ok rfl (WL.all (by simp (decide := true) only [EVs, EVt, Array.toList, s5, s6, e1] <;> exact rfl) ?_)))
      refine AWp.cond (t := true) rfl (AWp.skip ?_)
      by_cases hz : at_ d l (lvs m 0)[j] = 0
      · have c1 : eqI (at_ d l (lvs m 0)[j]) 0 = true := eqI_t hz
        refine AWp.seq (AWp.block (AWp.seq (AWp.drawnW T_ok mixed (by kernel_rfl) rfl ?_)))
        (repeat (first | refine WL.c rfl rfl rfl (by simp (decide := true) only [EVs, EVt, Array.toList, s2, B2, s5, s6, e2, c1] <;> exact rfl) (by simp (decide := true) only [EVs, EVt, Array.toList, calleeOf, s2, B2, s5, s6, e2, c1] <;> exact rfl) (by simp (decide := true) only [EVs, EVt, Array.toList, argsOf, frz, s2, B2, s5, s6, e2, c1] <;> exact rfl) (by first | exact hA) rfl ?_ | refine WL.f rfl rfl rfl (by simp (decide := true) only [EVs, EVt, Array.toList, s2, B2, s5, s6, e2, c1] <;> exact rfl) (by simp (decide := true) only [EVs, EVt, Array.toList, calleeOf, s2, B2, s5, s6, e2, c1] <;> exact rfl) (by simp (decide := true) only [EVs, EVt, Array.toList, argsOf, frz, s2, B2, s5, s6, e2, c1] <;> exact rfl) (by first | exact hA) ?_ | refine WL.one (by simp (decide := true) only [EVs, EVt, Array.toList, s2, B2, s5, s6, e2, c1] <;> exact rfl) ?_)); refine WL.nil ?_
        refine AWp.cond (t := false) rfl (AWp.skip ?_)
        refine (AWp.regionW T_ok rfl (WL.all (by simp (decide := true) only [EVs, EVt, Array.toList, s6, e7] <;> exact rfl) ?_))
        refine ⟨(lvs m 0).length - (j + 1), by omega, j + 1, _, _, _, o, rfl, rfl, ?_, ?_, ?_, ?_, ?_, ?_, fun i hi h => ?_⟩
        · simp (decide := true) only [EVs, EVt, Array.toList, s2]
        · simp (decide := true) only [EVs, EVt, Array.toList, B2]
        · simp (decide := true) only [EVs, EVt, Array.toList, s3]
        · simp (decide := true) only [EVs, EVt, Array.toList, B3]
        · simp (decide := true) only [EVs, EVt, Array.toList, s5]
        · simp (decide := true) only [EVs, EVt, Array.toList]
        · by_cases ei : i = j
          · subst ei; exact hz
          · exact hk i hi (by omega)
      · have c1 : eqI (at_ d l (lvs m 0)[j]) 0 = false := eqI_f hz
        have hr : risE d l e m = 5 := by
          have : (lvs m 0).all (fun c => decide (at_ d l c = 0)) = false := by
            rw [List.all_eq_false]; exact ⟨_, List.getElem_mem hlt, by simpa using hz⟩
          simp [risE, h1, this]
        rw [hr]
        refine AWp.seq (AWp.block (AWp.seq (AWp.drawnW T_ok mixed (by kernel_rfl) rfl ?_)))
        (repeat (first | refine WL.c rfl rfl rfl (by simp (decide := true) only [EVs, EVt, Array.toList, s2, B2, s5, s6, e2, c1] <;> exact rfl) (by simp (decide := true) only [EVs, EVt, Array.toList, calleeOf, s2, B2, s5, s6, e2, c1] <;> exact rfl) (by simp (decide := true) only [EVs, EVt, Array.toList, argsOf, frz, s2, B2, s5, s6, e2, c1] <;> exact rfl) (by first | exact hA) rfl ?_ | refine WL.f rfl rfl rfl (by simp (decide := true) only [EVs, EVt, Array.toList, s2, B2, s5, s6, e2, c1] <;> exact rfl) (by simp (decide := true) only [EVs, EVt, Array.toList, calleeOf, s2, B2, s5, s6, e2, c1] <;> exact rfl) (by simp (decide := true) only [EVs, EVt, Array.toList, argsOf, frz, s2, B2, s5, s6, e2, c1] <;> exact rfl) (by first | exact hA) ?_ | refine WL.one (by simp (decide := true) only [EVs, EVt, Array.toList, s2, B2, s5, s6, e2, c1] <;> exact rfl) ?_)); refine WL.nil ?_
        refine AWp.cond (t := true) rfl (AWp.seq (AWp.regionW T_ok rfl (WL.all (by simp (decide := true) only [EVs, EVt, Array.toList] <;> exact rfl) ?_)))
        exact AWp.ret ⟨_, rfl, .inl (.refl _)⟩
    · have e1 : ltI (j : Int) ((lvs m 0).length : Int) = false := ltI_f (by omega)
      have hall : (lvs m 0).all (fun c => decide (at_ d l c = 0)) = true := by
        rw [List.all_eq_true]
        intro c hc
        obtain ⟨i, hi, rfl⟩ := List.mem_iff_getElem.1 hc
        exact decide_eq_true (hk i hi (by omega))
      refine AWp.seq (AWp.seq (AWp.regionW T_ok rfl (WL.all (by simp (decide := true) only [EVs, EVt, Array.toList, s5, s6, e1] <;> exact rfl) ?_)))
      refine AWp.cond (t := false) rfl (AWp.exit ?_)
      cases hf : flw d l e m with
      | false =>
        have hr : risE d l e m = 6 := by simp [risE, h1, hall, hf]
        rw [hr]
        refine AWp.seq (AWp.seq (AWp.regionW T_ok rfl ?_))
        (repeat (first | refine WL.c rfl rfl rfl (by simp (decide := true) only [EVs, EVt, Array.toList, s2, B2, s3, B3, hf] <;> exact rfl) (by simp (decide := true) only [EVs, EVt, Array.toList, calleeOf, s2, B2, s3, B3, hf] <;> exact rfl) (by simp (decide := true) only [EVs, EVt, Array.toList, argsOf, frz, s2, B2, s3, B3, hf] <;> exact rfl) (by first | exact hF) rfl ?_ | refine WL.f rfl rfl rfl (by simp (decide := true) only [EVs, EVt, Array.toList, s2, B2, s3, B3, hf] <;> exact rfl) (by simp (decide := true) only [EVs, EVt, Array.toList, calleeOf, s2, B2, s3, B3, hf] <;> exact rfl) (by simp (decide := true) only [EVs, EVt, Array.toList, argsOf, frz, s2, B2, s3, B3, hf] <;> exact rfl) (by first | exact hF) ?_ | refine WL.one (by simp (decide := true) only [EVs, EVt, Array.toList, s2, B2, s3, B3, hf] <;> exact rfl) ?_)); refine WL.nil ?_
        refine AWp.cond (t := true) rfl (AWp.seq (AWp.regionW T_ok rfl (WL.all (by simp (decide := true) only [EVs, EVt, Array.toList] <;> exact rfl) ?_)))
        exact AWp.ret ⟨_, rfl, .inl (.refl _)⟩
      | true =>
        have hr : risE d l e m = 0 := by simp [risE, h1, hall, hf]
        rw [hr]
        refine AWp.seq (AWp.seq (AWp.regionW T_ok rfl ?_))
        (repeat (first | refine WL.c rfl rfl rfl (by simp (decide := true) only [EVs, EVt, Array.toList, s2, B2, s3, B3, hf] <;> exact rfl) (by simp (decide := true) only [EVs, EVt, Array.toList, calleeOf, s2, B2, s3, B3, hf] <;> exact rfl) (by simp (decide := true) only [EVs, EVt, Array.toList, argsOf, frz, s2, B2, s3, B3, hf] <;> exact rfl) (by first | exact hF) rfl ?_ | refine WL.f rfl rfl rfl (by simp (decide := true) only [EVs, EVt, Array.toList, s2, B2, s3, B3, hf] <;> exact rfl) (by simp (decide := true) only [EVs, EVt, Array.toList, calleeOf, s2, B2, s3, B3, hf] <;> exact rfl) (by simp (decide := true) only [EVs, EVt, Array.toList, argsOf, frz, s2, B2, s3, B3, hf] <;> exact rfl) (by first | exact hF) ?_ | refine WL.one (by simp (decide := true) only [EVs, EVt, Array.toList, s2, B2, s3, B3, hf] <;> exact rfl) ?_)); refine WL.nil ?_
        refine AWp.cond (t := false) rfl (AWp.skip ?_)
        refine AWp.seq (AWp.regionW T_ok rfl (WL.all (by simp (decide := true) only [EVs, EVt, Array.toList] <;> exact rfl) ?_))
        exact AWp.ret ⟨_, rfl, .inl (.refl _)⟩
theorem sp_RMakes (d : Int) (l : List Pr) (e : Int) (m : List Pr) (hl : l.length ≤ 1000000) (hm : m.length ≤ 1000000) (al : ascP l) (am : ascP m) : ACall Try.prog 65 [lab d l, lab e m] (i64 (makE d l e m)) := by
  have hF := sp_RFlows d l e m (by omega) (by omega)
  rw [flw_flwR al am] at hF
  have hlen := lvs_len m 0
  refine acall_of Try.func65 rfl rfl (Nat.le_of_ble_eq_true rfl) T_ok (fun base w0 => ?_)
  refine AWp.seq (AWp.regionW T_ok rfl (WL.all (by simp (decide := true) only [EVs, EVt, Array.toList] <;> exact rfl) ?_))
  cases h1 : nam e m with
  | false =>
    have hr : makE d l e m = 4 := by simp [makE, h1]
    rw [hr]
    refine AWp.seq (AWp.seq (AWp.regionW T_ok rfl ?_))
    (repeat (first | refine WL.c rfl rfl rfl (by simp (decide := true) only [EVs, EVt, Array.toList, h1] <;> exact rfl) (by simp (decide := true) only [EVs, EVt, Array.toList, calleeOf, h1] <;> exact rfl) (by simp (decide := true) only [EVs, EVt, Array.toList, argsOf, frz, h1] <;> exact rfl) (by first | exact sp_RNames e m (by omega)) rfl ?_ | refine WL.f rfl rfl rfl (by simp (decide := true) only [EVs, EVt, Array.toList, h1] <;> exact rfl) (by simp (decide := true) only [EVs, EVt, Array.toList, calleeOf, h1] <;> exact rfl) (by simp (decide := true) only [EVs, EVt, Array.toList, argsOf, frz, h1] <;> exact rfl) (by first | exact sp_RNames e m (by omega)) ?_ | refine WL.one (by simp (decide := true) only [EVs, EVt, Array.toList, h1] <;> exact rfl) ?_)); refine WL.nil ?_
    refine AWp.cond (t := true) rfl (AWp.seq (AWp.regionW T_ok rfl (WL.all (by simp (decide := true) only [EVs, EVt, Array.toList] <;> exact rfl) ?_)))
    exact AWp.ret ⟨_, rfl, .inl (.refl _)⟩
  | true =>
    refine AWp.seq (AWp.seq (AWp.regionW T_ok rfl ?_))
    (repeat (first | refine WL.c rfl rfl rfl (by simp (decide := true) only [EVs, EVt, Array.toList, h1] <;> exact rfl) (by simp (decide := true) only [EVs, EVt, Array.toList, calleeOf, h1] <;> exact rfl) (by simp (decide := true) only [EVs, EVt, Array.toList, argsOf, frz, h1] <;> exact rfl) (by first | exact sp_RNames e m (by omega)) rfl ?_ | refine WL.f rfl rfl rfl (by simp (decide := true) only [EVs, EVt, Array.toList, h1] <;> exact rfl) (by simp (decide := true) only [EVs, EVt, Array.toList, calleeOf, h1] <;> exact rfl) (by simp (decide := true) only [EVs, EVt, Array.toList, argsOf, frz, h1] <;> exact rfl) (by first | exact sp_RNames e m (by omega)) ?_ | refine WL.one (by simp (decide := true) only [EVs, EVt, Array.toList, h1] <;> exact rfl) ?_)); refine WL.nil ?_
    refine AWp.cond (t := false) rfl (AWp.skip ?_)
    by_cases hs : lvs m 0 = []
    · have c1 : ltI 0 ((lvs m 0).length : Int) = false := by rw [hs]; rfl
      refine AWp.seq (AWp.seq (AWp.regionW T_ok rfl ?_))
      (repeat (first | refine WL.c rfl rfl rfl (by simp (decide := true) only [EVs, EVt, Array.toList, c1] <;> exact rfl) (by simp (decide := true) only [EVs, EVt, Array.toList, calleeOf, c1] <;> exact rfl) (by simp (decide := true) only [EVs, EVt, Array.toList, argsOf, frz, c1] <;> exact rfl) (by first | exact sp_RLevels e m 0 (by omega)) rfl ?_ | refine WL.f rfl rfl rfl (by simp (decide := true) only [EVs, EVt, Array.toList, c1] <;> exact rfl) (by simp (decide := true) only [EVs, EVt, Array.toList, calleeOf, c1] <;> exact rfl) (by simp (decide := true) only [EVs, EVt, Array.toList, argsOf, frz, c1] <;> exact rfl) (by first | exact sp_RLevels e m 0 (by omega)) ?_ | refine WL.one (by simp (decide := true) only [EVs, EVt, Array.toList, c1] <;> exact rfl) ?_)); refine WL.nil ?_
      refine AWp.cond (t := false) rfl (AWp.skip ?_)
      cases hf : flw d l e m with
      | false =>
        have hr : makE d l e m = 6 := by simp [makE, h1, hs, hf]
        rw [hr]
        refine AWp.seq (AWp.seq (AWp.regionW T_ok rfl ?_))
        (repeat (first | refine WL.c rfl rfl rfl (by simp (decide := true) only [EVs, EVt, Array.toList, hf] <;> exact rfl) (by simp (decide := true) only [EVs, EVt, Array.toList, calleeOf, hf] <;> exact rfl) (by simp (decide := true) only [EVs, EVt, Array.toList, argsOf, frz, hf] <;> exact rfl) (by first | exact hF) rfl ?_ | refine WL.f rfl rfl rfl (by simp (decide := true) only [EVs, EVt, Array.toList, hf] <;> exact rfl) (by simp (decide := true) only [EVs, EVt, Array.toList, calleeOf, hf] <;> exact rfl) (by simp (decide := true) only [EVs, EVt, Array.toList, argsOf, frz, hf] <;> exact rfl) (by first | exact hF) ?_ | refine WL.one (by simp (decide := true) only [EVs, EVt, Array.toList, hf] <;> exact rfl) ?_)); refine WL.nil ?_
        refine AWp.cond (t := true) rfl (AWp.seq (AWp.regionW T_ok rfl (WL.all (by simp (decide := true) only [EVs, EVt, Array.toList] <;> exact rfl) ?_)))
        exact AWp.ret ⟨_, rfl, .inl (.refl _)⟩
      | true =>
        have hr : makE d l e m = 0 := by simp [makE, h1, hs, hf]
        rw [hr]
        refine AWp.seq (AWp.seq (AWp.regionW T_ok rfl ?_))
        (repeat (first | refine WL.c rfl rfl rfl (by simp (decide := true) only [EVs, EVt, Array.toList, hf] <;> exact rfl) (by simp (decide := true) only [EVs, EVt, Array.toList, calleeOf, hf] <;> exact rfl) (by simp (decide := true) only [EVs, EVt, Array.toList, argsOf, frz, hf] <;> exact rfl) (by first | exact hF) rfl ?_ | refine WL.f rfl rfl rfl (by simp (decide := true) only [EVs, EVt, Array.toList, hf] <;> exact rfl) (by simp (decide := true) only [EVs, EVt, Array.toList, calleeOf, hf] <;> exact rfl) (by simp (decide := true) only [EVs, EVt, Array.toList, argsOf, frz, hf] <;> exact rfl) (by first | exact hF) ?_ | refine WL.one (by simp (decide := true) only [EVs, EVt, Array.toList, hf] <;> exact rfl) ?_)); refine WL.nil ?_
        refine AWp.cond (t := false) rfl (AWp.skip ?_)
        refine AWp.seq (AWp.regionW T_ok rfl (WL.all (by simp (decide := true) only [EVs, EVt, Array.toList] <;> exact rfl) ?_))
        exact AWp.ret ⟨_, rfl, .inl (.refl _)⟩
    · have c1 : ltI 0 ((lvs m 0).length : Int) = true := ltI_t (by have := List.length_pos_iff.2 hs; omega)
      have hr : makE d l e m = 5 := by simp [makE, h1, hs]
      rw [hr]
      refine AWp.seq (AWp.seq (AWp.regionW T_ok rfl ?_))
      (repeat (first | refine WL.c rfl rfl rfl (by simp (decide := true) only [EVs, EVt, Array.toList, c1] <;> exact rfl) (by simp (decide := true) only [EVs, EVt, Array.toList, calleeOf, c1] <;> exact rfl) (by simp (decide := true) only [EVs, EVt, Array.toList, argsOf, frz, c1] <;> exact rfl) (by first | exact sp_RLevels e m 0 (by omega)) rfl ?_ | refine WL.f rfl rfl rfl (by simp (decide := true) only [EVs, EVt, Array.toList, c1] <;> exact rfl) (by simp (decide := true) only [EVs, EVt, Array.toList, calleeOf, c1] <;> exact rfl) (by simp (decide := true) only [EVs, EVt, Array.toList, argsOf, frz, c1] <;> exact rfl) (by first | exact sp_RLevels e m 0 (by omega)) ?_ | refine WL.one (by simp (decide := true) only [EVs, EVt, Array.toList, c1] <;> exact rfl) ?_)); refine WL.nil ?_
      refine AWp.cond (t := true) rfl (AWp.seq (AWp.regionW T_ok rfl (WL.all (by simp (decide := true) only [EVs, EVt, Array.toList] <;> exact rfl) ?_)))
      exact AWp.ret ⟨_, rfl, .inl (.refl _)⟩
end Go.Proofs.Ytfgndnackofenaa.E
