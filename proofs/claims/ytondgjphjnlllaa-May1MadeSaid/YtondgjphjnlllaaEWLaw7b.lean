/-
  More statements of layer 7, walked in abstract values. Conditions: lengths, bytes.
-/
import Derived.Test.YtondgjphjnlllaaEWLaw7
namespace Go.Proofs.Ytondgjphjnlllaa.E
open Go Go.RowKit Go.Proofs.YtondgjphjnlllaaW.E
set_option linter.unusedVariables false
set_option linter.unusedSimpArgs false
set_option maxRecDepth 100000
set_option maxHeartbeats 8000000

theorem rise_ge (x : Int) (h : x ≤ 5) : x ≤ rise x := by unfold rise; split <;> omega
theorem at_le {q : Int} {d : Int} {l : List Pr} (hd : d ≤ q) (h : ∀ p ∈ l, p.l ≤ q) (c : Int) : at_ d l c ≤ q := by
  rcases at_cases d l c with ⟨_, h2⟩ | ⟨p, h1, _, h3⟩
  · omega
  · have := h p h1; omega
theorem at_ge {q : Int} {d : Int} {l : List Pr} (hd : q ≤ d) (h : ∀ p ∈ l, q ≤ p.l) (c : Int) : q ≤ at_ d l c := by
  rcases at_cases d l c with ⟨_, h2⟩ | ⟨p, h1, _, h3⟩
  · omega
  · have := h p h1; omega

theorem sp_May1Flows (d : Int) (l : List Pr) (e : Int) (m : List Pr) (f : Int) (k : List Pr) (c : Int) (hd : isB d) (hl : l.length ≤ 35184372087808) (hw : ∀ p ∈ l, wfP p) (he : isB e) (hm : m.length ≤ 35184372087808) (hw' : ∀ p ∈ m, wfP p)
    (hf : isB f) (hk : k.length ≤ 35184372087808) (hw2 : ∀ p ∈ k, wfP p) : ACall Try.prog 4 [lab d l, lab e m, lab f k, u16 c] (bo true) := by
  refine acall_of Try.func4 rfl rfl (Nat.le_of_ble_eq_true rfl) T_ok (fun base w0 => ?_)
  refine AWp.seq (AWp.regionW T_ok rfl (WL.all (by simp (decide := true) only [EVs, EVt, Array.toList] <;> exact rfl) ?_))
  refine AWp.seq (AWp.seq (AWp.regionW T_ok rfl ?_))
  (repeat (first | refine WL.c rfl rfl rfl (by simp (decide := true) only [EVs, EVt, Array.toList] <;> exact rfl) (by simp (decide := true) only [EVs, EVt, Array.toList, calleeOf] <;> exact rfl) (by simp (decide := true) only [EVs, EVt, Array.toList, argsOf, frz] <;> exact rfl) (by first | exact sp_begun7) rfl ?_ | refine WL.f rfl rfl rfl (by simp (decide := true) only [EVs, EVt, Array.toList] <;> exact rfl) (by simp (decide := true) only [EVs, EVt, Array.toList, calleeOf] <;> exact rfl) (by simp (decide := true) only [EVs, EVt, Array.toList, argsOf, frz] <;> exact rfl) (by first | exact sp_begun7) ?_ | refine WL.one (by simp (decide := true) only [EVs, EVt, Array.toList] <;> exact rfl) ?_)); refine WL.nil ?_
  refine AWp.cond (t := false) rfl (AWp.skip ?_)
  by_cases hall : mayL d l = true ∧ mayL e m = true ∧ mayL f k = true
  · obtain ⟨h1, h2, h3⟩ := hall
    obtain ⟨_, _, _, l16, al, _⟩ := mayL_spec h1
    obtain ⟨_, _, _, m16, am, _⟩ := mayL_spec h2
    obtain ⟨_, _, _, k16, ak, _⟩ := mayL_spec h3
    have ll := wfP_lv hw
    have lm := wfP_lv hw'
    have lk := wfP_lv hw2
    have s1 := sp_MSees d l e m (by omega) (by omega) hd.1 he.1 ll lm
    have s2 := sp_MTurns d l f k (by omega) (by omega) hd.1 hf.1 ll lk
    have a1 := sp_RAt d l c (by omega)
    have a2 := sp_RAt e m c (by omega)
    have a3 := sp_RAt f k c (by omega)
    refine AWp.seq (AWp.seq (AWp.regionW T_ok rfl ?_))
    (repeat (first | refine WL.c rfl rfl rfl (by simp (decide := true) only [EVs, EVt, Array.toList, h1, h2, h3] <;> exact rfl) (by simp (decide := true) only [EVs, EVt, Array.toList, calleeOf, h1, h2, h3] <;> exact rfl) (by simp (decide := true) only [EVs, EVt, Array.toList, argsOf, frz, h1, h2, h3] <;> exact rfl) (by first | exact sp_RMay d l (by omega) | exact sp_RMay e m (by omega) | exact sp_RMay f k (by omega)) rfl ?_ | refine WL.f rfl rfl rfl (by simp (decide := true) only [EVs, EVt, Array.toList, h1, h2, h3] <;> exact rfl) (by simp (decide := true) only [EVs, EVt, Array.toList, calleeOf, h1, h2, h3] <;> exact rfl) (by simp (decide := true) only [EVs, EVt, Array.toList, argsOf, frz, h1, h2, h3] <;> exact rfl) (by first | exact sp_RMay d l (by omega) | exact sp_RMay e m (by omega) | exact sp_RMay f k (by omega)) ?_ | refine WL.one (by simp (decide := true) only [EVs, EVt, Array.toList, h1, h2, h3] <;> exact rfl) ?_)); refine WL.nil ?_
    refine AWp.cond (t := false) rfl (AWp.skip ?_)
    cases c1 : sees d l e m with
    | false =>
      refine AWp.seq (AWp.seq (AWp.regionW T_ok rfl ?_))
      (repeat (first | refine WL.c rfl rfl rfl (by simp (decide := true) only [EVs, EVt, Array.toList, c1] <;> exact rfl) (by simp (decide := true) only [EVs, EVt, Array.toList, calleeOf, c1] <;> exact rfl) (by simp (decide := true) only [EVs, EVt, Array.toList, argsOf, frz, c1] <;> exact rfl) (by first | exact s1) rfl ?_ | refine WL.f rfl rfl rfl (by simp (decide := true) only [EVs, EVt, Array.toList, c1] <;> exact rfl) (by simp (decide := true) only [EVs, EVt, Array.toList, calleeOf, c1] <;> exact rfl) (by simp (decide := true) only [EVs, EVt, Array.toList, argsOf, frz, c1] <;> exact rfl) (by first | exact s1) ?_ | refine WL.one (by simp (decide := true) only [EVs, EVt, Array.toList, c1] <;> exact rfl) ?_)); refine WL.nil ?_
      refine AWp.cond (t := true) rfl (AWp.seq (AWp.regionW T_ok rfl (WL.all (by simp (decide := true) only [EVs, EVt, Array.toList] <;> exact rfl) ?_)))
      exact AWp.ret ⟨_, rfl, .inl (.refl _)⟩
    | true =>
      cases c2 : flw d l f k with
      | false =>
        refine AWp.seq (AWp.seq (AWp.regionW T_ok rfl ?_))
        (repeat (first | refine WL.c rfl rfl rfl (by simp (decide := true) only [EVs, EVt, Array.toList, c1, c2] <;> exact rfl) (by simp (decide := true) only [EVs, EVt, Array.toList, calleeOf, c1, c2] <;> exact rfl) (by simp (decide := true) only [EVs, EVt, Array.toList, argsOf, frz, c1, c2] <;> exact rfl) (by first | exact s1 | exact s2) rfl ?_ | refine WL.f rfl rfl rfl (by simp (decide := true) only [EVs, EVt, Array.toList, c1, c2] <;> exact rfl) (by simp (decide := true) only [EVs, EVt, Array.toList, calleeOf, c1, c2] <;> exact rfl) (by simp (decide := true) only [EVs, EVt, Array.toList, argsOf, frz, c1, c2] <;> exact rfl) (by first | exact s1 | exact s2) ?_ | refine WL.one (by simp (decide := true) only [EVs, EVt, Array.toList, c1, c2] <;> exact rfl) ?_)); refine WL.nil ?_
        refine AWp.cond (t := true) rfl (AWp.seq (AWp.regionW T_ok rfl (WL.all (by simp (decide := true) only [EVs, EVt, Array.toList] <;> exact rfl) ?_)))
        exact AWp.ret ⟨_, rfl, .inl (.refl _)⟩
      | true =>
        by_cases hz : at_ d l c = 0
        · have c3 : eqI (at_ d l c) 0 = true := eqI_t hz
          refine AWp.seq (AWp.seq (AWp.regionW T_ok rfl ?_))
          (repeat (first | refine WL.c rfl rfl rfl (by simp (decide := true) only [EVs, EVt, Array.toList, c1, c2, c3] <;> exact rfl) (by simp (decide := true) only [EVs, EVt, Array.toList, calleeOf, c1, c2, c3] <;> exact rfl) (by simp (decide := true) only [EVs, EVt, Array.toList, argsOf, frz, c1, c2, c3] <;> exact rfl) (by first | exact s1 | exact s2 | exact a1) rfl ?_ | refine WL.f rfl rfl rfl (by simp (decide := true) only [EVs, EVt, Array.toList, c1, c2, c3] <;> exact rfl) (by simp (decide := true) only [EVs, EVt, Array.toList, calleeOf, c1, c2, c3] <;> exact rfl) (by simp (decide := true) only [EVs, EVt, Array.toList, argsOf, frz, c1, c2, c3] <;> exact rfl) (by first | exact s1 | exact s2 | exact a1) ?_ | refine WL.one (by simp (decide := true) only [EVs, EVt, Array.toList, c1, c2, c3] <;> exact rfl) ?_)); refine WL.nil ?_
          refine AWp.cond (t := true) rfl (AWp.seq (AWp.regionW T_ok rfl (WL.all (by simp (decide := true) only [EVs, EVt, Array.toList] <;> exact rfl) ?_)))
          exact AWp.ret ⟨_, rfl, .inl (.refl _)⟩
        · have c3 : eqI (at_ d l c) 0 = false := eqI_f hz
          have x1 := (sees_iff al am).1 c1 c
          have x2 := (flw_iff al ak).1 c2 c
          have x3 : rise (at_ d l c) = at_ d l c := by simp [rise, hz]
          rw [x3] at x1
          have y1 : leI (at_ e m c) (at_ d l c) = true := leI_t x1
          have y2 : leI (at_ d l c) (at_ f k c) = true := leI_t x2
          refine AWp.seq (AWp.seq (AWp.regionW T_ok rfl ?_))
          (repeat (first | refine WL.c rfl rfl rfl (by simp (decide := true) only [EVs, EVt, Array.toList, c1, c2, c3] <;> exact rfl) (by simp (decide := true) only [EVs, EVt, Array.toList, calleeOf, c1, c2, c3] <;> exact rfl) (by simp (decide := true) only [EVs, EVt, Array.toList, argsOf, frz, c1, c2, c3] <;> exact rfl) (by first | exact s1 | exact s2 | exact a1) rfl ?_ | refine WL.f rfl rfl rfl (by simp (decide := true) only [EVs, EVt, Array.toList, c1, c2, c3] <;> exact rfl) (by simp (decide := true) only [EVs, EVt, Array.toList, calleeOf, c1, c2, c3] <;> exact rfl) (by simp (decide := true) only [EVs, EVt, Array.toList, argsOf, frz, c1, c2, c3] <;> exact rfl) (by first | exact s1 | exact s2 | exact a1) ?_ | refine WL.one (by simp (decide := true) only [EVs, EVt, Array.toList, c1, c2, c3] <;> exact rfl) ?_)); refine WL.nil ?_
          refine AWp.cond (t := false) rfl (AWp.skip ?_)
          refine AWp.seq (AWp.drawnW T_ok mixed (by kernel_rfl) rfl ?_)
          (repeat (first | refine WL.c rfl rfl rfl (by simp (decide := true) only [EVs, EVt, Array.toList, y1, y2] <;> exact rfl) (by simp (decide := true) only [EVs, EVt, Array.toList, calleeOf, y1, y2] <;> exact rfl) (by simp (decide := true) only [EVs, EVt, Array.toList, argsOf, frz, y1, y2] <;> exact rfl) (by first | exact a1 | exact a2 | exact a3) rfl ?_ | refine WL.f rfl rfl rfl (by simp (decide := true) only [EVs, EVt, Array.toList, y1, y2] <;> exact rfl) (by simp (decide := true) only [EVs, EVt, Array.toList, calleeOf, y1, y2] <;> exact rfl) (by simp (decide := true) only [EVs, EVt, Array.toList, argsOf, frz, y1, y2] <;> exact rfl) (by first | exact a1 | exact a2 | exact a3) ?_ | refine WL.one (by simp (decide := true) only [EVs, EVt, Array.toList, y1, y2] <;> exact rfl) ?_)); refine WL.nil ?_
          exact AWp.ret ⟨_, rfl, .inl (.refl _)⟩
  · cases h1 : mayL d l <;> cases h2 : mayL e m <;> cases h3 : mayL f k <;> first | (exfalso; simp [h1, h2, h3] at hall; done) | (clear hall; refine AWp.seq (AWp.seq (AWp.regionW T_ok rfl ?_)); (repeat (first | refine WL.c rfl rfl rfl (by simp (decide := true) only [EVs, EVt, Array.toList, h1, h2, h3] <;> exact rfl) (by simp (decide := true) only [EVs, EVt, Array.toList, calleeOf, h1, h2, h3] <;> exact rfl) (by simp (decide := true) only [EVs, EVt, Array.toList, argsOf, frz, h1, h2, h3] <;> exact rfl) (by first | exact sp_RMay d l (by omega) | exact sp_RMay e m (by omega) | exact sp_RMay f k (by omega)) rfl ?_ | refine WL.f rfl rfl rfl (by simp (decide := true) only [EVs, EVt, Array.toList, h1, h2, h3] <;> exact rfl) (by simp (decide := true) only [EVs, EVt, Array.toList, calleeOf, h1, h2, h3] <;> exact rfl) (by simp (decide := true) only [EVs, EVt, Array.toList, argsOf, frz, h1, h2, h3] <;> exact rfl) (by first | exact sp_RMay d l (by omega) | exact sp_RMay e m (by omega) | exact sp_RMay f k (by omega)) ?_ | refine WL.one (by simp (decide := true) only [EVs, EVt, Array.toList, h1, h2, h3] <;> exact rfl) ?_)); refine WL.nil ?_; refine AWp.cond (t := true) rfl (AWp.seq (AWp.regionW T_ok rfl (WL.all (by simp (decide := true) only [EVs, EVt, Array.toList] <;> exact rfl) ?_))); exact AWp.ret ⟨_, rfl, .inl (.refl _)⟩)

theorem may1_rises {d e f : Int} {l m k : List Pr} (al : ascP l) (am : ascP m) (ak : ascP k) (hd : 1 ≤ d) (hd4 : d ≤ 4) (ll : ∀ p ∈ l, 0 ≤ p.l ∧ p.l ≤ 4) (he : 1 ≤ e) (he4 : e ≤ 4) (lm : ∀ p ∈ m, 0 ≤ p.l ∧ p.l ≤ 4) (hf4 : f ≤ 4) (lk : ∀ p ∈ k, p.l ≤ 4) (h : risE d l e m = 0) :
    (flw e m f k = true → flw d l f k = true) ∧ ((lvs l 0).length = (lvs m 0).length → sees d l f k = true → sees e m f k = true) ∧ risE e m e m = 0 := by
  obtain ⟨h1, h2, h3⟩ := (risE_iff al am).1 h
  refine ⟨fun h4 => ?_, fun h4 h5 => ?_, (risE_iff am am).2 ⟨h1, fun c hc => ((lvs_mem (d := e) am 0 c).1 hc).2, Le.refl _ _⟩⟩
  · rw [flw_iff am ak] at h4
    rw [flw_iff al ak]
    exact h3.trans h4
  · rw [sees_iff al ak] at h5
    rw [sees_iff am ak]
    intro c
    have h6 := h5 c
    have h7 := h3 c
    have h8 := at_le (q := 4) he4 (fun p hp => (lm p hp).2) c
    by_cases hz : at_ d l c = 0
    · have hc : c ∈ lvs l 0 := by
        refine (lvs_mem (d := d) al 0 c).2 ⟨?_, hz⟩
        rcases at_cases d l c with ⟨_, hn⟩ | ⟨p, hp, hpc, _⟩
        · omega
        · exact List.mem_map.2 ⟨p, hp, hpc⟩
      have hsub : ∀ x ∈ lvs m 0, x ∈ lvs l 0 := fun x hx => by
        have hx0 := h2 x hx
        refine (lvs_mem (d := d) al 0 x).2 ⟨?_, hx0⟩
        rcases at_cases d l x with ⟨_, hn⟩ | ⟨p, hp, hpc, _⟩
        · omega
        · exact List.mem_map.2 ⟨p, hp, hpc⟩
      have := all_in (lvs_nodup am 0) hsub h4.symm c hc
      have hz2 := ((lvs_mem (d := e) am 0 c).1 this).2
      rw [hz2]
      rw [hz] at h6
      exact h6
    · have : rise (at_ d l c) = at_ d l c := by simp [rise, hz]
      rw [this] at h6
      have := rise_ge (at_ e m c) (by omega)
      omega
theorem sp_May1Rises (d : Int) (l : List Pr) (e : Int) (m : List Pr) (f : Int) (k : List Pr) (hd : isB d) (hl : l.length ≤ 35184372087808) (hw : ∀ p ∈ l, wfP p) (he : isB e) (hm : m.length ≤ 35184372087808) (hw' : ∀ p ∈ m, wfP p)
    (hf : isB f) (hk : k.length ≤ 35184372087808) (hw2 : ∀ p ∈ k, wfP p) : ACall Try.prog 5 [lab d l, lab e m, lab f k] (bo true) := by
  refine acall_of Try.func5 rfl rfl (Nat.le_of_ble_eq_true rfl) T_ok (fun base w0 => ?_)
  refine AWp.seq (AWp.regionW T_ok rfl (WL.all (by simp (decide := true) only [EVs, EVt, Array.toList] <;> exact rfl) ?_))
  refine AWp.seq (AWp.seq (AWp.regionW T_ok rfl ?_))
  (repeat (first | refine WL.c rfl rfl rfl (by simp (decide := true) only [EVs, EVt, Array.toList] <;> exact rfl) (by simp (decide := true) only [EVs, EVt, Array.toList, calleeOf] <;> exact rfl) (by simp (decide := true) only [EVs, EVt, Array.toList, argsOf, frz] <;> exact rfl) (by first | exact sp_begun7) rfl ?_ | refine WL.f rfl rfl rfl (by simp (decide := true) only [EVs, EVt, Array.toList] <;> exact rfl) (by simp (decide := true) only [EVs, EVt, Array.toList, calleeOf] <;> exact rfl) (by simp (decide := true) only [EVs, EVt, Array.toList, argsOf, frz] <;> exact rfl) (by first | exact sp_begun7) ?_ | refine WL.one (by simp (decide := true) only [EVs, EVt, Array.toList] <;> exact rfl) ?_)); refine WL.nil ?_
  refine AWp.cond (t := false) rfl (AWp.skip ?_)
  by_cases hall : mayL d l = true ∧ mayL e m = true ∧ mayL f k = true
  · obtain ⟨h1, h2, h3⟩ := hall
    obtain ⟨_, d1, d4, l16, al, lv⟩ := mayL_spec h1
    obtain ⟨_, e1, e4, m16, am, mv⟩ := mayL_spec h2
    obtain ⟨_, _, f4, k16, ak, kv⟩ := mayL_spec h3
    have ll := wfP_lv hw
    have lm := wfP_lv hw'
    have lk := wfP_lv hw2
    have s1 := sp_MRises d l e m (by omega) (by omega) hd.1 he.1 ll lm
    by_cases hz : risE d l e m = 0
    · have c1 : eqI (risE d l e m) 0 = true := eqI_t hz
      obtain ⟨x1, x2, x3⟩ := may1_rises al am ak d1 d4 (fun p hp => ⟨ll p hp, (lv p hp).1⟩) e1 e4 (fun p hp => ⟨lm p hp, (mv p hp).1⟩) f4 (fun p hp => (kv p hp).1) hz
      have s2 := sp_MTurns e m f k (by omega) (by omega) he.1 hf.1 lm lk
      have s3 := sp_MTurns d l f k (by omega) (by omega) hd.1 hf.1 ll lk
      have s4 := sp_MSees d l f k (by omega) (by omega) hd.1 hf.1 ll lk
      have s5 := sp_MSees e m f k (by omega) (by omega) he.1 hf.1 lm lk
      have s6 := sp_MRises e m e m (by omega) (by omega) he.1 he.1 lm lm
      rw [x3] at s6
      refine AWp.seq (AWp.seq (AWp.regionW T_ok rfl ?_))
      (repeat (first | refine WL.c rfl rfl rfl (by simp (decide := true) only [EVs, EVt, Array.toList, h1, h2, h3, c1] <;> exact rfl) (by simp (decide := true) only [EVs, EVt, Array.toList, calleeOf, h1, h2, h3, c1] <;> exact rfl) (by simp (decide := true) only [EVs, EVt, Array.toList, argsOf, frz, h1, h2, h3, c1] <;> exact rfl) (by first | exact sp_RMay d l (by omega) | exact sp_RMay e m (by omega) | exact sp_RMay f k (by omega) | exact s1) rfl ?_ | refine WL.f rfl rfl rfl (by simp (decide := true) only [EVs, EVt, Array.toList, h1, h2, h3, c1] <;> exact rfl) (by simp (decide := true) only [EVs, EVt, Array.toList, calleeOf, h1, h2, h3, c1] <;> exact rfl) (by simp (decide := true) only [EVs, EVt, Array.toList, argsOf, frz, h1, h2, h3, c1] <;> exact rfl) (by first | exact sp_RMay d l (by omega) | exact sp_RMay e m (by omega) | exact sp_RMay f k (by omega) | exact s1) ?_ | refine WL.one (by simp (decide := true) only [EVs, EVt, Array.toList, h1, h2, h3, c1] <;> exact rfl) ?_)); refine WL.nil ?_
      refine AWp.cond (t := false) rfl (AWp.skip ?_)
      have key : ∀ kept : Bool, eqI ((lvs l 0).length : Int) ((lvs m 0).length : Int) = kept → (kept = true → sees d l f k = true → sees e m f k = true) := fun kept hk1 hk2 => by
        subst hk1
        have : ((lvs l 0).length : Int) = ((lvs m 0).length : Int) := by simpa [eqI] using hk2
        exact x2 (by omega)
      cases hkept : eqI ((lvs l 0).length : Int) ((lvs m 0).length : Int) with
      | false =>
        refine AWp.seq (AWp.drawnW T_ok mixed (by kernel_rfl) rfl ?_)
        (repeat (first | refine WL.c rfl rfl rfl (by simp (decide := true) only [EVs, EVt, Array.toList, hkept] <;> exact rfl) (by simp (decide := true) only [EVs, EVt, Array.toList, calleeOf, hkept] <;> exact rfl) (by simp (decide := true) only [EVs, EVt, Array.toList, argsOf, frz, hkept] <;> exact rfl) (by first | exact sp_RLevels d l 0 (by omega) | exact sp_RLevels e m 0 (by omega)) rfl ?_ | refine WL.f rfl rfl rfl (by simp (decide := true) only [EVs, EVt, Array.toList, hkept] <;> exact rfl) (by simp (decide := true) only [EVs, EVt, Array.toList, calleeOf, hkept] <;> exact rfl) (by simp (decide := true) only [EVs, EVt, Array.toList, argsOf, frz, hkept] <;> exact rfl) (by first | exact sp_RLevels d l 0 (by omega) | exact sp_RLevels e m 0 (by omega)) ?_ | refine WL.one (by simp (decide := true) only [EVs, EVt, Array.toList, hkept] <;> exact rfl) ?_)); refine WL.nil ?_
        cases t1 : flw e m f k with
        | false =>
          refine AWp.seq (AWp.regionW T_ok rfl ?_)
          simp only [List.append_eq, List.cons_append, List.nil_append]
          (repeat (first | refine WL.c rfl rfl rfl (by simp (decide := true) only [EVs, EVt, Array.toList, t1, eqI_self] <;> exact rfl) (by simp (decide := true) only [EVs, EVt, Array.toList, calleeOf, t1, eqI_self] <;> exact rfl) (by simp (decide := true) only [EVs, EVt, Array.toList, argsOf, frz, t1, eqI_self] <;> exact rfl) (by first | exact s2 | exact s6) rfl ?_ | refine WL.f rfl rfl rfl (by simp (decide := true) only [EVs, EVt, Array.toList, t1, eqI_self] <;> exact rfl) (by simp (decide := true) only [EVs, EVt, Array.toList, calleeOf, t1, eqI_self] <;> exact rfl) (by simp (decide := true) only [EVs, EVt, Array.toList, argsOf, frz, t1, eqI_self] <;> exact rfl) (by first | exact s2 | exact s6) ?_ | refine WL.one (by simp (decide := true) only [EVs, EVt, Array.toList, t1, eqI_self] <;> exact rfl) ?_)); refine WL.nil ?_
          exact AWp.ret ⟨_, rfl, .inl (.refl _)⟩
        | true =>
          have t2 := x1 t1
          refine AWp.seq (AWp.regionW T_ok rfl ?_)
          simp only [List.append_eq, List.cons_append, List.nil_append]
          (repeat (first | refine WL.c rfl rfl rfl (by simp (decide := true) only [EVs, EVt, Array.toList, t1, t2, eqI_self] <;> exact rfl) (by simp (decide := true) only [EVs, EVt, Array.toList, calleeOf, t1, t2, eqI_self] <;> exact rfl) (by simp (decide := true) only [EVs, EVt, Array.toList, argsOf, frz, t1, t2, eqI_self] <;> exact rfl) (by first | exact s2 | exact s3 | exact s6) rfl ?_ | refine WL.f rfl rfl rfl (by simp (decide := true) only [EVs, EVt, Array.toList, t1, t2, eqI_self] <;> exact rfl) (by simp (decide := true) only [EVs, EVt, Array.toList, calleeOf, t1, t2, eqI_self] <;> exact rfl) (by simp (decide := true) only [EVs, EVt, Array.toList, argsOf, frz, t1, t2, eqI_self] <;> exact rfl) (by first | exact s2 | exact s3 | exact s6) ?_ | refine WL.one (by simp (decide := true) only [EVs, EVt, Array.toList, t1, t2, eqI_self] <;> exact rfl) ?_)); refine WL.nil ?_
          exact AWp.ret ⟨_, rfl, .inl (.refl _)⟩
      | true =>
        have hs := key true hkept rfl
        refine AWp.seq (AWp.drawnW T_ok mixed (by kernel_rfl) rfl ?_)
        (repeat (first | refine WL.c rfl rfl rfl (by simp (decide := true) only [EVs, EVt, Array.toList, hkept] <;> exact rfl) (by simp (decide := true) only [EVs, EVt, Array.toList, calleeOf, hkept] <;> exact rfl) (by simp (decide := true) only [EVs, EVt, Array.toList, argsOf, frz, hkept] <;> exact rfl) (by first | exact sp_RLevels d l 0 (by omega) | exact sp_RLevels e m 0 (by omega)) rfl ?_ | refine WL.f rfl rfl rfl (by simp (decide := true) only [EVs, EVt, Array.toList, hkept] <;> exact rfl) (by simp (decide := true) only [EVs, EVt, Array.toList, calleeOf, hkept] <;> exact rfl) (by simp (decide := true) only [EVs, EVt, Array.toList, argsOf, frz, hkept] <;> exact rfl) (by first | exact sp_RLevels d l 0 (by omega) | exact sp_RLevels e m 0 (by omega)) ?_ | refine WL.one (by simp (decide := true) only [EVs, EVt, Array.toList, hkept] <;> exact rfl) ?_)); refine WL.nil ?_
        cases t1 : flw e m f k with
        | false =>
          cases t3 : sees d l f k with
          | false =>
            refine AWp.seq (AWp.regionW T_ok rfl ?_)
            simp only [List.append_eq, List.cons_append, List.nil_append]
            (repeat (first | refine WL.c rfl rfl rfl (by simp (decide := true) only [EVs, EVt, Array.toList, t1, t3, eqI_self] <;> exact rfl) (by simp (decide := true) only [EVs, EVt, Array.toList, calleeOf, t1, t3, eqI_self] <;> exact rfl) (by simp (decide := true) only [EVs, EVt, Array.toList, argsOf, frz, t1, t3, eqI_self] <;> exact rfl) (by first | exact s2 | exact s4 | exact s6) rfl ?_ | refine WL.f rfl rfl rfl (by simp (decide := true) only [EVs, EVt, Array.toList, t1, t3, eqI_self] <;> exact rfl) (by simp (decide := true) only [EVs, EVt, Array.toList, calleeOf, t1, t3, eqI_self] <;> exact rfl) (by simp (decide := true) only [EVs, EVt, Array.toList, argsOf, frz, t1, t3, eqI_self] <;> exact rfl) (by first | exact s2 | exact s4 | exact s6) ?_ | refine WL.one (by simp (decide := true) only [EVs, EVt, Array.toList, t1, t3, eqI_self] <;> exact rfl) ?_)); refine WL.nil ?_
            exact AWp.ret ⟨_, rfl, .inl (.refl _)⟩
          | true =>
            have t4 := hs t3
            refine AWp.seq (AWp.regionW T_ok rfl ?_)
            simp only [List.append_eq, List.cons_append, List.nil_append]
            (repeat (first | refine WL.c rfl rfl rfl (by simp (decide := true) only [EVs, EVt, Array.toList, t1, t3, t4, eqI_self] <;> exact rfl) (by simp (decide := true) only [EVs, EVt, Array.toList, calleeOf, t1, t3, t4, eqI_self] <;> exact rfl) (by simp (decide := true) only [EVs, EVt, Array.toList, argsOf, frz, t1, t3, t4, eqI_self] <;> exact rfl) (by first | exact s2 | exact s4 | exact s5 | exact s6) rfl ?_ | refine WL.f rfl rfl rfl (by simp (decide := true) only [EVs, EVt, Array.toList, t1, t3, t4, eqI_self] <;> exact rfl) (by simp (decide := true) only [EVs, EVt, Array.toList, calleeOf, t1, t3, t4, eqI_self] <;> exact rfl) (by simp (decide := true) only [EVs, EVt, Array.toList, argsOf, frz, t1, t3, t4, eqI_self] <;> exact rfl) (by first | exact s2 | exact s4 | exact s5 | exact s6) ?_ | refine WL.one (by simp (decide := true) only [EVs, EVt, Array.toList, t1, t3, t4, eqI_self] <;> exact rfl) ?_)); refine WL.nil ?_
            exact AWp.ret ⟨_, rfl, .inl (.refl _)⟩
        | true =>
          have t2 := x1 t1
          cases t3 : sees d l f k with
          | false =>
            refine AWp.seq (AWp.regionW T_ok rfl ?_)
            simp only [List.append_eq, List.cons_append, List.nil_append]
            (repeat (first | refine WL.c rfl rfl rfl (by simp (decide := true) only [EVs, EVt, Array.toList, t1, t2, t3, eqI_self] <;> exact rfl) (by simp (decide := true) only [EVs, EVt, Array.toList, calleeOf, t1, t2, t3, eqI_self] <;> exact rfl) (by simp (decide := true) only [EVs, EVt, Array.toList, argsOf, frz, t1, t2, t3, eqI_self] <;> exact rfl) (by first | exact s2 | exact s3 | exact s4 | exact s6) rfl ?_ | refine WL.f rfl rfl rfl (by simp (decide := true) only [EVs, EVt, Array.toList, t1, t2, t3, eqI_self] <;> exact rfl) (by simp (decide := true) only [EVs, EVt, Array.toList, calleeOf, t1, t2, t3, eqI_self] <;> exact rfl) (by simp (decide := true) only [EVs, EVt, Array.toList, argsOf, frz, t1, t2, t3, eqI_self] <;> exact rfl) (by first | exact s2 | exact s3 | exact s4 | exact s6) ?_ | refine WL.one (by simp (decide := true) only [EVs, EVt, Array.toList, t1, t2, t3, eqI_self] <;> exact rfl) ?_)); refine WL.nil ?_
            exact AWp.ret ⟨_, rfl, .inl (.refl _)⟩
          | true =>
            have t4 := hs t3
            refine AWp.seq (AWp.regionW T_ok rfl ?_)
            simp only [List.append_eq, List.cons_append, List.nil_append]
            (repeat (first | refine WL.c rfl rfl rfl (by simp (decide := true) only [EVs, EVt, Array.toList, t1, t2, t3, t4, eqI_self] <;> exact rfl) (by simp (decide := true) only [EVs, EVt, Array.toList, calleeOf, t1, t2, t3, t4, eqI_self] <;> exact rfl) (by simp (decide := true) only [EVs, EVt, Array.toList, argsOf, frz, t1, t2, t3, t4, eqI_self] <;> exact rfl) (by first | exact s2 | exact s3 | exact s4 | exact s5 | exact s6) rfl ?_ | refine WL.f rfl rfl rfl (by simp (decide := true) only [EVs, EVt, Array.toList, t1, t2, t3, t4, eqI_self] <;> exact rfl) (by simp (decide := true) only [EVs, EVt, Array.toList, calleeOf, t1, t2, t3, t4, eqI_self] <;> exact rfl) (by simp (decide := true) only [EVs, EVt, Array.toList, argsOf, frz, t1, t2, t3, t4, eqI_self] <;> exact rfl) (by first | exact s2 | exact s3 | exact s4 | exact s5 | exact s6) ?_ | refine WL.one (by simp (decide := true) only [EVs, EVt, Array.toList, t1, t2, t3, t4, eqI_self] <;> exact rfl) ?_)); refine WL.nil ?_
            exact AWp.ret ⟨_, rfl, .inl (.refl _)⟩
    · have c1 : eqI (risE d l e m) 0 = false := eqI_f hz
      refine AWp.seq (AWp.seq (AWp.regionW T_ok rfl ?_))
      (repeat (first | refine WL.c rfl rfl rfl (by simp (decide := true) only [EVs, EVt, Array.toList, h1, h2, h3, c1] <;> exact rfl) (by simp (decide := true) only [EVs, EVt, Array.toList, calleeOf, h1, h2, h3, c1] <;> exact rfl) (by simp (decide := true) only [EVs, EVt, Array.toList, argsOf, frz, h1, h2, h3, c1] <;> exact rfl) (by first | exact sp_RMay d l (by omega) | exact sp_RMay e m (by omega) | exact sp_RMay f k (by omega) | exact s1) rfl ?_ | refine WL.f rfl rfl rfl (by simp (decide := true) only [EVs, EVt, Array.toList, h1, h2, h3, c1] <;> exact rfl) (by simp (decide := true) only [EVs, EVt, Array.toList, calleeOf, h1, h2, h3, c1] <;> exact rfl) (by simp (decide := true) only [EVs, EVt, Array.toList, argsOf, frz, h1, h2, h3, c1] <;> exact rfl) (by first | exact sp_RMay d l (by omega) | exact sp_RMay e m (by omega) | exact sp_RMay f k (by omega) | exact s1) ?_ | refine WL.one (by simp (decide := true) only [EVs, EVt, Array.toList, h1, h2, h3, c1] <;> exact rfl) ?_)); refine WL.nil ?_
      refine AWp.cond (t := true) rfl (AWp.seq (AWp.regionW T_ok rfl (WL.all (by simp (decide := true) only [EVs, EVt, Array.toList] <;> exact rfl) ?_)))
      exact AWp.ret ⟨_, rfl, .inl (.refl _)⟩
  · cases h1 : mayL d l <;> cases h2 : mayL e m <;> cases h3 : mayL f k <;> first | (exfalso; simp [h1, h2, h3] at hall; done) | (clear hall; refine AWp.seq (AWp.seq (AWp.regionW T_ok rfl ?_)); (repeat (first | refine WL.c rfl rfl rfl (by simp (decide := true) only [EVs, EVt, Array.toList, h1, h2, h3] <;> exact rfl) (by simp (decide := true) only [EVs, EVt, Array.toList, calleeOf, h1, h2, h3] <;> exact rfl) (by simp (decide := true) only [EVs, EVt, Array.toList, argsOf, frz, h1, h2, h3] <;> exact rfl) (by first | exact sp_RMay d l (by omega) | exact sp_RMay e m (by omega) | exact sp_RMay f k (by omega)) rfl ?_ | refine WL.f rfl rfl rfl (by simp (decide := true) only [EVs, EVt, Array.toList, h1, h2, h3] <;> exact rfl) (by simp (decide := true) only [EVs, EVt, Array.toList, calleeOf, h1, h2, h3] <;> exact rfl) (by simp (decide := true) only [EVs, EVt, Array.toList, argsOf, frz, h1, h2, h3] <;> exact rfl) (by first | exact sp_RMay d l (by omega) | exact sp_RMay e m (by omega) | exact sp_RMay f k (by omega)) ?_ | refine WL.one (by simp (decide := true) only [EVs, EVt, Array.toList, h1, h2, h3] <;> exact rfl) ?_)); refine WL.nil ?_; refine AWp.cond (t := true) rfl (AWp.seq (AWp.regionW T_ok rfl (WL.all (by simp (decide := true) only [EVs, EVt, Array.toList] <;> exact rfl) ?_))); exact AWp.ret ⟨_, rfl, .inl (.refl _)⟩)
end Go.Proofs.Ytondgjphjnlllaa.E
