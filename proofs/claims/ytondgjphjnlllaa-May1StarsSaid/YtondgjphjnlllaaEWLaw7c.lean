/-
  The last statements of layer 7, walked in abstract values. Conditions: lengths, bytes.
-/
import Derived.Test.YtondgjphjnlllaaEWLaw7b
namespace Go.Proofs.Ytondgjphjnlllaa.E
open Go Go.RowKit Go.Proofs.YtondgjphjnlllaaW.E
set_option linter.unusedVariables false
set_option linter.unusedSimpArgs false
set_option maxRecDepth 100000
set_option maxHeartbeats 8000000

theorem setR_at {d : Int} {l : List Pr} (h : ascP l) (c v x : Int) : at_ d (setR d l c v) x = if c = x then v else at_ d l x := by
  unfold setR
  rw [mkl_at, lvl_snoc, lvl_at h]
theorem setR_len (d : Int) (l : List Pr) (c v : Int) : (setR d l c v).length ≤ l.length + 1 := by
  have := mkl_len d (l ++ [⟨c, v⟩])
  simpa [setR] using this
theorem setR_lv {d : Int} {l : List Pr} {c v : Int} (hd : 0 ≤ d) (hl : ∀ p ∈ l, 0 ≤ p.l) (hv : 0 ≤ v) : ∀ p ∈ setR d l c v, 0 ≤ p.l :=
  mkl_q (q := fun x => 0 ≤ x) hd (fun p hp => by
    rcases List.mem_append.1 hp with hp | hp
    · exact hl p hp
    · simp only [List.mem_cons, List.not_mem_nil, or_false] at hp; subst hp; exact hv)
theorem may1_stars {d e : Int} {l m : List Pr} {c v : Int} (al : ascP l) (am : ascP m) (hv : v ≤ 4) (h0 : 0 ≤ v) (e0 : 0 ≤ e) (e4 : e ≤ 4) (lm : ∀ p ∈ m, 0 ≤ p.l ∧ p.l ≤ 4) :
    sees d (setR d l c 0) e m = sees d (setR d l c 0) e (setR e m c v) ∧ flw d (setR d l c 0) e m = flw d (setR d l c 0) e (setR e m c v) := by
  have a1 : ascP (setR d l c 0) := mkl_asc _ _
  have a2 : ascP (setR e m c v) := mkl_asc _ _
  constructor
  · rw [Bool.eq_iff_iff, sees_iff a1 am, sees_iff a1 a2]
    constructor
    · intro h x
      have := h x
      rw [setR_at al] at this ⊢
      rw [setR_at am]
      by_cases hx : c = x
      · rw [if_pos hx, if_pos hx]; simp [rise]; omega
      · rw [if_neg hx, if_neg hx]; rw [if_neg hx] at this; exact this
    · intro h x
      have := h x
      rw [setR_at al] at this ⊢
      rw [setR_at am] at this
      by_cases hx : c = x
      · rw [if_pos hx]
        have := at_le (q := 4) e4 (fun p hp => (lm p hp).2) x
        simp [rise]; omega
      · rw [if_neg hx, if_neg hx] at this; rw [if_neg hx]; exact this
  · rw [Bool.eq_iff_iff, flw_iff a1 am, flw_iff a1 a2]
    constructor
    · intro h x
      have := h x
      rw [setR_at al] at this ⊢
      rw [setR_at am]
      by_cases hx : c = x
      · rw [if_pos hx, if_pos hx]; omega
      · rw [if_neg hx, if_neg hx]; rw [if_neg hx] at this; exact this
    · intro h x
      have := h x
      rw [setR_at al] at this ⊢
      rw [setR_at am] at this
      by_cases hx : c = x
      · rw [if_pos hx]
        exact at_ge (q := 0) e0 (fun p hp => (lm p hp).1) x
      · rw [if_neg hx, if_neg hx] at this; rw [if_neg hx]; exact this

theorem sp_May1Stars (d : Int) (l : List Pr) (e : Int) (m : List Pr) (c v : Int) (hd : isB d) (hl : l.length ≤ 35184372087808) (hw : ∀ p ∈ l, wfP p) (he : isB e) (hm : m.length ≤ 35184372087808) (hw' : ∀ p ∈ m, wfP p) (hv : isB v) : ACall Try.prog 6 [lab d l, lab e m, u16 c, u8 v] (bo true) := by
  have hlen := setR_len d l c 0
  have hlen2 := setR_len e m c v
  have s1 := sp_RSetAt d l c 0 hl
  have s2 := sp_RSetAt e m c v hm
  have r1 := sp_RMay d l (by omega)
  have r2 := sp_RMay d (setR d l c 0) (by omega)
  have r3 := sp_RMay e m (by omega)
  have r4 := sp_RMay e (setR e m c v) (by omega)
  have t1 := sp_RAt e m c (by omega)
  refine acall_of Try.func6 rfl rfl (Nat.le_of_ble_eq_true rfl) T_ok (fun base w0 => ?_)
  refine AWp.seq (AWp.regionW T_ok rfl (WL.all (by simp (decide := true) only [EVs, EVt, Array.toList] <;> exact rfl) ?_))
  refine AWp.seq (AWp.seq (AWp.regionW T_ok rfl ?_))
  (repeat (first | refine WL.c rfl rfl rfl (by simp (decide := true) only [EVs, EVt, Array.toList] <;> exact rfl) (by simp (decide := true) only [EVs, EVt, Array.toList, calleeOf] <;> exact rfl) (by simp (decide := true) only [EVs, EVt, Array.toList, argsOf, frz] <;> exact rfl) (by first | exact sp_begun7) rfl ?_ | refine WL.f rfl rfl rfl (by simp (decide := true) only [EVs, EVt, Array.toList] <;> exact rfl) (by simp (decide := true) only [EVs, EVt, Array.toList, calleeOf] <;> exact rfl) (by simp (decide := true) only [EVs, EVt, Array.toList, argsOf, frz] <;> exact rfl) (by first | exact sp_begun7) ?_ | refine WL.one (by simp (decide := true) only [EVs, EVt, Array.toList] <;> exact rfl) ?_)); refine WL.nil ?_
  refine AWp.cond (t := false) rfl (AWp.skip ?_)
  refine AWp.seq (AWp.regionW T_ok rfl ?_)
  (repeat (first | refine WL.c rfl rfl rfl (by simp (decide := true) only [EVs, EVt, Array.toList] <;> exact rfl) (by simp (decide := true) only [EVs, EVt, Array.toList, calleeOf] <;> exact rfl) (by simp (decide := true) only [EVs, EVt, Array.toList, argsOf, frz] <;> exact rfl) (by first | exact s1) rfl ?_ | refine WL.f rfl rfl rfl (by simp (decide := true) only [EVs, EVt, Array.toList] <;> exact rfl) (by simp (decide := true) only [EVs, EVt, Array.toList, calleeOf] <;> exact rfl) (by simp (decide := true) only [EVs, EVt, Array.toList, argsOf, frz] <;> exact rfl) (by first | exact s1) ?_ | refine WL.one (by simp (decide := true) only [EVs, EVt, Array.toList] <;> exact rfl) ?_)); refine WL.nil ?_
  by_cases hall : mayL d l = true ∧ mayL d (setR d l c 0) = true ∧ mayL e m = true ∧ 1 ≤ v ∧ v ≤ 4
  · obtain ⟨h1, h2, h3, v1, v4⟩ := hall
    have c1 : ltI v 1 = false := ltI_f (by omega)
    have c2 : ltI 4 v = false := ltI_f (by omega)
    refine AWp.seq (AWp.seq (AWp.regionW T_ok rfl ?_))
    simp only [List.append_eq, List.cons_append, List.nil_append]
    (repeat (first | refine WL.c rfl rfl rfl (by simp (decide := true) only [EVs, EVt, Array.toList, h1, h2, h3, c1, c2] <;> exact rfl) (by simp (decide := true) only [EVs, EVt, Array.toList, calleeOf, h1, h2, h3, c1, c2] <;> exact rfl) (by simp (decide := true) only [EVs, EVt, Array.toList, argsOf, frz, h1, h2, h3, c1, c2] <;> exact rfl) (by first | exact r1 | exact r2 | exact r3) rfl ?_ | refine WL.f rfl rfl rfl (by simp (decide := true) only [EVs, EVt, Array.toList, h1, h2, h3, c1, c2] <;> exact rfl) (by simp (decide := true) only [EVs, EVt, Array.toList, calleeOf, h1, h2, h3, c1, c2] <;> exact rfl) (by simp (decide := true) only [EVs, EVt, Array.toList, argsOf, frz, h1, h2, h3, c1, c2] <;> exact rfl) (by first | exact r1 | exact r2 | exact r3) ?_ | refine WL.one (by simp (decide := true) only [EVs, EVt, Array.toList, h1, h2, h3, c1, c2] <;> exact rfl) ?_)); refine WL.nil ?_
    refine AWp.cond (t := false) rfl (AWp.skip ?_)
    refine AWp.seq (AWp.regionW T_ok rfl ?_)
    (repeat (first | refine WL.c rfl rfl rfl (by simp (decide := true) only [EVs, EVt, Array.toList] <;> exact rfl) (by simp (decide := true) only [EVs, EVt, Array.toList, calleeOf] <;> exact rfl) (by simp (decide := true) only [EVs, EVt, Array.toList, argsOf, frz] <;> exact rfl) (by first | exact s2) rfl ?_ | refine WL.f rfl rfl rfl (by simp (decide := true) only [EVs, EVt, Array.toList] <;> exact rfl) (by simp (decide := true) only [EVs, EVt, Array.toList, calleeOf] <;> exact rfl) (by simp (decide := true) only [EVs, EVt, Array.toList, argsOf, frz] <;> exact rfl) (by first | exact s2) ?_ | refine WL.one (by simp (decide := true) only [EVs, EVt, Array.toList] <;> exact rfl) ?_)); refine WL.nil ?_
    by_cases hz : at_ e m c = 0
    · have c3 : eqI (at_ e m c) 0 = true := eqI_t hz
      refine AWp.seq (AWp.seq (AWp.regionW T_ok rfl ?_))
      (repeat (first | refine WL.c rfl rfl rfl (by simp (decide := true) only [EVs, EVt, Array.toList, c3] <;> exact rfl) (by simp (decide := true) only [EVs, EVt, Array.toList, calleeOf, c3] <;> exact rfl) (by simp (decide := true) only [EVs, EVt, Array.toList, argsOf, frz, c3] <;> exact rfl) (by first | exact t1) rfl ?_ | refine WL.f rfl rfl rfl (by simp (decide := true) only [EVs, EVt, Array.toList, c3] <;> exact rfl) (by simp (decide := true) only [EVs, EVt, Array.toList, calleeOf, c3] <;> exact rfl) (by simp (decide := true) only [EVs, EVt, Array.toList, argsOf, frz, c3] <;> exact rfl) (by first | exact t1) ?_ | refine WL.one (by simp (decide := true) only [EVs, EVt, Array.toList, c3] <;> exact rfl) ?_)); refine WL.nil ?_
      refine AWp.cond (t := true) rfl (AWp.seq (AWp.regionW T_ok rfl (WL.all (by simp (decide := true) only [EVs, EVt, Array.toList] <;> exact rfl) ?_)))
      exact AWp.ret ⟨_, rfl, .inl (.refl _)⟩
    have c3 : eqI (at_ e m c) 0 = false := eqI_f hz
    cases h4 : mayL e (setR e m c v) with
    | false =>
      refine AWp.seq (AWp.seq (AWp.regionW T_ok rfl ?_))
      (repeat (first | refine WL.c rfl rfl rfl (by simp (decide := true) only [EVs, EVt, Array.toList, c3, h4] <;> exact rfl) (by simp (decide := true) only [EVs, EVt, Array.toList, calleeOf, c3, h4] <;> exact rfl) (by simp (decide := true) only [EVs, EVt, Array.toList, argsOf, frz, c3, h4] <;> exact rfl) (by first | exact t1 | exact r4) rfl ?_ | refine WL.f rfl rfl rfl (by simp (decide := true) only [EVs, EVt, Array.toList, c3, h4] <;> exact rfl) (by simp (decide := true) only [EVs, EVt, Array.toList, calleeOf, c3, h4] <;> exact rfl) (by simp (decide := true) only [EVs, EVt, Array.toList, argsOf, frz, c3, h4] <;> exact rfl) (by first | exact t1 | exact r4) ?_ | refine WL.one (by simp (decide := true) only [EVs, EVt, Array.toList, c3, h4] <;> exact rfl) ?_)); refine WL.nil ?_
      refine AWp.cond (t := true) rfl (AWp.seq (AWp.regionW T_ok rfl (WL.all (by simp (decide := true) only [EVs, EVt, Array.toList] <;> exact rfl) ?_)))
      exact AWp.ret ⟨_, rfl, .inl (.refl _)⟩
    | true =>
      obtain ⟨_, d1, d4, l16, al, lv⟩ := mayL_spec h1
      obtain ⟨_, e1, e4, m16, am, mv⟩ := mayL_spec h3
      have ll := wfP_lv hw
      have lm := wfP_lv hw'
      obtain ⟨x1, x2⟩ := may1_stars (d := d) (c := c) al am v4 hv.1 (by omega) e4 (fun p hp => ⟨lm p hp, (mv p hp).1⟩)
      have q1 := setR_lv (c := c) hd.1 ll (Int.le_refl 0)
      have q2 := setR_lv (c := c) he.1 lm hv.1
      have u1 := sp_MSees d (setR d l c 0) e m (by omega) (by omega) hd.1 he.1 q1 lm
      have u2 := sp_MSees d (setR d l c 0) e (setR e m c v) (by omega) (by omega) hd.1 he.1 q1 q2
      have u3 := sp_MTurns d (setR d l c 0) e m (by omega) (by omega) hd.1 he.1 q1 lm
      have u4 := sp_MTurns d (setR d l c 0) e (setR e m c v) (by omega) (by omega) hd.1 he.1 q1 q2
      rw [x1] at u1
      rw [x2] at u3
      refine AWp.seq (AWp.seq (AWp.regionW T_ok rfl ?_))
      (repeat (first | refine WL.c rfl rfl rfl (by simp (decide := true) only [EVs, EVt, Array.toList, c3, h4] <;> exact rfl) (by simp (decide := true) only [EVs, EVt, Array.toList, calleeOf, c3, h4] <;> exact rfl) (by simp (decide := true) only [EVs, EVt, Array.toList, argsOf, frz, c3, h4] <;> exact rfl) (by first | exact t1 | exact r4) rfl ?_ | refine WL.f rfl rfl rfl (by simp (decide := true) only [EVs, EVt, Array.toList, c3, h4] <;> exact rfl) (by simp (decide := true) only [EVs, EVt, Array.toList, calleeOf, c3, h4] <;> exact rfl) (by simp (decide := true) only [EVs, EVt, Array.toList, argsOf, frz, c3, h4] <;> exact rfl) (by first | exact t1 | exact r4) ?_ | refine WL.one (by simp (decide := true) only [EVs, EVt, Array.toList, c3, h4] <;> exact rfl) ?_)); refine WL.nil ?_
      refine AWp.cond (t := false) rfl (AWp.skip ?_)
      refine AWp.seq (AWp.drawnW T_ok mixed (by kernel_rfl) rfl ?_)
      (repeat (first | refine WL.c rfl rfl rfl (by simp (decide := true) only [EVs, EVt, Array.toList, beq_self_eq_true] <;> exact rfl) (by simp (decide := true) only [EVs, EVt, Array.toList, calleeOf, beq_self_eq_true] <;> exact rfl) (by simp (decide := true) only [EVs, EVt, Array.toList, argsOf, frz, beq_self_eq_true] <;> exact rfl) (by first | exact u1 | exact u2 | exact u3 | exact u4) rfl ?_ | refine WL.f rfl rfl rfl (by simp (decide := true) only [EVs, EVt, Array.toList, beq_self_eq_true] <;> exact rfl) (by simp (decide := true) only [EVs, EVt, Array.toList, calleeOf, beq_self_eq_true] <;> exact rfl) (by simp (decide := true) only [EVs, EVt, Array.toList, argsOf, frz, beq_self_eq_true] <;> exact rfl) (by first | exact u1 | exact u2 | exact u3 | exact u4) ?_ | refine WL.one (by simp (decide := true) only [EVs, EVt, Array.toList, beq_self_eq_true] <;> exact rfl) ?_)); refine WL.nil ?_
      exact AWp.ret ⟨_, rfl, .inl (.refl _)⟩
  · cases h1 : mayL d l with
    | false =>
      refine AWp.seq (AWp.seq (AWp.regionW T_ok rfl ?_))
      simp only [List.append_eq, List.cons_append, List.nil_append]
      (repeat (first | refine WL.c rfl rfl rfl (by simp (decide := true) only [EVs, EVt, Array.toList, h1] <;> exact rfl) (by simp (decide := true) only [EVs, EVt, Array.toList, calleeOf, h1] <;> exact rfl) (by simp (decide := true) only [EVs, EVt, Array.toList, argsOf, frz, h1] <;> exact rfl) (by first | exact r1) rfl ?_ | refine WL.f rfl rfl rfl (by simp (decide := true) only [EVs, EVt, Array.toList, h1] <;> exact rfl) (by simp (decide := true) only [EVs, EVt, Array.toList, calleeOf, h1] <;> exact rfl) (by simp (decide := true) only [EVs, EVt, Array.toList, argsOf, frz, h1] <;> exact rfl) (by first | exact r1) ?_ | refine WL.one (by simp (decide := true) only [EVs, EVt, Array.toList, h1] <;> exact rfl) ?_)); refine WL.nil ?_
      refine AWp.cond (t := true) rfl (AWp.seq (AWp.regionW T_ok rfl (WL.all (by simp (decide := true) only [EVs, EVt, Array.toList] <;> exact rfl) ?_)))
      exact AWp.ret ⟨_, rfl, .inl (.refl _)⟩
    | true =>
      cases h2 : mayL d (setR d l c 0) with
      | false =>
        refine AWp.seq (AWp.seq (AWp.regionW T_ok rfl ?_))
        simp only [List.append_eq, List.cons_append, List.nil_append]
        (repeat (first | refine WL.c rfl rfl rfl (by simp (decide := true) only [EVs, EVt, Array.toList, h1, h2] <;> exact rfl) (by simp (decide := true) only [EVs, EVt, Array.toList, calleeOf, h1, h2] <;> exact rfl) (by simp (decide := true) only [EVs, EVt, Array.toList, argsOf, frz, h1, h2] <;> exact rfl) (by first | exact r1 | exact r2) rfl ?_ | refine WL.f rfl rfl rfl (by simp (decide := true) only [EVs, EVt, Array.toList, h1, h2] <;> exact rfl) (by simp (decide := true) only [EVs, EVt, Array.toList, calleeOf, h1, h2] <;> exact rfl) (by simp (decide := true) only [EVs, EVt, Array.toList, argsOf, frz, h1, h2] <;> exact rfl) (by first | exact r1 | exact r2) ?_ | refine WL.one (by simp (decide := true) only [EVs, EVt, Array.toList, h1, h2] <;> exact rfl) ?_)); refine WL.nil ?_
        refine AWp.cond (t := true) rfl (AWp.seq (AWp.regionW T_ok rfl (WL.all (by simp (decide := true) only [EVs, EVt, Array.toList] <;> exact rfl) ?_)))
        exact AWp.ret ⟨_, rfl, .inl (.refl _)⟩
      | true =>
        cases h3 : mayL e m with
        | false =>
          refine AWp.seq (AWp.seq (AWp.regionW T_ok rfl ?_))
          simp only [List.append_eq, List.cons_append, List.nil_append]
          (repeat (first | refine WL.c rfl rfl rfl (by simp (decide := true) only [EVs, EVt, Array.toList, h1, h2, h3] <;> exact rfl) (by simp (decide := true) only [EVs, EVt, Array.toList, calleeOf, h1, h2, h3] <;> exact rfl) (by simp (decide := true) only [EVs, EVt, Array.toList, argsOf, frz, h1, h2, h3] <;> exact rfl) (by first | exact r1 | exact r2 | exact r3) rfl ?_ | refine WL.f rfl rfl rfl (by simp (decide := true) only [EVs, EVt, Array.toList, h1, h2, h3] <;> exact rfl) (by simp (decide := true) only [EVs, EVt, Array.toList, calleeOf, h1, h2, h3] <;> exact rfl) (by simp (decide := true) only [EVs, EVt, Array.toList, argsOf, frz, h1, h2, h3] <;> exact rfl) (by first | exact r1 | exact r2 | exact r3) ?_ | refine WL.one (by simp (decide := true) only [EVs, EVt, Array.toList, h1, h2, h3] <;> exact rfl) ?_)); refine WL.nil ?_
          refine AWp.cond (t := true) rfl (AWp.seq (AWp.regionW T_ok rfl (WL.all (by simp (decide := true) only [EVs, EVt, Array.toList] <;> exact rfl) ?_)))
          exact AWp.ret ⟨_, rfl, .inl (.refl _)⟩
        | true =>
          by_cases hlo : v < 1
          · have c1 : ltI v 1 = true := ltI_t hlo
            refine AWp.seq (AWp.seq (AWp.regionW T_ok rfl ?_))
            simp only [List.append_eq, List.cons_append, List.nil_append]
            (repeat (first | refine WL.c rfl rfl rfl (by simp (decide := true) only [EVs, EVt, Array.toList, h1, h2, h3, c1] <;> exact rfl) (by simp (decide := true) only [EVs, EVt, Array.toList, calleeOf, h1, h2, h3, c1] <;> exact rfl) (by simp (decide := true) only [EVs, EVt, Array.toList, argsOf, frz, h1, h2, h3, c1] <;> exact rfl) (by first | exact r1 | exact r2 | exact r3) rfl ?_ | refine WL.f rfl rfl rfl (by simp (decide := true) only [EVs, EVt, Array.toList, h1, h2, h3, c1] <;> exact rfl) (by simp (decide := true) only [EVs, EVt, Array.toList, calleeOf, h1, h2, h3, c1] <;> exact rfl) (by simp (decide := true) only [EVs, EVt, Array.toList, argsOf, frz, h1, h2, h3, c1] <;> exact rfl) (by first | exact r1 | exact r2 | exact r3) ?_ | refine WL.one (by simp (decide := true) only [EVs, EVt, Array.toList, h1, h2, h3, c1] <;> exact rfl) ?_)); refine WL.nil ?_
            refine AWp.cond (t := true) rfl (AWp.seq (AWp.regionW T_ok rfl (WL.all (by simp (decide := true) only [EVs, EVt, Array.toList] <;> exact rfl) ?_)))
            exact AWp.ret ⟨_, rfl, .inl (.refl _)⟩
          · have hhi : 4 < v := by
              rcases Int.lt_or_le 4 v with h | h
              · exact h
              · exact absurd ⟨h1, h2, h3, by omega, h⟩ hall
            have c1 : ltI v 1 = false := ltI_f hlo
            have c2 : ltI 4 v = true := ltI_t hhi
            refine AWp.seq (AWp.seq (AWp.regionW T_ok rfl ?_))
            simp only [List.append_eq, List.cons_append, List.nil_append]
            (repeat (first | refine WL.c rfl rfl rfl (by simp (decide := true) only [EVs, EVt, Array.toList, h1, h2, h3, c1, c2] <;> exact rfl) (by simp (decide := true) only [EVs, EVt, Array.toList, calleeOf, h1, h2, h3, c1, c2] <;> exact rfl) (by simp (decide := true) only [EVs, EVt, Array.toList, argsOf, frz, h1, h2, h3, c1, c2] <;> exact rfl) (by first | exact r1 | exact r2 | exact r3) rfl ?_ | refine WL.f rfl rfl rfl (by simp (decide := true) only [EVs, EVt, Array.toList, h1, h2, h3, c1, c2] <;> exact rfl) (by simp (decide := true) only [EVs, EVt, Array.toList, calleeOf, h1, h2, h3, c1, c2] <;> exact rfl) (by simp (decide := true) only [EVs, EVt, Array.toList, argsOf, frz, h1, h2, h3, c1, c2] <;> exact rfl) (by first | exact r1 | exact r2 | exact r3) ?_ | refine WL.one (by simp (decide := true) only [EVs, EVt, Array.toList, h1, h2, h3, c1, c2] <;> exact rfl) ?_)); refine WL.nil ?_
            refine AWp.cond (t := true) rfl (AWp.seq (AWp.regionW T_ok rfl (WL.all (by simp (decide := true) only [EVs, EVt, Array.toList] <;> exact rfl) ?_)))
            exact AWp.ret ⟨_, rfl, .inl (.refl _)⟩

theorem sp_May1Made (d : Int) (l : List Pr) (e : Int) (m : List Pr) (hd : isB d) (hl : l.length ≤ 35184372087808) (hw : ∀ p ∈ l, wfP p) (he : isB e) (hm : m.length ≤ 35184372087808) (hw' : ∀ p ∈ m, wfP p) : ACall Try.prog 7 [lab d l, lab e m] (bo true) := by
  refine acall_of Try.func7 rfl rfl (Nat.le_of_ble_eq_true rfl) T_ok (fun base w0 => ?_)
  refine AWp.seq (AWp.regionW T_ok rfl (WL.all (by simp (decide := true) only [EVs, EVt, Array.toList] <;> exact rfl) ?_))
  refine AWp.seq (AWp.seq (AWp.regionW T_ok rfl ?_))
  (repeat (first | refine WL.c rfl rfl rfl (by simp (decide := true) only [EVs, EVt, Array.toList] <;> exact rfl) (by simp (decide := true) only [EVs, EVt, Array.toList, calleeOf] <;> exact rfl) (by simp (decide := true) only [EVs, EVt, Array.toList, argsOf, frz] <;> exact rfl) (by first | exact sp_begun7) rfl ?_ | refine WL.f rfl rfl rfl (by simp (decide := true) only [EVs, EVt, Array.toList] <;> exact rfl) (by simp (decide := true) only [EVs, EVt, Array.toList, calleeOf] <;> exact rfl) (by simp (decide := true) only [EVs, EVt, Array.toList, argsOf, frz] <;> exact rfl) (by first | exact sp_begun7) ?_ | refine WL.one (by simp (decide := true) only [EVs, EVt, Array.toList] <;> exact rfl) ?_)); refine WL.nil ?_
  refine AWp.cond (t := false) rfl (AWp.skip ?_)
  cases h1 : mayL d l with
  | false =>
    refine AWp.seq (AWp.seq (AWp.regionW T_ok rfl ?_))
    (repeat (first | refine WL.c rfl rfl rfl (by simp (decide := true) only [EVs, EVt, Array.toList, h1] <;> exact rfl) (by simp (decide := true) only [EVs, EVt, Array.toList, calleeOf, h1] <;> exact rfl) (by simp (decide := true) only [EVs, EVt, Array.toList, argsOf, frz, h1] <;> exact rfl) (by first | exact sp_RMay d l (by omega)) rfl ?_ | refine WL.f rfl rfl rfl (by simp (decide := true) only [EVs, EVt, Array.toList, h1] <;> exact rfl) (by simp (decide := true) only [EVs, EVt, Array.toList, calleeOf, h1] <;> exact rfl) (by simp (decide := true) only [EVs, EVt, Array.toList, argsOf, frz, h1] <;> exact rfl) (by first | exact sp_RMay d l (by omega)) ?_ | refine WL.one (by simp (decide := true) only [EVs, EVt, Array.toList, h1] <;> exact rfl) ?_)); refine WL.nil ?_
    refine AWp.cond (t := true) rfl (AWp.seq (AWp.regionW T_ok rfl (WL.all (by simp (decide := true) only [EVs, EVt, Array.toList] <;> exact rfl) ?_)))
    exact AWp.ret ⟨_, rfl, .inl (.refl _)⟩
  | true =>
    cases h2 : mayL e m with
    | false =>
      refine AWp.seq (AWp.seq (AWp.regionW T_ok rfl ?_))
      (repeat (first | refine WL.c rfl rfl rfl (by simp (decide := true) only [EVs, EVt, Array.toList, h1, h2] <;> exact rfl) (by simp (decide := true) only [EVs, EVt, Array.toList, calleeOf, h1, h2] <;> exact rfl) (by simp (decide := true) only [EVs, EVt, Array.toList, argsOf, frz, h1, h2] <;> exact rfl) (by first | exact sp_RMay d l (by omega) | exact sp_RMay e m (by omega)) rfl ?_ | refine WL.f rfl rfl rfl (by simp (decide := true) only [EVs, EVt, Array.toList, h1, h2] <;> exact rfl) (by simp (decide := true) only [EVs, EVt, Array.toList, calleeOf, h1, h2] <;> exact rfl) (by simp (decide := true) only [EVs, EVt, Array.toList, argsOf, frz, h1, h2] <;> exact rfl) (by first | exact sp_RMay d l (by omega) | exact sp_RMay e m (by omega)) ?_ | refine WL.one (by simp (decide := true) only [EVs, EVt, Array.toList, h1, h2] <;> exact rfl) ?_)); refine WL.nil ?_
      refine AWp.cond (t := true) rfl (AWp.seq (AWp.regionW T_ok rfl (WL.all (by simp (decide := true) only [EVs, EVt, Array.toList] <;> exact rfl) ?_)))
      exact AWp.ret ⟨_, rfl, .inl (.refl _)⟩
    | true =>
      obtain ⟨_, d1, d4, l16, al, _⟩ := mayL_spec h1
      obtain ⟨_, e1, e4, m16, am, _⟩ := mayL_spec h2
      have ll := wfP_lv hw
      have lm := wfP_lv hw'
      have u1 := sp_MMakes d l e m (by omega) (by omega) hd.1 he.1 ll lm
      have u2 := sp_MRises d l e m (by omega) (by omega) hd.1 he.1 ll lm
      have u3 := sp_MTurns d l e m (by omega) (by omega) hd.1 he.1 ll lm
      have u4 := sp_RLevels e m 0 (by omega)
      refine AWp.seq (AWp.seq (AWp.regionW T_ok rfl ?_))
      (repeat (first | refine WL.c rfl rfl rfl (by simp (decide := true) only [EVs, EVt, Array.toList, h1, h2] <;> exact rfl) (by simp (decide := true) only [EVs, EVt, Array.toList, calleeOf, h1, h2] <;> exact rfl) (by simp (decide := true) only [EVs, EVt, Array.toList, argsOf, frz, h1, h2] <;> exact rfl) (by first | exact sp_RMay d l (by omega) | exact sp_RMay e m (by omega)) rfl ?_ | refine WL.f rfl rfl rfl (by simp (decide := true) only [EVs, EVt, Array.toList, h1, h2] <;> exact rfl) (by simp (decide := true) only [EVs, EVt, Array.toList, calleeOf, h1, h2] <;> exact rfl) (by simp (decide := true) only [EVs, EVt, Array.toList, argsOf, frz, h1, h2] <;> exact rfl) (by first | exact sp_RMay d l (by omega) | exact sp_RMay e m (by omega)) ?_ | refine WL.one (by simp (decide := true) only [EVs, EVt, Array.toList, h1, h2] <;> exact rfl) ?_)); refine WL.nil ?_
      refine AWp.cond (t := false) rfl (AWp.skip ?_)
      refine AWp.seq (AWp.drawnW T_ok mixed (by kernel_rfl) rfl ?_)
      (repeat (first | refine WL.c rfl rfl rfl (by simp (decide := true) only [EVs, EVt, Array.toList] <;> exact rfl) (by simp (decide := true) only [EVs, EVt, Array.toList, calleeOf] <;> exact rfl) (by simp (decide := true) only [EVs, EVt, Array.toList, argsOf, frz] <;> exact rfl) (by first | exact u1 | exact u2) rfl ?_ | refine WL.f rfl rfl rfl (by simp (decide := true) only [EVs, EVt, Array.toList] <;> exact rfl) (by simp (decide := true) only [EVs, EVt, Array.toList, calleeOf] <;> exact rfl) (by simp (decide := true) only [EVs, EVt, Array.toList, argsOf, frz] <;> exact rfl) (by first | exact u1 | exact u2) ?_ | refine WL.one (by simp (decide := true) only [EVs, EVt, Array.toList] <;> exact rfl) ?_)); refine WL.nil ?_
      by_cases hz : makE d l e m = 0
      · obtain ⟨n1, n2, n3⟩ := (makE_iff al am).1 hz
        have hr : risE d l e m = 0 := (risE_iff al am).2 ⟨n1, by rw [n2]; simp, n3⟩
        have hf : flw d l e m = true := (flw_iff al am).2 n3
        have c1 : eqI (makE d l e m) 0 = true := eqI_t hz
        have c2 : eqI (risE d l e m) 0 = true := eqI_t hr
        have c3 : eqI (makE d l e m) (risE d l e m) = true := eqI_t (by omega)
        have c4 : ltI 0 ((lvs m 0).length : Int) = false := by rw [n2]; rfl
        refine AWp.seq (AWp.seq (AWp.regionW T_ok rfl ?_))
        (repeat (first | refine WL.c rfl rfl rfl (by simp (decide := true) only [EVs, EVt, Array.toList, c1, c2, hf] <;> exact rfl) (by simp (decide := true) only [EVs, EVt, Array.toList, calleeOf, c1, c2, hf] <;> exact rfl) (by simp (decide := true) only [EVs, EVt, Array.toList, argsOf, frz, c1, c2, hf] <;> exact rfl) (by first | exact u3) rfl ?_ | refine WL.f rfl rfl rfl (by simp (decide := true) only [EVs, EVt, Array.toList, c1, c2, hf] <;> exact rfl) (by simp (decide := true) only [EVs, EVt, Array.toList, calleeOf, c1, c2, hf] <;> exact rfl) (by simp (decide := true) only [EVs, EVt, Array.toList, argsOf, frz, c1, c2, hf] <;> exact rfl) (by first | exact u3) ?_ | refine WL.one (by simp (decide := true) only [EVs, EVt, Array.toList, c1, c2, hf] <;> exact rfl) ?_)); refine WL.nil ?_
        refine AWp.cond (t := false) rfl (AWp.skip ?_)
        refine AWp.seq (AWp.regionW T_ok rfl ?_)
        (repeat (first | refine WL.c rfl rfl rfl (by simp (decide := true) only [EVs, EVt, Array.toList, c3, c4] <;> exact rfl) (by simp (decide := true) only [EVs, EVt, Array.toList, calleeOf, c3, c4] <;> exact rfl) (by simp (decide := true) only [EVs, EVt, Array.toList, argsOf, frz, c3, c4] <;> exact rfl) (by first | exact u4) rfl ?_ | refine WL.f rfl rfl rfl (by simp (decide := true) only [EVs, EVt, Array.toList, c3, c4] <;> exact rfl) (by simp (decide := true) only [EVs, EVt, Array.toList, calleeOf, c3, c4] <;> exact rfl) (by simp (decide := true) only [EVs, EVt, Array.toList, argsOf, frz, c3, c4] <;> exact rfl) (by first | exact u4) ?_ | refine WL.one (by simp (decide := true) only [EVs, EVt, Array.toList, c3, c4] <;> exact rfl) ?_)); refine WL.nil ?_
        exact AWp.ret ⟨_, rfl, .inl (.refl _)⟩
      · have c1 : eqI (makE d l e m) 0 = false := eqI_f hz
        refine AWp.seq (AWp.seq (AWp.regionW T_ok rfl ?_))
        (repeat (first | refine WL.c rfl rfl rfl (by simp (decide := true) only [EVs, EVt, Array.toList, c1] <;> exact rfl) (by simp (decide := true) only [EVs, EVt, Array.toList, calleeOf, c1] <;> exact rfl) (by simp (decide := true) only [EVs, EVt, Array.toList, argsOf, frz, c1] <;> exact rfl) (by first | exact u3) rfl ?_ | refine WL.f rfl rfl rfl (by simp (decide := true) only [EVs, EVt, Array.toList, c1] <;> exact rfl) (by simp (decide := true) only [EVs, EVt, Array.toList, calleeOf, c1] <;> exact rfl) (by simp (decide := true) only [EVs, EVt, Array.toList, argsOf, frz, c1] <;> exact rfl) (by first | exact u3) ?_ | refine WL.one (by simp (decide := true) only [EVs, EVt, Array.toList, c1] <;> exact rfl) ?_)); refine WL.nil ?_
        refine AWp.cond (t := false) rfl (AWp.skip ?_)
        by_cases hs : lvs m 0 = []
        · have c4 : ltI 0 ((lvs m 0).length : Int) = false := by rw [hs]; rfl
          have c3 : eqI (makE d l e m) (risE d l e m) = true := by
            refine eqI_t ?_
            unfold makE risE
            rw [hs]
            simp
          refine AWp.seq (AWp.regionW T_ok rfl ?_)
          (repeat (first | refine WL.c rfl rfl rfl (by simp (decide := true) only [EVs, EVt, Array.toList, c3, c4] <;> exact rfl) (by simp (decide := true) only [EVs, EVt, Array.toList, calleeOf, c3, c4] <;> exact rfl) (by simp (decide := true) only [EVs, EVt, Array.toList, argsOf, frz, c3, c4] <;> exact rfl) (by first | exact u4) rfl ?_ | refine WL.f rfl rfl rfl (by simp (decide := true) only [EVs, EVt, Array.toList, c3, c4] <;> exact rfl) (by simp (decide := true) only [EVs, EVt, Array.toList, calleeOf, c3, c4] <;> exact rfl) (by simp (decide := true) only [EVs, EVt, Array.toList, argsOf, frz, c3, c4] <;> exact rfl) (by first | exact u4) ?_ | refine WL.one (by simp (decide := true) only [EVs, EVt, Array.toList, c3, c4] <;> exact rfl) ?_)); refine WL.nil ?_
          exact AWp.ret ⟨_, rfl, .inl (.refl _)⟩
        · have c4 : ltI 0 ((lvs m 0).length : Int) = true := ltI_t (by have := List.length_pos_iff.2 hs; omega)
          refine AWp.seq (AWp.regionW T_ok rfl ?_)
          (repeat (first | refine WL.c rfl rfl rfl (by simp (decide := true) only [EVs, EVt, Array.toList, c4] <;> exact rfl) (by simp (decide := true) only [EVs, EVt, Array.toList, calleeOf, c4] <;> exact rfl) (by simp (decide := true) only [EVs, EVt, Array.toList, argsOf, frz, c4] <;> exact rfl) (by first | exact u4) rfl ?_ | refine WL.f rfl rfl rfl (by simp (decide := true) only [EVs, EVt, Array.toList, c4] <;> exact rfl) (by simp (decide := true) only [EVs, EVt, Array.toList, calleeOf, c4] <;> exact rfl) (by simp (decide := true) only [EVs, EVt, Array.toList, argsOf, frz, c4] <;> exact rfl) (by first | exact u4) ?_ | refine WL.one (by simp (decide := true) only [EVs, EVt, Array.toList, c4] <;> exact rfl) ?_)); refine WL.nil ?_
          exact AWp.ret ⟨_, rfl, .inl (.refl _)⟩
end Go.Proofs.Ytondgjphjnlllaa.E
