/-
  The statements of layer 5 about what pairs make, walked in abstract values. Conditions: lengths, bytes.
-/
import Derived.Test.YtkmdeahnkfdhjaaEWL5a
import Derived.Test.YtkmdeahnkfdhjaaEM9
namespace Go.Proofs.Ytkmdeahnkfdhjaa.E
open Go Go.RowKit Go.Proofs.YtkmdeahnkfdhjaaW.E
set_option linter.unusedVariables false
set_option linter.unusedSimpArgs false
set_option maxRecDepth 100000
set_option maxHeartbeats 8000000

theorem same_self (d : Int) (l : List Pr) : sameL d l d l = true := by simp [sameL]
theorem wfP_cat {l : List Pr} (h : ∀ p ∈ l, wfP p) : ∀ p ∈ l, 0 ≤ p.c ∧ p.c < 65536 := fun p hp => ⟨(h p hp).1, (h p hp).2.1⟩
theorem setR_at5 {d : Int} {l : List Pr} (h : ascP l) (c v x : Int) : at_ d (setR d l c v) x = if c = x then v else at_ d l x := by
  unfold setR
  rw [mkl_at, lvl_snoc, lvl_at h]
theorem setR_len5 (d : Int) (l : List Pr) (c v : Int) : (setR d l c v).length ≤ l.length + 1 := by
  have := mkl_len d (l ++ [⟨c, v⟩])
  simpa [setR] using this
theorem snoc_all {q : Pr → Prop} {l : List Pr} {p : Pr} (h : ∀ x ∈ l, q x) (hp : q p) : ∀ x ∈ l ++ [p], q x := fun x hx => by
  rcases List.mem_append.1 hx with hx | hx
  · exact h x hx
  · simp only [List.mem_cons, List.not_mem_nil, or_false] at hx; subst hx; exact hp
theorem mkl_cats {d : Int} {l : List Pr} (h : ∀ p ∈ l, 0 ≤ p.c ∧ p.c < 65536) : ∀ p ∈ mkl d l, 0 ≤ p.c ∧ p.c < 65536 := fun p hp => by
  obtain ⟨r, hr, e⟩ := mem_cs.1 (mkl_cat p hp)
  have := h r hr
  rw [e] at this; exact this
theorem setR_cats {d : Int} {l : List Pr} {c v : Int} (h : ∀ p ∈ l, 0 ≤ p.c ∧ p.c < 65536) (hc : 0 ≤ c ∧ c < 65536) : ∀ p ∈ setR d l c v, 0 ≤ p.c ∧ p.c < 65536 :=
  mkl_cats (snoc_all (q := fun p => 0 ≤ p.c ∧ p.c < 65536) h hc)


theorem neqb (x y : Operand) (a b : Bool) : abin Try.prog .neq 4 x y (.bool a) (.bool b) = some (.bool (!(a == b))) := by
  have h0 : pureRun Try.prog (Op.equalIn (9999 + 1) 4 (.bool a) (.bool b)) = some (a == b) := pureRun_equal_bool _ _ _ _ und_bool
  have h1 : (Op.equal 4 (.bool a) (.bool b)) = Op.equalIn (9999 + 1) 4 (.bool a) (.bool b) := rfl
  have h2 : (do eqGuard .neq 4 x y (.bool a) (.bool b); binOp .neq 4 (.bool a) (.bool b) : Sem Value) = (do pure (.bool (!(← Op.equal 4 (.bool a) (.bool b))))) := rfl
  unfold abin
  rw [h2, h1, pureRun_bind, h0]
  rfl

theorem sp_LabelMakes (d : Int) (l : List Pr) (f : Int) (p : List Pr) (c v : Int) (hd : isB d) (hl : l.length ≤ 35184372087808) (hw : ∀ q ∈ l, wfP q) (hp : p.length ≤ 35184372087808) (hw' : ∀ q ∈ p, wfP q) (hc : 0 ≤ c ∧ c < 65536) : ACall Try.prog 3 [lab d l, u8 f, lps p, u16 c, u8 v] (bo true) := by
  refine acall_of Try.func3 rfl rfl (Nat.le_of_ble_eq_true rfl) T_ok (fun base w0 => ?_)
  refine AWp.seq (AWp.regionW T_ok rfl (WL.all (by simp (decide := true) only [EVs, EVt, Array.toList] <;> exact rfl) ?_))
  refine AWp.seq (AWp.seq (AWp.regionW T_ok rfl ?_))
  (repeat (first | refine WL.c rfl rfl rfl (by simp (decide := true) only [EVs, EVt, Array.toList] <;> exact rfl) (by simp (decide := true) only [EVs, EVt, Array.toList, calleeOf] <;> exact rfl) (by simp (decide := true) only [EVs, EVt, Array.toList, argsOf, frz] <;> exact rfl) (by first | exact sp_begun5) rfl ?_ | refine WL.f rfl rfl rfl (by simp (decide := true) only [EVs, EVt, Array.toList] <;> exact rfl) (by simp (decide := true) only [EVs, EVt, Array.toList, calleeOf] <;> exact rfl) (by simp (decide := true) only [EVs, EVt, Array.toList, argsOf, frz] <;> exact rfl) (by first | exact sp_begun5) ?_ | refine WL.one (by simp (decide := true) only [EVs, EVt, Array.toList] <;> exact rfl) ?_)); refine WL.nil ?_
  refine AWp.cond (t := false) rfl (AWp.skip ?_)
  by_cases h60 : 60 < l.length
  · have c1 : ltI 60 (l.length : Int) = true := ltI_t (by omega)
    refine AWp.seq (AWp.seq (AWp.regionW T_ok rfl (WL.all (by simp (decide := true) only [EVs, EVt, Array.toList, c1] <;> exact rfl) ?_)))
    refine AWp.cond (t := true) rfl (AWp.seq (AWp.regionW T_ok rfl (WL.all (by simp (decide := true) only [EVs, EVt, Array.toList] <;> exact rfl) ?_)))
    exact AWp.ret ⟨_, rfl, .inl (.refl _)⟩
  have c1 : ltI 60 (l.length : Int) = false := ltI_f (by omega)
  by_cases h40 : 40 < p.length
  · have c2 : ltI 40 (p.length : Int) = true := ltI_t (by omega)
    refine AWp.seq (AWp.seq (AWp.regionW T_ok rfl (WL.all (by simp (decide := true) only [EVs, EVt, Array.toList, c1, c2] <;> exact rfl) ?_)))
    refine AWp.cond (t := true) rfl (AWp.seq (AWp.regionW T_ok rfl (WL.all (by simp (decide := true) only [EVs, EVt, Array.toList] <;> exact rfl) ?_)))
    exact AWp.ret ⟨_, rfl, .inl (.refl _)⟩
  have c2 : ltI 40 (p.length : Int) = false := ltI_f (by omega)
  refine AWp.seq (AWp.seq (AWp.regionW T_ok rfl (WL.all (by simp (decide := true) only [EVs, EVt, Array.toList, c1, c2] <;> exact rfl) ?_)))
  refine AWp.cond (t := false) rfl (AWp.skip ?_)
  refine AWp.seq (AWp.seq (AWp.drawnW T_ok mixed (by kernel_rfl) rfl ?_))
  (repeat (first | refine WL.c rfl rfl rfl (by simp (decide := true) only [EVs, EVt, Array.toList, neqb, beq_self_eq_true] <;> exact rfl) (by simp (decide := true) only [EVs, EVt, Array.toList, calleeOf, neqb, beq_self_eq_true] <;> exact rfl) (by simp (decide := true) only [EVs, EVt, Array.toList, argsOf, frz, neqb, beq_self_eq_true] <;> exact rfl) (by first | exact sp_LMay d l (by omega) | exact sp_RMay d l (by omega)) rfl ?_ | refine WL.f rfl rfl rfl (by simp (decide := true) only [EVs, EVt, Array.toList, neqb, beq_self_eq_true] <;> exact rfl) (by simp (decide := true) only [EVs, EVt, Array.toList, calleeOf, neqb, beq_self_eq_true] <;> exact rfl) (by simp (decide := true) only [EVs, EVt, Array.toList, argsOf, frz, neqb, beq_self_eq_true] <;> exact rfl) (by first | exact sp_LMay d l (by omega) | exact sp_RMay d l (by omega)) ?_ | refine WL.one (by simp (decide := true) only [EVs, EVt, Array.toList, neqb, beq_self_eq_true] <;> exact rfl) ?_)); refine WL.nil ?_
  refine AWp.cond (t := false) rfl (AWp.skip ?_)
  by_cases hf : 5 < f
  · have c3 : ltI 5 f = true := ltI_t hf
    refine AWp.seq (AWp.seq (AWp.regionW T_ok rfl (WL.all (by simp (decide := true) only [EVs, EVt, Array.toList, c3] <;> exact rfl) ?_)))
    refine AWp.cond (t := true) rfl (AWp.seq (AWp.regionW T_ok rfl (WL.all (by simp (decide := true) only [EVs, EVt, Array.toList] <;> exact rfl) ?_)))
    exact AWp.ret ⟨_, rfl, .inl (.refl _)⟩
  have c3 : ltI 5 f = false := ltI_f hf
  by_cases hv : 5 < v
  · have c4 : ltI 5 v = true := ltI_t hv
    refine AWp.seq (AWp.seq (AWp.regionW T_ok rfl (WL.all (by simp (decide := true) only [EVs, EVt, Array.toList, c3, c4] <;> exact rfl) ?_)))
    refine AWp.cond (t := true) rfl (AWp.seq (AWp.regionW T_ok rfl (WL.all (by simp (decide := true) only [EVs, EVt, Array.toList] <;> exact rfl) ?_)))
    exact AWp.ret ⟨_, rfl, .inl (.refl _)⟩
  have c4 : ltI 5 v = false := ltI_f hv
  refine AWp.seq (AWp.seq (AWp.regionW T_ok rfl (WL.all (by simp (decide := true) only [EVs, EVt, Array.toList, c3, c4] <;> exact rfl) ?_)))
  refine AWp.cond (t := false) rfl (AWp.skip ?_)
  refine AWp.seqI (fun st => ∃ (s : Nat → AV) (B : Nat → Nat × List AV) (L : Nat → Nat), st = ⟨75, 0, s, B, L⟩ ∧ s 1 = u8 f ∧ s 2 = lps p ∧ s 3 = u16 c ∧ s 4 = u8 v) ?_ ?_
  · refine AWp.seq (AWp.regionW T_ok rfl (WL.all (by simp (decide := true) only [EVs, EVt, Array.toList] <;> exact rfl) ?_))
    refine AWp.block (AWp.loop (fun n st => ∃ (j : Nat) (s : Nat → AV) (B : Nat → Nat × List AV) (L : Nat → Nat), st = ⟨75, 0, s, B, L⟩ ∧ n = p.length - j ∧ s 1 = u8 f ∧ s 2 = lps p ∧ s 3 = u16 c ∧ s 4 = u8 v ∧ s 11 = i64 j) ?_ (n := p.length) ⟨0, _, _, _, rfl, rfl, rfl, rfl, rfl, rfl, rfl⟩)
    rintro n st ⟨j, s, B, L, rfl, rfl, s1, s2, s3, s4, s11⟩
    by_cases hlt : j < p.length
    · have e1 : ltI (j : Int) (p.length : Int) = true := ltI_t (by omega)
      have e2 := get_mapi prA p j hlt
      have e7 := wup j (by omega)
      refine AWp.seq (AWp.seq (AWp.regionW T_ok rfl (WL.all (by simp (decide := true) only [EVs, EVt, Array.toList, s2, s11, e1] <;> exact rfl) ?_)))
      refine AWp.cond (t := true) rfl (AWp.skip ?_)
      by_cases hz : 5 < p[j].l
      · have c5 : ltI 5 p[j].l = true := ltI_t hz
        refine AWp.seq (AWp.block (AWp.seq (AWp.regionW T_ok rfl (WL.all (by simp (decide := true) only [EVs, EVt, Array.toList, s2, s11, e2, c5] <;> exact rfl) ?_))))
        refine AWp.cond (t := true) rfl (AWp.seq (AWp.regionW T_ok rfl (WL.all (by simp (decide := true) only [EVs, EVt, Array.toList] <;> exact rfl) ?_)))
        exact AWp.ret ⟨_, rfl, .inl (.refl _)⟩
      · have c5 : ltI 5 p[j].l = false := ltI_f hz
        refine AWp.seq (AWp.block (AWp.seq (AWp.regionW T_ok rfl (WL.all (by simp (decide := true) only [EVs, EVt, Array.toList, s2, s11, e2, c5] <;> exact rfl) ?_))))
        refine AWp.cond (t := false) rfl (AWp.skip ?_)
        refine (AWp.regionW T_ok rfl (WL.all (by simp (decide := true) only [EVs, EVt, Array.toList, s11, e7] <;> exact rfl) ?_))
        refine ⟨p.length - (j + 1), by omega, j + 1, _, _, _, rfl, rfl, ?_, ?_, ?_, ?_, ?_⟩
        · simp (decide := true) only [EVs, EVt, Array.toList, s1]
        · simp (decide := true) only [EVs, EVt, Array.toList, s2]
        · simp (decide := true) only [EVs, EVt, Array.toList, s3]
        · simp (decide := true) only [EVs, EVt, Array.toList, s4]
        · simp (decide := true) only [EVs, EVt, Array.toList]
    · have e1 : ltI (j : Int) (p.length : Int) = false := ltI_f (by omega)
      refine AWp.seq (AWp.seq (AWp.regionW T_ok rfl (WL.all (by simp (decide := true) only [EVs, EVt, Array.toList, s2, s11, e1] <;> exact rfl) ?_)))
      refine AWp.cond (t := false) rfl (AWp.exit ?_)
      refine ⟨_, _, _, rfl, ?_, ?_, ?_, ?_⟩
      · simp (decide := true) only [EVs, EVt, Array.toList, s1]
      · simp (decide := true) only [EVs, EVt, Array.toList, s2]
      · simp (decide := true) only [EVs, EVt, Array.toList, s3]
      · simp (decide := true) only [EVs, EVt, Array.toList, s4]
  rintro st ⟨s, B, L, rfl, s1, s2, s3, s4⟩
  have hcat := wfP_cat hw'
  have ml := mkl_len f p
  have mc := mkl_cats (d := f) hcat
  have sl := setR_len5 f (mkl f p) c v
  have t1 := sp_LMake f p (by omega) hcat
  have t2 := sp_MakeLab f p (by omega)
  have t3 := sp_RSame f (mkl f p) f (mkl f p) (by omega) (by omega)
  rw [same_self] at t3
  have t4 := sp_LAt f (mkl f p) c (by omega)
  have t5 := sp_RAt f (mkl f p) c (by omega)
  have t6 := sp_LSet f (mkl f p) c v (by omega) mc hc.1 hc.2
  have t7 := sp_RSetAt f (mkl f p) c v (by omega)
  have t8 := sp_RSame f (setR f (mkl f p) c v) f (setR f (mkl f p) c v) (by omega) (by omega)
  rw [same_self] at t8
  refine AWp.seq (AWp.regionW T_ok rfl ?_)
  (repeat (first | refine WL.c rfl rfl rfl (by simp (decide := true) only [EVs, EVt, Array.toList, s1, s2] <;> exact rfl) (by simp (decide := true) only [EVs, EVt, Array.toList, calleeOf, s1, s2] <;> exact rfl) (by simp (decide := true) only [EVs, EVt, Array.toList, argsOf, frz, s1, s2] <;> exact rfl) (by first | exact t1) rfl ?_ | refine WL.f rfl rfl rfl (by simp (decide := true) only [EVs, EVt, Array.toList, s1, s2] <;> exact rfl) (by simp (decide := true) only [EVs, EVt, Array.toList, calleeOf, s1, s2] <;> exact rfl) (by simp (decide := true) only [EVs, EVt, Array.toList, argsOf, frz, s1, s2] <;> exact rfl) (by first | exact t1) ?_ | refine WL.one (by simp (decide := true) only [EVs, EVt, Array.toList, s1, s2] <;> exact rfl) ?_)); refine WL.nil ?_
  refine AWp.seq (AWp.drawnW T_ok mixed (by kernel_rfl) rfl ?_)
  (repeat (first | refine WL.c rfl rfl rfl (by simp (decide := true) only [EVs, EVt, Array.toList, s1, s2, s3, s4, eqI_self] <;> exact rfl) (by simp (decide := true) only [EVs, EVt, Array.toList, calleeOf, s1, s2, s3, s4, eqI_self] <;> exact rfl) (by simp (decide := true) only [EVs, EVt, Array.toList, argsOf, frz, s1, s2, s3, s4, eqI_self] <;> exact rfl) (by first | exact t2 | exact t3 | exact t4 | exact t5 | exact t6 | exact t7 | exact t8) rfl ?_ | refine WL.f rfl rfl rfl (by simp (decide := true) only [EVs, EVt, Array.toList, s1, s2, s3, s4, eqI_self] <;> exact rfl) (by simp (decide := true) only [EVs, EVt, Array.toList, calleeOf, s1, s2, s3, s4, eqI_self] <;> exact rfl) (by simp (decide := true) only [EVs, EVt, Array.toList, argsOf, frz, s1, s2, s3, s4, eqI_self] <;> exact rfl) (by first | exact t2 | exact t3 | exact t4 | exact t5 | exact t6 | exact t7 | exact t8) ?_ | refine WL.one (by simp (decide := true) only [EVs, EVt, Array.toList, s1, s2, s3, s4, eqI_self] <;> exact rfl) ?_)); refine WL.nil ?_
  exact AWp.ret ⟨_, rfl, .inl (.refl _)⟩
end Go.Proofs.Ytkmdeahnkfdhjaa.E
