/-
  The statements of layer 5 of which labels may be, and of pairs of one category, walked in abstract values. Conditions: lengths, bytes.
-/
import Derived.Test.YtkmdeahnkfdhjaaEWL5a
import Derived.Test.YtkmdeahnkfdhjaaEM9
namespace Go.Proofs.Ytkmdeahnkfdhjaa.E
open Go Go.RowKit Go.Proofs.YtkmdeahnkfdhjaaW.E
set_option linter.unusedVariables false
set_option linter.unusedSimpArgs false
set_option maxRecDepth 100000
set_option maxHeartbeats 8000000

theorem same_self (d : Int) (l : List Pr) : sameL d l d l = true := by simp [sameL]
theorem wfP_cat {l : List Pr} (h : ∀ p ∈ l, wfP p) : ∀ p ∈ l, 0 ≤ p.c ∧ p.c < 65536 := fun p hp => ⟨(h p hp).1, (h p hp).2.1⟩
theorem setR_at5 {d : Int} {l : List Pr} (h : ascP l) (c v x : Int) : at_ d (setR d l c v) x = if c = x then v else at_ d l x := by
  unfold setR
  rw [mkl_at, lvl_snoc, lvl_at h]
theorem setR_len5 (d : Int) (l : List Pr) (c v : Int) : (setR d l c v).length ≤ l.length + 1 := by
  have := mkl_len d (l ++ [⟨c, v⟩])
  simpa [setR] using this
theorem snoc_all {q : Pr → Prop} {l : List Pr} {p : Pr} (h : ∀ x ∈ l, q x) (hp : q p) : ∀ x ∈ l ++ [p], q x := fun x hx => by
  rcases List.mem_append.1 hx with hx | hx
  · exact h x hx
  · simp only [List.mem_cons, List.not_mem_nil, or_false] at hx; subst hx; exact hp
theorem mkl_cats {d : Int} {l : List Pr} (h : ∀ p ∈ l, 0 ≤ p.c ∧ p.c < 65536) : ∀ p ∈ mkl d l, 0 ≤ p.c ∧ p.c < 65536 := fun p hp => by
  obtain ⟨r, hr, e⟩ := mem_cs.1 (mkl_cat p hp)
  have := h r hr
  rw [e] at this; exact this
theorem setR_cats {d : Int} {l : List Pr} {c v : Int} (h : ∀ p ∈ l, 0 ≤ p.c ∧ p.c < 65536) (hc : 0 ≤ c ∧ c < 65536) : ∀ p ∈ setR d l c v, 0 ≤ p.c ∧ p.c < 65536 :=
  mkl_cats (snoc_all (q := fun p => 0 ≤ p.c ∧ p.c < 65536) h hc)


theorem sp_LabelForms : ACall Try.prog 7 [] (bo true) := by
  have h1 := sp_LMay 2 [] (by simp)
  have h2 := sp_LMay 0 [] (by simp)
  have h3 := sp_LMay 2 [⟨4, 0⟩, ⟨5, 4⟩] (by simp)
  have h4 := sp_LMay 2 [⟨5, 4⟩, ⟨4, 0⟩] (by simp)
  have h5 := sp_LMay 2 [⟨5, 4⟩, ⟨5, 4⟩] (by simp)
  have h6 := sp_LMay 4 [⟨5, 4⟩] (by simp)
  have h7 := sp_LMay 5 [] (by simp)
  have h8 := sp_LMay 2 [⟨1, 5⟩] (by simp)
  have h9 := sp_LSame 2 [] 3 [] (by simp) (by simp)
  rw [show mayL 2 [] = true by decide +kernel] at h1
  rw [show mayL 0 [] = false by decide +kernel] at h2
  rw [show mayL 2 [⟨4, 0⟩, ⟨5, 4⟩] = true by decide +kernel] at h3
  rw [show mayL 2 [⟨5, 4⟩, ⟨4, 0⟩] = false by decide +kernel] at h4
  rw [show mayL 2 [⟨5, 4⟩, ⟨5, 4⟩] = false by decide +kernel] at h5
  rw [show mayL 4 [⟨5, 4⟩] = false by decide +kernel] at h6
  rw [show mayL 5 [] = false by decide +kernel] at h7
  rw [show mayL 2 [⟨1, 5⟩] = false by decide +kernel] at h8
  rw [show sameL 2 [] 3 [] = false by decide +kernel] at h9
  refine acall_of Try.func7 rfl rfl (Nat.le_of_ble_eq_true rfl) T_ok (fun base w0 => ?_)
  refine AWp.seq (AWp.regionW T_ok rfl (WL.all (by simp (decide := true) only [EVs, EVt, Array.toList] <;> exact rfl) ?_))
  refine AWp.seq (AWp.regionW T_ok rfl (WL.all (by simp (decide := true) only [EVs, EVt, Array.toList] <;> exact rfl) ?_))
  refine AWp.seq (AWp.regionW T_ok rfl (WL.all (by simp (decide := true) only [EVs, EVt, Array.toList] <;> exact rfl) ?_))
  refine AWp.seq (AWp.regionW T_ok rfl ?_)
  simp only [List.append_eq, List.cons_append, List.nil_append]
  (repeat (first | refine WL.c rfl rfl rfl (by simp (decide := true) only [EVs, EVt, Array.toList] <;> exact rfl) (by simp (decide := true) only [EVs, EVt, Array.toList, calleeOf] <;> exact rfl) (by simp (decide := true) only [EVs, EVt, Array.toList, argsOf, frz] <;> exact rfl) (by first | exact sp_begun5 | exact h1 | exact h2 | exact h3 | exact h4 | exact h5 | exact h6 | exact h7 | exact h8 | exact h9) rfl ?_ | refine WL.f rfl rfl rfl (by simp (decide := true) only [EVs, EVt, Array.toList] <;> exact rfl) (by simp (decide := true) only [EVs, EVt, Array.toList, calleeOf] <;> exact rfl) (by simp (decide := true) only [EVs, EVt, Array.toList, argsOf, frz] <;> exact rfl) (by first | exact sp_begun5 | exact h1 | exact h2 | exact h3 | exact h4 | exact h5 | exact h6 | exact h7 | exact h8 | exact h9) ?_ | refine WL.one (by simp (decide := true) only [EVs, EVt, Array.toList] <;> exact rfl) ?_)); refine WL.nil ?_
  exact AWp.ret ⟨_, rfl, .inl (.refl _)⟩

theorem once_same (l : List Pr) (c v : Int) : mkl 2 (l ++ [⟨c, v⟩]) = setR 2 (mkl 2 l) c v :=
  lab_ext (d := 2) (mkl_asc _ _) (mkl_asc _ _) mkl_lv mkl_lv fun x => by
    rw [mkl_at, setR_at5 (mkl_asc _ _), mkl_at, lvl_snoc]
theorem once_again (d : Int) (l : List Pr) : mkl d (mkl d l) = mkl d l :=
  lab_ext (mkl_asc _ _) (mkl_asc _ _) mkl_lv mkl_lv fun x => by rw [mkl_at, lvl_at (mkl_asc _ _)]

theorem sp_LabelMakesOnce (p : List Pr) (c v : Int) (hp : p.length ≤ 35184372087808) (hw' : ∀ q ∈ p, wfP q) (hc : 0 ≤ c ∧ c < 65536) : ACall Try.prog 8 [lps p, u16 c, u8 v] (bo true) := by
  refine acall_of Try.func8 rfl rfl (Nat.le_of_ble_eq_true rfl) T_ok (fun base w0 => ?_)
  refine AWp.seq (AWp.regionW T_ok rfl (WL.all (by simp (decide := true) only [EVs, EVt, Array.toList] <;> exact rfl) ?_))
  refine AWp.seq (AWp.seq (AWp.regionW T_ok rfl ?_))
  (repeat (first | refine WL.c rfl rfl rfl (by simp (decide := true) only [EVs, EVt, Array.toList] <;> exact rfl) (by simp (decide := true) only [EVs, EVt, Array.toList, calleeOf] <;> exact rfl) (by simp (decide := true) only [EVs, EVt, Array.toList, argsOf, frz] <;> exact rfl) (by first | exact sp_begun5) rfl ?_ | refine WL.f rfl rfl rfl (by simp (decide := true) only [EVs, EVt, Array.toList] <;> exact rfl) (by simp (decide := true) only [EVs, EVt, Array.toList, calleeOf] <;> exact rfl) (by simp (decide := true) only [EVs, EVt, Array.toList, argsOf, frz] <;> exact rfl) (by first | exact sp_begun5) ?_ | refine WL.one (by simp (decide := true) only [EVs, EVt, Array.toList] <;> exact rfl) ?_)); refine WL.nil ?_
  refine AWp.cond (t := false) rfl (AWp.skip ?_)
  by_cases h10 : 10 < p.length
  · have c1 : ltI 10 (p.length : Int) = true := ltI_t (by omega)
    refine AWp.seq (AWp.seq (AWp.regionW T_ok rfl (WL.all (by simp (decide := true) only [EVs, EVt, Array.toList, c1] <;> exact rfl) ?_)))
    refine AWp.cond (t := true) rfl (AWp.seq (AWp.regionW T_ok rfl (WL.all (by simp (decide := true) only [EVs, EVt, Array.toList] <;> exact rfl) ?_)))
    exact AWp.ret ⟨_, rfl, .inl (.refl _)⟩
  have c1 : ltI 10 (p.length : Int) = false := ltI_f (by omega)
  by_cases hv : 5 < v
  · have c4 : ltI 5 v = true := ltI_t hv
    refine AWp.seq (AWp.seq (AWp.regionW T_ok rfl (WL.all (by simp (decide := true) only [EVs, EVt, Array.toList, c1, c4] <;> exact rfl) ?_)))
    refine AWp.cond (t := true) rfl (AWp.seq (AWp.regionW T_ok rfl (WL.all (by simp (decide := true) only [EVs, EVt, Array.toList] <;> exact rfl) ?_)))
    exact AWp.ret ⟨_, rfl, .inl (.refl _)⟩
  have c4 : ltI 5 v = false := ltI_f hv
  refine AWp.seq (AWp.seq (AWp.regionW T_ok rfl (WL.all (by simp (decide := true) only [EVs, EVt, Array.toList, c1, c4] <;> exact rfl) ?_)))
  refine AWp.cond (t := false) rfl (AWp.skip ?_)
  refine AWp.seqI (fun st => ∃ (s : Nat → AV) (B : Nat → Nat × List AV) (L : Nat → Nat), st = ⟨57, 0, s, B, L⟩ ∧ s 0 = lps p ∧ s 1 = u16 c ∧ s 2 = u8 v) ?_ ?_
  · refine AWp.seq (AWp.regionW T_ok rfl (WL.all (by simp (decide := true) only [EVs, EVt, Array.toList] <;> exact rfl) ?_))
    refine AWp.block (AWp.loop (fun n st => ∃ (j : Nat) (s : Nat → AV) (B : Nat → Nat × List AV) (L : Nat → Nat), st = ⟨57, 0, s, B, L⟩ ∧ n = p.length - j ∧ s 0 = lps p ∧ s 1 = u16 c ∧ s 2 = u8 v ∧ s 7 = i64 j) ?_ (n := p.length) ⟨0, _, _, _, rfl, rfl, rfl, rfl, rfl, rfl⟩)
    rintro n st ⟨j, s, B, L, rfl, rfl, s0, s1, s2, s7⟩
    by_cases hlt : j < p.length
    · have e1 : ltI (j : Int) (p.length : Int) = true := ltI_t (by omega)
      have e2 := get_mapi prA p j hlt
      have e7 := wup j (by omega)
      refine AWp.seq (AWp.seq (AWp.regionW T_ok rfl (WL.all (by simp (decide := true) only [EVs, EVt, Array.toList, s0, s7, e1] <;> exact rfl) ?_)))
      refine AWp.cond (t := true) rfl (AWp.skip ?_)
      by_cases hz : 5 < p[j].l
      · have c5 : ltI 5 p[j].l = true := ltI_t hz
        refine AWp.seq (AWp.block (AWp.seq (AWp.regionW T_ok rfl (WL.all (by simp (decide := true) only [EVs, EVt, Array.toList, s0, s7, e2, c5] <;> exact rfl) ?_))))
        refine AWp.cond (t := true) rfl (AWp.seq (AWp.regionW T_ok rfl (WL.all (by simp (decide := true) only [EVs, EVt, Array.toList] <;> exact rfl) ?_)))
        exact AWp.ret ⟨_, rfl, .inl (.refl _)⟩
      · have c5 : ltI 5 p[j].l = false := ltI_f hz
        refine AWp.seq (AWp.block (AWp.seq (AWp.regionW T_ok rfl (WL.all (by simp (decide := true) only [EVs, EVt, Array.toList, s0, s7, e2, c5] <;> exact rfl) ?_))))
        refine AWp.cond (t := false) rfl (AWp.skip ?_)
        refine (AWp.regionW T_ok rfl (WL.all (by simp (decide := true) only [EVs, EVt, Array.toList, s7, e7] <;> exact rfl) ?_))
        refine ⟨p.length - (j + 1), by omega, j + 1, _, _, _, rfl, rfl, ?_, ?_, ?_, ?_⟩
        · simp (decide := true) only [EVs, EVt, Array.toList, s0]
        · simp (decide := true) only [EVs, EVt, Array.toList, s1]
        · simp (decide := true) only [EVs, EVt, Array.toList, s2]
        · simp (decide := true) only [EVs, EVt, Array.toList]
    · have e1 : ltI (j : Int) (p.length : Int) = false := ltI_f (by omega)
      refine AWp.seq (AWp.seq (AWp.regionW T_ok rfl (WL.all (by simp (decide := true) only [EVs, EVt, Array.toList, s0, s7, e1] <;> exact rfl) ?_)))
      refine AWp.cond (t := false) rfl (AWp.exit ?_)
      refine ⟨_, _, _, rfl, ?_, ?_, ?_⟩
      · simp (decide := true) only [EVs, EVt, Array.toList, s0]
      · simp (decide := true) only [EVs, EVt, Array.toList, s1]
      · simp (decide := true) only [EVs, EVt, Array.toList, s2]
  rintro st ⟨s, B, L, rfl, s0, s1, s2⟩
  have hcat := wfP_cat hw'
  have ml := mkl_len 2 p
  have mc := mkl_cats (d := 2) hcat
  have ml2 := mkl_len 2 (p ++ [⟨c, v⟩])
  have hal : (p ++ [(⟨c, v⟩ : Pr)]).length = p.length + 1 := by simp
  have hca := snoc_all (q := fun p => 0 ≤ p.c ∧ p.c < 65536) (p := ⟨c, v⟩) hcat hc
  have t1 := sp_LMake 2 (p ++ [⟨c, v⟩]) (by omega) hca
  have t1' := t1
  simp only [lps, List.map_append, List.map_cons, List.map_nil] at t1'
  have t2 := sp_LMake 2 p (by omega) hcat
  have t3 := sp_LSet 2 (mkl 2 p) c v (by omega) mc hc.1 hc.2
  rw [← once_same] at t3
  have t4 := sp_RSame 2 (mkl 2 (p ++ [⟨c, v⟩])) 2 (mkl 2 (p ++ [⟨c, v⟩])) (by omega) (by omega)
  rw [same_self] at t4
  have t5 := sp_LMake 2 (mkl 2 (p ++ [⟨c, v⟩])) (by omega) (mkl_cats (d := 2) hca)
  rw [once_again] at t5
  refine AWp.seq (AWp.regionW T_ok rfl (WL.next 2 rfl rfl (by simp (decide := true) only [EVs, EVt, Array.toList, s0] <;> exact rfl) ?_))
  refine WL.acc (e := 29) (xs := []) (ys := p.map prA) (sy := 2) (oy := .no) rfl rfl rfl rfl rfl rfl rfl T_prs rfl T_pr (by simp (decide := true) only [EVs, EVt, Array.toList]; exact ⟨_, _, rfl, .inl ⟨rfl, .inl rfl⟩⟩) (by simp (decide := true) only [EVs, EVt, Array.toList, s0]) (.inl rfl) (by simp; omega) (by decide) (fun v1 L1 hA1 => ?_)
  refine (WL.next 4 rfl rfl (by simp (decide := true) only [EVs, EVt, Array.toList, s1, s2] <;> exact rfl) ?_)
  refine WL.acc (e := 29) (xs := [] ++ p.map prA) (ys := [prA ⟨c, v⟩]) (sy := 2) (oy := .full) rfl rfl rfl rfl rfl rfl rfl T_prs rfl T_pr (by simp (decide := true) only [EVs, EVt, Array.toList]; exact hA1) (by simp (decide := true) only [EVs, EVt, Array.toList]) (.inl rfl) (by simp; omega) (by decide) (fun v2 L2 hA2 => ?_)
  rw [List.nil_append] at hA2
  obtain ⟨o2, sx, rfl, hacc⟩ := hA2
  have hww : sx = 2 ∨ p.map prA ++ [prA ⟨c, v⟩] = [] := by
    rcases hacc with ⟨_, h | h⟩ | ⟨_, _, h⟩
    · exact .inr h
    · exact .inl h
    · exact .inl h
  refine WL.c rfl rfl rfl rfl (by simp (decide := true) only [EVs, EVt, Array.toList, calleeOf] <;> exact rfl) (by simp (decide := true) only [EVs, EVt, Array.toList, argsOf, frz] <;> exact rfl) (ACall.wkl t1' (.cons (.refl _) (.cons (.list _ _ _ _ hww) .nil))) rfl ?_
  refine (WL.all (by simp (decide := true) only [EVs, EVt, Array.toList] <;> exact rfl) ?_)
  refine AWp.seq (AWp.regionW T_ok rfl ?_)
  (repeat (first | refine WL.c rfl rfl rfl (by simp (decide := true) only [EVs, EVt, Array.toList, s0, s1, s2] <;> exact rfl) (by simp (decide := true) only [EVs, EVt, Array.toList, calleeOf, s0, s1, s2] <;> exact rfl) (by simp (decide := true) only [EVs, EVt, Array.toList, argsOf, frz, s0, s1, s2] <;> exact rfl) (by first | exact t2 | exact t3) rfl ?_ | refine WL.f rfl rfl rfl (by simp (decide := true) only [EVs, EVt, Array.toList, s0, s1, s2] <;> exact rfl) (by simp (decide := true) only [EVs, EVt, Array.toList, calleeOf, s0, s1, s2] <;> exact rfl) (by simp (decide := true) only [EVs, EVt, Array.toList, argsOf, frz, s0, s1, s2] <;> exact rfl) (by first | exact t2 | exact t3) ?_ | refine WL.one (by simp (decide := true) only [EVs, EVt, Array.toList, s0, s1, s2] <;> exact rfl) ?_)); refine WL.nil ?_
  refine AWp.seq (AWp.drawnW T_ok mixed (by kernel_rfl) rfl ?_)
  (repeat (first | refine WL.c rfl rfl rfl (by simp (decide := true) only [EVs, EVt, Array.toList] <;> exact rfl) (by simp (decide := true) only [EVs, EVt, Array.toList, calleeOf] <;> exact rfl) (by simp (decide := true) only [EVs, EVt, Array.toList, argsOf, frz] <;> exact rfl) (by first | exact t4 | exact t5) rfl ?_ | refine WL.f rfl rfl rfl (by simp (decide := true) only [EVs, EVt, Array.toList] <;> exact rfl) (by simp (decide := true) only [EVs, EVt, Array.toList, calleeOf] <;> exact rfl) (by simp (decide := true) only [EVs, EVt, Array.toList, argsOf, frz] <;> exact rfl) (by first | exact t4 | exact t5) ?_ | refine WL.one (by simp (decide := true) only [EVs, EVt, Array.toList] <;> exact rfl) ?_)); refine WL.nil ?_
  exact AWp.ret ⟨_, rfl, .inl (.refl _)⟩
end Go.Proofs.Ytkmdeahnkfdhjaa.E
