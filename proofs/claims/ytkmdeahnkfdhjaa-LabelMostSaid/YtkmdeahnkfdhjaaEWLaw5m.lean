/-
  How many pairs a label may have, walked in abstract values. Conditions: bytes.
-/
import Derived.Test.YtkmdeahnkfdhjaaEWL5a
import Derived.Test.YtkmdeahnkfdhjaaEM9
namespace Go.Proofs.Ytkmdeahnkfdhjaa.E
open Go Go.RowKit Go.Proofs.YtkmdeahnkfdhjaaW.E
set_option linter.unusedVariables false
set_option linter.unusedSimpArgs false
set_option maxRecDepth 100000
set_option maxHeartbeats 8000000

theorem same_self (d : Int) (l : List Pr) : sameL d l d l = true := by simp [sameL]
theorem wfP_cat {l : List Pr} (h : ∀ p ∈ l, wfP p) : ∀ p ∈ l, 0 ≤ p.c ∧ p.c < 65536 := fun p hp => ⟨(h p hp).1, (h p hp).2.1⟩
theorem setR_at5 {d : Int} {l : List Pr} (h : ascP l) (c v x : Int) : at_ d (setR d l c v) x = if c = x then v else at_ d l x := by
  unfold setR
  rw [mkl_at, lvl_snoc, lvl_at h]
theorem setR_len5 (d : Int) (l : List Pr) (c v : Int) : (setR d l c v).length ≤ l.length + 1 := by
  have := mkl_len d (l ++ [⟨c, v⟩])
  simpa [setR] using this
theorem snoc_all {q : Pr → Prop} {l : List Pr} {p : Pr} (h : ∀ x ∈ l, q x) (hp : q p) : ∀ x ∈ l ++ [p], q x := fun x hx => by
  rcases List.mem_append.1 hx with hx | hx
  · exact h x hx
  · simp only [List.mem_cons, List.not_mem_nil, or_false] at hx; subst hx; exact hp
theorem mkl_cats {d : Int} {l : List Pr} (h : ∀ p ∈ l, 0 ≤ p.c ∧ p.c < 65536) : ∀ p ∈ mkl d l, 0 ≤ p.c ∧ p.c < 65536 := fun p hp => by
  obtain ⟨r, hr, e⟩ := mem_cs.1 (mkl_cat p hp)
  have := h r hr
  rw [e] at this; exact this
theorem setR_cats {d : Int} {l : List Pr} {c v : Int} (h : ∀ p ∈ l, 0 ≤ p.c ∧ p.c < 65536) (hc : 0 ≤ c ∧ c < 65536) : ∀ p ∈ setR d l c v, 0 ≤ p.c ∧ p.c < 65536 :=
  mkl_cats (snoc_all (q := fun p => 0 ≤ p.c ∧ p.c < 65536) h hc)


def pk (v : Int) (k : Nat) : List Pr := (List.range k).map fun (i : Nat) => ⟨(i : Int), v⟩
theorem pk_len (v : Int) (k : Nat) : (pk v k).length = k := by simp [pk]
theorem pk_succ (v : Int) (k : Nat) : pk v (k + 1) = pk v k ++ [⟨(k : Int), v⟩] := by simp [pk, List.range_succ]
theorem okAt_pk (d v : Int) (k i : Nat) (h : i < k) : okAt d 4 (pk v k) i = (decide (v ≤ 4) && !decide (v = d)) := by
  have e : (pk v k)[i]? = some ⟨(i : Int), v⟩ := by simp [pk, h]
  have e2 : (decide (i = 0) || decide (((pk v k).getD (i - 1) ⟨0, 0⟩).c < (i : Int))) = true := by
    by_cases h0 : i = 0
    · simp [h0]
    · have e3 : (pk v k).getD (i - 1) ⟨0, 0⟩ = ⟨((i - 1 : Nat) : Int), v⟩ := by
        rw [List.getD_eq_getElem?_getD]
        simp [pk, show i - 1 < k by omega]
      rw [e3]
      simp only [Bool.or_eq_true, decide_eq_true_eq]
      right; omega
  unfold okAt
  rw [e]
  simp only [e2, Bool.and_true]
theorem mayL_pk (d v : Int) (k : Nat) : mayL d (pk v k) = (decide (1 ≤ d) && decide (d ≤ 4) && (decide (k = 0) || (decide (k ≤ 16) && decide (v ≤ 4) && !decide (v = d)))) := by
  have hok : okN d 4 (pk v k) k = (decide (k = 0) || (decide (v ≤ 4) && !decide (v = d))) := by
    by_cases h0 : k = 0
    · subst h0; rfl
    · cases hb : (decide (v ≤ 4) && !decide (v = d)) with
      | true =>
        rw [Bool.or_true, okN, List.all_eq_true]
        intro i hi
        rw [okAt_pk d v k i (by simpa using hi), hb]
      | false =>
        rw [Bool.or_false, decide_eq_false h0, okN, List.all_eq_false]
        exact ⟨0, by simp; omega, by rw [okAt_pk d v k 0 (by omega), hb]; simp⟩
  unfold mayL
  rw [pk_len, hok]
  by_cases h0 : k = 0
  · simp [h0]
  · simp [h0, Bool.and_assoc]

theorem sp_LabelMost (n v f : Int) (hn : isB n) : ACall Try.prog 6 [u8 n, u8 v, u8 f] (bo true) := by
  obtain ⟨nn, rfl⟩ : ∃ nn : Nat, n = (nn : Int) := ⟨n.toNat, by have := hn.1; omega⟩
  have c0 := fun (t : TypeId) (x y : Operand) => abin_rem (P := Try.prog) (t := t) (x := x) (y := y) (k := .u8) (a := (nn : Int)) (b := 24) (by omega)
  have hm : (nn : Int).tmod 24 = ((nn % 24 : Nat) : Int) := rfl
  rw [hm] at c0
  have hk : nn % 24 < 24 := Nat.mod_lt _ (by omega)
  generalize nn % 24 = k at c0 hk
  have c1 : IntKind.i64.wrap (k : Int) = (k : Int) := IntWalk.i64_in _ (by omega)
  refine acall_of Try.func6 rfl rfl (Nat.le_of_ble_eq_true rfl) T_ok (fun base w0 => ?_)
  refine AWp.seq (AWp.regionW T_ok rfl (WL.all (by simp (decide := true) only [EVs, EVt, Array.toList] <;> exact rfl) ?_))
  refine AWp.seq (AWp.seq (AWp.regionW T_ok rfl ?_))
  (repeat (first | refine WL.c rfl rfl rfl (by simp (decide := true) only [EVs, EVt, Array.toList] <;> exact rfl) (by simp (decide := true) only [EVs, EVt, Array.toList, calleeOf] <;> exact rfl) (by simp (decide := true) only [EVs, EVt, Array.toList, argsOf, frz] <;> exact rfl) (by first | exact sp_begun5) rfl ?_ | refine WL.f rfl rfl rfl (by simp (decide := true) only [EVs, EVt, Array.toList] <;> exact rfl) (by simp (decide := true) only [EVs, EVt, Array.toList, calleeOf] <;> exact rfl) (by simp (decide := true) only [EVs, EVt, Array.toList, argsOf, frz] <;> exact rfl) (by first | exact sp_begun5) ?_ | refine WL.one (by simp (decide := true) only [EVs, EVt, Array.toList] <;> exact rfl) ?_)); refine WL.nil ?_
  refine AWp.cond (t := false) rfl (AWp.skip ?_)
  refine AWp.seq (AWp.regionW T_ok rfl (WL.all (by simp (decide := true) only [EVs, EVt, Array.toList, c0, c1] <;> exact rfl) ?_))
  refine AWp.seq (AWp.regionW T_ok rfl (WL.all (by simp (decide := true) only [EVs, EVt, Array.toList] <;> exact rfl) ?_))
  refine AWp.seq (AWp.seq (AWp.regionW T_ok rfl (WL.all (by simp (decide := true) only [EVs, EVt, Array.toList] <;> exact rfl) ?_)))
  refine AWp.block (AWp.loop (fun n st => ∃ (j : Nat) (s : Nat → AV) (B : Nat → Nat × List AV) (L : Nat → Nat) (u : AV), st = ⟨57, 0, s, B, L⟩ ∧ j ≤ k ∧ n = k - j ∧ s 1 = u8 v ∧ s 2 = u8 f ∧ s 7 = i64 k ∧ s 8 = u ∧ s 9 = i64 j ∧ Acc L u 2 ((pk v j).map prA)) ?_ (n := k)
    ⟨0, _, _, _, .list 2 [] .full, rfl, by omega, rfl, rfl, rfl, rfl, rfl, rfl, ⟨_, _, rfl, .inl ⟨rfl, .inl rfl⟩⟩⟩)
  rintro n st ⟨j, s, B, L, u, rfl, hj, rfl, s1, s2, s7, s8, s9, hA⟩
  by_cases hlt : j < k
  · have e1 : ltI (j : Int) (k : Int) = true := ltI_t (by omega)
    have e3 : IntKind.u16.wrap (j : Int) = (j : Int) := IntWalk.u16_in _ (by omega)
    have e7 := wup j (by omega)
    have hpl := pk_len v j
    refine AWp.seq (AWp.seq (AWp.regionW T_ok rfl (WL.all (by simp (decide := true) only [EVs, EVt, Array.toList, s7, s9, e1] <;> exact rfl) ?_)))
    refine AWp.cond (t := true) rfl (AWp.skip ?_)
    refine AWp.seq (AWp.block (AWp.regionW T_ok rfl (WL.next 6 rfl rfl (by simp (decide := true) only [EVs, EVt, Array.toList, s8, s9, s1, e3] <;> exact rfl) ?_)))
    refine WL.acc (e := 29) (xs := (pk v j).map prA) (ys := [prA ⟨(j : Int), v⟩]) (sy := 2) (oy := .full) rfl rfl rfl rfl rfl rfl rfl T_prs rfl T_pr (by simp (decide := true) only [EVs, EVt, Array.toList]; exact hA) (by simp (decide := true) only [EVs, EVt, Array.toList]) (.inl rfl) (by simp; omega) (by decide) (fun v1 L1 hA1 => ?_)
    have hA1' := hA1
    obtain ⟨o1, sx1, rfl, _⟩ := hA1
    refine (WL.all (by simp (decide := true) only [EVs, EVt, Array.toList] <;> exact rfl) ?_)
    refine (AWp.regionW T_ok rfl (WL.all (by simp (decide := true) only [EVs, EVt, Array.toList, s9, e7] <;> exact rfl) ?_))
    refine ⟨k - (j + 1), by omega, j + 1, _, _, _, _, rfl, by omega, rfl, ?_, ?_, ?_, rfl, ?_, ?_⟩
    · simp (decide := true) only [EVs, EVt, Array.toList, s1]
    · simp (decide := true) only [EVs, EVt, Array.toList, s2]
    · simp (decide := true) only [EVs, EVt, Array.toList, s7]
    · simp (decide := true) only [EVs, EVt, Array.toList]
    · rw [pk_succ, List.map_append]; exact hA1'
  · have e1 : ltI (j : Int) (k : Int) = false := ltI_f (by omega)
    have hjk : j = k := by omega
    subst hjk
    obtain ⟨o2, sx, rfl, hacc⟩ := hA
    have hw : sx = 2 ∨ (pk v j).map prA = [] := by
      rcases hacc with ⟨_, h | h⟩ | ⟨_, _, h⟩
      · exact .inr h
      · exact .inl h
      · exact .inl h
    have hM := sp_LMay f (pk v j) (by rw [pk_len]; omega)
    rw [mayL_pk] at hM
    have hM' := ACall.wkl hM (.cons (Wk.agg' (.cons (.refl _) (.cons (.list _ _ _ .no hw) .nil))) .nil)
    refine AWp.seq (AWp.seq (AWp.regionW T_ok rfl (WL.all (by simp (decide := true) only [EVs, EVt, Array.toList, s7, s9, e1] <;> exact rfl) ?_)))
    refine AWp.cond (t := false) rfl (AWp.exit ?_)
    by_cases h1 : 1 ≤ f
    · have d1 : leI 1 f = true := leI_t h1
      by_cases h2 : f ≤ 4
      · have d2 : leI f 4 = true := leI_t h2
        by_cases h3 : j = 0
        · have d3 : eqI (j : Int) 0 = true := eqI_t (by omega)
          rw [show (decide (1 ≤ f) && decide (f ≤ 4) && (decide (j = 0) || (decide (j ≤ 16) && decide (v ≤ 4) && !decide (v = f)))) = true by simp [h1, h2, h3]] at hM'
          refine AWp.seq (AWp.regionW T_ok rfl (WL.all (by simp (decide := true) only [EVs, EVt, Array.toList, s1, s2, s7, d1, d2, d3] <;> exact rfl) ?_))
          refine AWp.seq (AWp.regionW T_ok rfl (WL.next 3 rfl rfl (by simp (decide := true) only [EVs, EVt, Array.toList, s2, s8] <;> exact rfl) ?_))
          refine WL.c rfl rfl rfl rfl (by simp (decide := true) only [EVs, EVt, Array.toList, calleeOf] <;> exact rfl) (by simp (decide := true) only [EVs, EVt, Array.toList, argsOf, frz] <;> exact rfl) (hM') rfl ?_
          refine (WL.all (by simp (decide := true) only [EVs, EVt, Array.toList, beq_self_eq_true] <;> exact rfl) ?_)
          exact AWp.ret ⟨_, rfl, .inl (.refl _)⟩
        · have d3 : eqI (j : Int) 0 = false := eqI_f (by omega)
          by_cases h4 : j ≤ 16
          · have d4 : leI (j : Int) 16 = true := leI_t (by omega)
            by_cases h5 : v ≤ 4
            · have d5 : leI v 4 = true := leI_t h5
              by_cases h6 : v = f
              · have d6 : eqI v f = true := eqI_t h6
                rw [show (decide (1 ≤ f) && decide (f ≤ 4) && (decide (j = 0) || (decide (j ≤ 16) && decide (v ≤ 4) && !decide (v = f)))) = false by simp [h3, h6]] at hM'
                refine AWp.seq (AWp.regionW T_ok rfl (WL.all (by simp (decide := true) only [EVs, EVt, Array.toList, s1, s2, s7, d1, d2, d3, d4, d5, d6] <;> exact rfl) ?_))
                refine AWp.seq (AWp.regionW T_ok rfl (WL.next 3 rfl rfl (by simp (decide := true) only [EVs, EVt, Array.toList, s2, s8] <;> exact rfl) ?_))
                refine WL.c rfl rfl rfl rfl (by simp (decide := true) only [EVs, EVt, Array.toList, calleeOf] <;> exact rfl) (by simp (decide := true) only [EVs, EVt, Array.toList, argsOf, frz] <;> exact rfl) (hM') rfl ?_
                refine (WL.all (by simp (decide := true) only [EVs, EVt, Array.toList, beq_self_eq_true] <;> exact rfl) ?_)
                exact AWp.ret ⟨_, rfl, .inl (.refl _)⟩
              · have d6 : eqI v f = false := eqI_f h6
                rw [show (decide (1 ≤ f) && decide (f ≤ 4) && (decide (j = 0) || (decide (j ≤ 16) && decide (v ≤ 4) && !decide (v = f)))) = true by simp [h1, h2, h3, h4, h5, h6]] at hM'
                refine AWp.seq (AWp.regionW T_ok rfl (WL.all (by simp (decide := true) only [EVs, EVt, Array.toList, s1, s2, s7, d1, d2, d3, d4, d5, d6] <;> exact rfl) ?_))
                refine AWp.seq (AWp.regionW T_ok rfl (WL.next 3 rfl rfl (by simp (decide := true) only [EVs, EVt, Array.toList, s2, s8] <;> exact rfl) ?_))
                refine WL.c rfl rfl rfl rfl (by simp (decide := true) only [EVs, EVt, Array.toList, calleeOf] <;> exact rfl) (by simp (decide := true) only [EVs, EVt, Array.toList, argsOf, frz] <;> exact rfl) (hM') rfl ?_
                refine (WL.all (by simp (decide := true) only [EVs, EVt, Array.toList, beq_self_eq_true] <;> exact rfl) ?_)
                exact AWp.ret ⟨_, rfl, .inl (.refl _)⟩
            · have d5 : leI v 4 = false := leI_f h5
              rw [show (decide (1 ≤ f) && decide (f ≤ 4) && (decide (j = 0) || (decide (j ≤ 16) && decide (v ≤ 4) && !decide (v = f)))) = false by simp [h3, h5]] at hM'
              refine AWp.seq (AWp.regionW T_ok rfl (WL.all (by simp (decide := true) only [EVs, EVt, Array.toList, s1, s2, s7, d1, d2, d3, d4, d5] <;> exact rfl) ?_))
              refine AWp.seq (AWp.regionW T_ok rfl (WL.next 3 rfl rfl (by simp (decide := true) only [EVs, EVt, Array.toList, s2, s8] <;> exact rfl) ?_))
              refine WL.c rfl rfl rfl rfl (by simp (decide := true) only [EVs, EVt, Array.toList, calleeOf] <;> exact rfl) (by simp (decide := true) only [EVs, EVt, Array.toList, argsOf, frz] <;> exact rfl) (hM') rfl ?_
              refine (WL.all (by simp (decide := true) only [EVs, EVt, Array.toList, beq_self_eq_true] <;> exact rfl) ?_)
              exact AWp.ret ⟨_, rfl, .inl (.refl _)⟩
          · have d4 : leI (j : Int) 16 = false := leI_f (by omega)
            rw [show (decide (1 ≤ f) && decide (f ≤ 4) && (decide (j = 0) || (decide (j ≤ 16) && decide (v ≤ 4) && !decide (v = f)))) = false by simp [h3, h4]] at hM'
            refine AWp.seq (AWp.regionW T_ok rfl (WL.all (by simp (decide := true) only [EVs, EVt, Array.toList, s1, s2, s7, d1, d2, d3, d4] <;> exact rfl) ?_))
            refine AWp.seq (AWp.regionW T_ok rfl (WL.next 3 rfl rfl (by simp (decide := true) only [EVs, EVt, Array.toList, s2, s8] <;> exact rfl) ?_))
            refine WL.c rfl rfl rfl rfl (by simp (decide := true) only [EVs, EVt, Array.toList, calleeOf] <;> exact rfl) (by simp (decide := true) only [EVs, EVt, Array.toList, argsOf, frz] <;> exact rfl) (hM') rfl ?_
            refine (WL.all (by simp (decide := true) only [EVs, EVt, Array.toList, beq_self_eq_true] <;> exact rfl) ?_)
            exact AWp.ret ⟨_, rfl, .inl (.refl _)⟩
      · have d2 : leI f 4 = false := leI_f h2
        rw [show (decide (1 ≤ f) && decide (f ≤ 4) && (decide (j = 0) || (decide (j ≤ 16) && decide (v ≤ 4) && !decide (v = f)))) = false by simp [h2]] at hM'
        refine AWp.seq (AWp.regionW T_ok rfl (WL.all (by simp (decide := true) only [EVs, EVt, Array.toList, s1, s2, s7, d1, d2] <;> exact rfl) ?_))
        refine AWp.seq (AWp.regionW T_ok rfl (WL.next 3 rfl rfl (by simp (decide := true) only [EVs, EVt, Array.toList, s2, s8] <;> exact rfl) ?_))
        refine WL.c rfl rfl rfl rfl (by simp (decide := true) only [EVs, EVt, Array.toList, calleeOf] <;> exact rfl) (by simp (decide := true) only [EVs, EVt, Array.toList, argsOf, frz] <;> exact rfl) (hM') rfl ?_
        refine (WL.all (by simp (decide := true) only [EVs, EVt, Array.toList, beq_self_eq_true] <;> exact rfl) ?_)
        exact AWp.ret ⟨_, rfl, .inl (.refl _)⟩
    · have d1 : leI 1 f = false := leI_f h1
      rw [show (decide (1 ≤ f) && decide (f ≤ 4) && (decide (j = 0) || (decide (j ≤ 16) && decide (v ≤ 4) && !decide (v = f)))) = false by simp [h1]] at hM'
      refine AWp.seq (AWp.regionW T_ok rfl (WL.all (by simp (decide := true) only [EVs, EVt, Array.toList, s1, s2, s7, d1] <;> exact rfl) ?_))
      refine AWp.seq (AWp.regionW T_ok rfl (WL.next 3 rfl rfl (by simp (decide := true) only [EVs, EVt, Array.toList, s2, s8] <;> exact rfl) ?_))
      refine WL.c rfl rfl rfl rfl (by simp (decide := true) only [EVs, EVt, Array.toList, calleeOf] <;> exact rfl) (by simp (decide := true) only [EVs, EVt, Array.toList, argsOf, frz] <;> exact rfl) (hM') rfl ?_
      refine (WL.all (by simp (decide := true) only [EVs, EVt, Array.toList, beq_self_eq_true] <;> exact rfl) ?_)
      exact AWp.ret ⟨_, rfl, .inl (.refl _)⟩
end Go.Proofs.Ytkmdeahnkfdhjaa.E
