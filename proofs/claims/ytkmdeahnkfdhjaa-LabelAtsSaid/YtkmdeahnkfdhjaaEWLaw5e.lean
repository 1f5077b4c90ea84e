/-
  The statements of layer 5 that keep two labels (level by level; the lattice), walked in abstract values. Conditions: lengths, bytes.
-/
import Derived.Test.YtkmdeahnkfdhjaaE23
import Derived.Test.YtkmdeahnkfdhjaaEWL5a
import Derived.Test.YtkmdeahnkfdhjaaEM9
namespace Go.Proofs.Ytkmdeahnkfdhjaa.E
open Go Go.RowKit Go.Proofs.YtkmdeahnkfdhjaaW.E
set_option linter.unusedVariables false
set_option linter.unusedSimpArgs false
set_option maxRecDepth 100000
set_option maxHeartbeats 8000000

theorem same_self (d : Int) (l : List Pr) : sameL d l d l = true := by simp [sameL]
theorem wfP_cat {l : List Pr} (h : ∀ p ∈ l, wfP p) : ∀ p ∈ l, 0 ≤ p.c ∧ p.c < 65536 := fun p hp => ⟨(h p hp).1, (h p hp).2.1⟩
theorem lv5 {l : List Pr} {d : Int} (h : ∀ p ∈ l, wfP p) (k : ∀ p ∈ l, p.l ≤ 5 ∧ p.l ≠ d) : ∀ p ∈ l, 0 ≤ p.l ∧ p.l ≤ 5 := fun p hp => ⟨(h p hp).2.2.1, (k p hp).1⟩

theorem rise_ge (x : Int) (h : x ≤ 5) : x ≤ rise x := by unfold rise; split <;> omega
theorem rise_in {x : Int} (h : 0 ≤ x ∧ x ≤ 5) : 0 ≤ rise x ∧ rise x ≤ 5 := by unfold rise; split <;> omega
theorem rise_ne {x : Int} : rise x ≠ 0 := by unfold rise; split <;> omega
theorem rise_rise (x : Int) : rise (rise x) = rise x := by unfold rise; split <;> simp_all
theorem at_le {q : Int} {d : Int} {l : List Pr} (hd : d ≤ q) (h : ∀ p ∈ l, p.l ≤ q) (c : Int) : at_ d l c ≤ q := by
  rcases at_cases d l c with ⟨_, h2⟩ | ⟨p, h1, _, h3⟩
  · omega
  · have := h p h1; omega
theorem bthL_q {h : Int → Int → Int} {q : Int → Prop} {da db : Int} {a b : List Pr} (hq : ∀ x y, q x → q y → q (h x y)) (hda : q da) (hdb : q db) (ha : ∀ p ∈ a, q p.l) (hb : ∀ p ∈ b, q p.l) : ∀ p ∈ bthL h da a db b, q p.l := fun p hp => by
  obtain ⟨t, ht, hp⟩ := List.mem_filterMap.1 hp
  have := mrgL_lv hda hdb ha hb t ht
  split at hp
  · cases hp
  · cases hp; exact hq _ _ this.1 this.2
theorem q_mx (x y : Int) (hx : 0 ≤ x ∧ x ≤ 5) (hy : 0 ≤ y ∧ y ≤ 5) : 0 ≤ mx x y ∧ mx x y ≤ 5 := mx_in hx.1 hx.2 hy.1 hy.2
theorem q_mn (x y : Int) (hx : 0 ≤ x ∧ x ≤ 5) (hy : 0 ≤ y ∧ y ≤ 5) : 0 ≤ mn x y ∧ mn x y ≤ 5 := mn_in hx.1 hx.2 hy.1 hy.2
theorem canon_bth {h : Int → Int → Int} {d e : Int} {l m : List Pr} (hq : ∀ x y, (0 ≤ x ∧ x ≤ 5) → (0 ≤ y ∧ y ≤ 5) → 0 ≤ h x y ∧ h x y ≤ 5) (hd : 0 ≤ d ∧ d ≤ 5) (he : 0 ≤ e ∧ e ≤ 5) (ll : ∀ p ∈ l, 0 ≤ p.l ∧ p.l ≤ 5) (lm : ∀ p ∈ m, 0 ≤ p.l ∧ p.l ≤ 5) (al : ascP l) (am : ascP m) : canon (h d e) (bthL h d l e m) = true :=
  canon_of (hq _ _ hd he).2 (bthL_asc al am) fun p hp => ⟨(bthL_q (q := fun x => 0 ≤ x ∧ x ≤ 5) hq hd he ll lm p hp).2, bthL_lv p hp⟩

theorem sp_LabelAts (d : Int) (l : List Pr) (e : Int) (m : List Pr) (c : Int) (hd : isB d) (hl : l.length ≤ 35184372087808) (hw : ∀ p ∈ l, wfP p) (he : isB e) (hm : m.length ≤ 35184372087808) (hw' : ∀ p ∈ m, wfP p) : ACall Try.prog 10 [lab d l, lab e m, u16 c] (bo true) := by
  refine acall_of Try.func10 rfl rfl (Nat.le_of_ble_eq_true rfl) T_ok (fun base w0 => ?_)
  refine AWp.seq (AWp.regionW T_ok rfl (WL.all (by simp (decide := true) only [EVs, EVt, Array.toList] <;> exact rfl) ?_))
  refine AWp.seq (AWp.seq (AWp.regionW T_ok rfl ?_))
  (repeat (first | refine WL.c rfl rfl rfl (by simp (decide := true) only [EVs, EVt, Array.toList] <;> exact rfl) (by simp (decide := true) only [EVs, EVt, Array.toList, calleeOf] <;> exact rfl) (by simp (decide := true) only [EVs, EVt, Array.toList, argsOf, frz] <;> exact rfl) (by first | exact sp_begun5) rfl ?_ | refine WL.f rfl rfl rfl (by simp (decide := true) only [EVs, EVt, Array.toList] <;> exact rfl) (by simp (decide := true) only [EVs, EVt, Array.toList, calleeOf] <;> exact rfl) (by simp (decide := true) only [EVs, EVt, Array.toList, argsOf, frz] <;> exact rfl) (by first | exact sp_begun5) ?_ | refine WL.one (by simp (decide := true) only [EVs, EVt, Array.toList] <;> exact rfl) ?_)); refine WL.nil ?_
  refine AWp.cond (t := false) rfl (AWp.skip ?_)
  have g1 := sp_Light d l (by omega)
  have g2 := sp_Light e m (by omega)
  cases h1 : lig d l with
  | false =>
    rw [h1] at g1
    refine AWp.seq (AWp.seq (AWp.regionW T_ok rfl ?_))
    (repeat (first | refine WL.c rfl rfl rfl (by simp (decide := true) only [EVs, EVt, Array.toList] <;> exact rfl) (by simp (decide := true) only [EVs, EVt, Array.toList, calleeOf] <;> exact rfl) (by simp (decide := true) only [EVs, EVt, Array.toList, argsOf, frz] <;> exact rfl) (by first | exact g1) rfl ?_ | refine WL.f rfl rfl rfl (by simp (decide := true) only [EVs, EVt, Array.toList] <;> exact rfl) (by simp (decide := true) only [EVs, EVt, Array.toList, calleeOf] <;> exact rfl) (by simp (decide := true) only [EVs, EVt, Array.toList, argsOf, frz] <;> exact rfl) (by first | exact g1) ?_ | refine WL.one (by simp (decide := true) only [EVs, EVt, Array.toList] <;> exact rfl) ?_)); refine WL.nil ?_
    refine AWp.cond (t := true) rfl (AWp.seq (AWp.regionW T_ok rfl (WL.all (by simp (decide := true) only [EVs, EVt, Array.toList] <;> exact rfl) ?_)))
    exact AWp.ret ⟨_, rfl, .inl (.refl _)⟩
  | true =>
    rw [h1] at g1
    cases h2 : lig e m with
    | false =>
      rw [h2] at g2
      refine AWp.seq (AWp.seq (AWp.regionW T_ok rfl ?_))
      (repeat (first | refine WL.c rfl rfl rfl (by simp (decide := true) only [EVs, EVt, Array.toList] <;> exact rfl) (by simp (decide := true) only [EVs, EVt, Array.toList, calleeOf] <;> exact rfl) (by simp (decide := true) only [EVs, EVt, Array.toList, argsOf, frz] <;> exact rfl) (by first | exact g1 | exact g2) rfl ?_ | refine WL.f rfl rfl rfl (by simp (decide := true) only [EVs, EVt, Array.toList] <;> exact rfl) (by simp (decide := true) only [EVs, EVt, Array.toList, calleeOf] <;> exact rfl) (by simp (decide := true) only [EVs, EVt, Array.toList, argsOf, frz] <;> exact rfl) (by first | exact g1 | exact g2) ?_ | refine WL.one (by simp (decide := true) only [EVs, EVt, Array.toList] <;> exact rfl) ?_)); refine WL.nil ?_
      refine AWp.cond (t := true) rfl (AWp.seq (AWp.regionW T_ok rfl (WL.all (by simp (decide := true) only [EVs, EVt, Array.toList] <;> exact rfl) ?_)))
      exact AWp.ret ⟨_, rfl, .inl (.refl _)⟩
    | true =>
      rw [h2] at g2
      refine AWp.seq (AWp.seq (AWp.regionW T_ok rfl ?_))
      (repeat (first | refine WL.c rfl rfl rfl (by simp (decide := true) only [EVs, EVt, Array.toList] <;> exact rfl) (by simp (decide := true) only [EVs, EVt, Array.toList, calleeOf] <;> exact rfl) (by simp (decide := true) only [EVs, EVt, Array.toList, argsOf, frz] <;> exact rfl) (by first | exact g1 | exact g2) rfl ?_ | refine WL.f rfl rfl rfl (by simp (decide := true) only [EVs, EVt, Array.toList] <;> exact rfl) (by simp (decide := true) only [EVs, EVt, Array.toList, calleeOf] <;> exact rfl) (by simp (decide := true) only [EVs, EVt, Array.toList, argsOf, frz] <;> exact rfl) (by first | exact g1 | exact g2) ?_ | refine WL.one (by simp (decide := true) only [EVs, EVt, Array.toList] <;> exact rfl) ?_)); refine WL.nil ?_
      refine AWp.cond (t := false) rfl (AWp.skip ?_)
      obtain ⟨l24, d5, al, ll⟩ := lig_spec h1
      obtain ⟨m24, e5, am, lm⟩ := lig_spec h2
      have ll' := lv5 hw ll
      have lm' := lv5 hw' lm
      have t1 := sp_LAt d l c (by omega)
      have t2 := sp_LAt e m c (by omega)
      have t3 := sp_LJoin d l e m (by omega) (by omega) ⟨hd.1, d5⟩ ⟨he.1, e5⟩ ll' lm'
      have t4 := sp_LMeet d l e m (by omega) (by omega) ⟨hd.1, d5⟩ ⟨he.1, e5⟩ ll' lm'
      have jl := bthL_len (h := mx) (da := d) (db := e) (a := l) (b := m)
      have nl := bthL_len (h := mn) (da := d) (db := e) (a := l) (b := m)
      have t5 := sp_LAt (mx d e) (bthL mx d l e m) c (by omega)
      rw [bthL_at al am] at t5
      have t6 := sp_LAt (mn d e) (bthL mn d l e m) c (by omega)
      rw [bthL_at al am] at t6
      have t7 := sp_LFlows d l e m (by omega) (by omega) hd.1 he.1 (fun p hp => (ll' p hp).1) (fun p hp => (lm' p hp).1)
      have t8 := sp_LRise d l (by omega)
      have rl : (risL d l).length ≤ l.length + l.length := bthL_len
      have t9 := sp_LAt (rise d) (risL d l) c (by omega)
      rw [risL_at al] at t9
      have t10 := sp_RRise (at_ d l c)
      have t11 := sp_Canon (mx d e) (bthL mx d l e m) (by omega)
      rw [canon_bth q_mx ⟨hd.1, d5⟩ ⟨he.1, e5⟩ ll' lm' al am] at t11
      have t12 := sp_Canon (mn d e) (bthL mn d l e m) (by omega)
      rw [canon_bth q_mn ⟨hd.1, d5⟩ ⟨he.1, e5⟩ ll' lm' al am] at t12
      refine AWp.seq (AWp.drawnW T_ok mixed (by kernel_rfl) rfl ?_)
      (repeat (first | refine WL.c rfl rfl rfl (by simp (decide := true) only [EVs, EVt, Array.toList] <;> exact rfl) (by simp (decide := true) only [EVs, EVt, Array.toList, calleeOf] <;> exact rfl) (by simp (decide := true) only [EVs, EVt, Array.toList, argsOf, frz] <;> exact rfl) (by first | exact t1 | exact t2) rfl ?_ | refine WL.f rfl rfl rfl (by simp (decide := true) only [EVs, EVt, Array.toList] <;> exact rfl) (by simp (decide := true) only [EVs, EVt, Array.toList, calleeOf] <;> exact rfl) (by simp (decide := true) only [EVs, EVt, Array.toList, argsOf, frz] <;> exact rfl) (by first | exact t1 | exact t2) ?_ | refine WL.one (by simp (decide := true) only [EVs, EVt, Array.toList] <;> exact rfl) ?_)); refine WL.nil ?_
      refine AWp.seq ?_
      refine AWp.drawnJ [some 3, some 4, some 100, some 3, some 4, some 101, some 9, some 10, some 9, some 10] T_ok mixed (by kernel_rfl) rfl rfl ?_
      (repeat (first | refine WJ.c rfl rfl rfl (by simp (decide := true) only [EVs, EVt, Array.toList] <;> exact rfl) (by simp (decide := true) only [EVs, EVt, Array.toList, calleeOf] <;> exact rfl) (by simp (decide := true) only [EVs, EVt, Array.toList, argsOf, frz] <;> exact rfl) (by first | exact t3 | exact t4) rfl (by first | exact keyB_none _ _ _ | (simp (decide := true) only [EVs, EVt, Array.toList, keyB, keyFits, dry, beq_self_eq_true, Bool.and_true, Bool.true_and] <;> rfl)) ?_ | refine WJ.one (by simp (decide := true) only [EVs, EVt, Array.toList, stepL] <;> exact rfl) (by first | exact keyB_none _ _ _ | (simp (decide := true) only [EVs, EVt, Array.toList, keyB, keyFits, dry, beq_self_eq_true, Bool.and_true, Bool.true_and] <;> rfl)) ?_)); refine WJ.nil ?_
      cases hf : flw d l e m with
      | true =>
        rw [hf] at t7
        have c1 : leI (at_ d l c) (at_ e m c) = true := leI_t ((flw_iff al am).1 hf c)
        refine AWp.seq (AWp.regionW T_ok rfl ?_)
        simp only [List.append_eq, List.cons_append, List.nil_append]
        (repeat (first | refine WL.c rfl rfl rfl (by simp (decide := true) only [EVs, EVt, Array.toList, eqI_self, mapM_2, ab_imax, ab_imin, c1] <;> exact rfl) (by simp (decide := true) only [EVs, EVt, Array.toList, calleeOf, eqI_self, mapM_2, ab_imax, ab_imin, c1] <;> exact rfl) (by simp (decide := true) only [EVs, EVt, Array.toList, argsOf, frz, eqI_self, mapM_2, ab_imax, ab_imin, c1] <;> exact rfl) (by first | exact t5 | exact t6 | exact t7 | exact t8 | exact t9 | exact t10 | exact t11 | exact t12) rfl ?_ | refine WL.f rfl rfl rfl (by simp (decide := true) only [EVs, EVt, Array.toList, eqI_self, mapM_2, ab_imax, ab_imin, c1] <;> exact rfl) (by simp (decide := true) only [EVs, EVt, Array.toList, calleeOf, eqI_self, mapM_2, ab_imax, ab_imin, c1] <;> exact rfl) (by simp (decide := true) only [EVs, EVt, Array.toList, argsOf, frz, eqI_self, mapM_2, ab_imax, ab_imin, c1] <;> exact rfl) (by first | exact t5 | exact t6 | exact t7 | exact t8 | exact t9 | exact t10 | exact t11 | exact t12) ?_ | refine WL.one (by simp (decide := true) only [EVs, EVt, Array.toList, eqI_self, mapM_2, ab_imax, ab_imin, c1] <;> exact rfl) ?_)); refine WL.nil ?_
        exact AWp.ret ⟨_, rfl, .inl (.refl _)⟩
      | false =>
        rw [hf] at t7
        refine AWp.seq (AWp.regionW T_ok rfl ?_)
        simp only [List.append_eq, List.cons_append, List.nil_append]
        (repeat (first | refine WL.c rfl rfl rfl (by simp (decide := true) only [EVs, EVt, Array.toList, eqI_self, mapM_2, ab_imax, ab_imin] <;> exact rfl) (by simp (decide := true) only [EVs, EVt, Array.toList, calleeOf, eqI_self, mapM_2, ab_imax, ab_imin] <;> exact rfl) (by simp (decide := true) only [EVs, EVt, Array.toList, argsOf, frz, eqI_self, mapM_2, ab_imax, ab_imin] <;> exact rfl) (by first | exact t5 | exact t6 | exact t7 | exact t8 | exact t9 | exact t10 | exact t11 | exact t12) rfl ?_ | refine WL.f rfl rfl rfl (by simp (decide := true) only [EVs, EVt, Array.toList, eqI_self, mapM_2, ab_imax, ab_imin] <;> exact rfl) (by simp (decide := true) only [EVs, EVt, Array.toList, calleeOf, eqI_self, mapM_2, ab_imax, ab_imin] <;> exact rfl) (by simp (decide := true) only [EVs, EVt, Array.toList, argsOf, frz, eqI_self, mapM_2, ab_imax, ab_imin] <;> exact rfl) (by first | exact t5 | exact t6 | exact t7 | exact t8 | exact t9 | exact t10 | exact t11 | exact t12) ?_ | refine WL.one (by simp (decide := true) only [EVs, EVt, Array.toList, eqI_self, mapM_2, ab_imax, ab_imin] <;> exact rfl) ?_)); refine WL.nil ?_
        exact AWp.ret ⟨_, rfl, .inl (.refl _)⟩

end Go.Proofs.Ytkmdeahnkfdhjaa.E
