/-
  Splitting labels, in package trans and by the document, and putting sets back by the document, walked in abstract values. Conditions: lengths, levels are 0 to 5.
-/
import Derived.Test.YtfgndnackofenaaE24
import Derived.Test.YtfgndnackofenaaEM14
import Derived.Test.YtfgndnackofenaaEWLev
import Derived.Test.YtfgndnackofenaaEWRMay1
import Derived.Test.YtfgndnackofenaaEWMay2
namespace Go.Proofs.Ytfgndnackofenaa.E
open Go Go.RowKit Go.Proofs.YtfgndnackofenaaW.E
set_option linter.unusedVariables false
set_option linter.unusedSimpArgs false
set_option maxRecDepth 100000
set_option maxHeartbeats 4000000

theorem at1_take (l : List Int) (v : Int) (j : Nat) (h : j < l.length) : at1 (l.take (j + 1)) v = at1 (l.take j) v ++ [⟨l[j], v⟩] := by
  unfold at1; rw [take_snoc l j h, List.map_append]; rfl

theorem re1 {v : Int} (h0 : 0 ≤ v) (h5 : v ≤ 5) : feq (pRe v) 4607182418800017408 = decide (v = 4) := by
  rcases lev6 h0 h5 with rfl | rfl | rfl | rfl | rfl | rfl <;> decide +kernel
theorem im1 {v : Int} (h0 : 0 ≤ v) (h5 : v ≤ 5) : feq (pIm v) 4607182418800017408 = decide (v = 1) := by
  rcases lev6 h0 h5 with rfl | rfl | rfl | rfl | rfl | rfl <;> decide +kernel
theorem accw {L : Nat → Nat} {k sx : Nat} {o : Own} {xs ys : List AV} (h : AccK L k (.list sx xs o) 1 ys) : ys = xs ∧ (sx = 1 ∨ xs = []) := by
  obtain ⟨o', sx', e, h⟩ := h
  cases e
  rcases h with ⟨_, h | h⟩ | ⟨_, h⟩
  · exact ⟨rfl, .inr h⟩
  · exact ⟨rfl, .inl h⟩
  · exact ⟨rfl, .inl h⟩

theorem sp_TSplit (d : Int) (l : List Pr) (hl : l.length ≤ 100000) (h05 : ∀ p ∈ l, 0 ≤ p.l ∧ p.l ≤ 5) : ACall Try.prog 73 [lab d l] (.tup [sts (spl d l 4) (spl d l 1) (spl d l 0), i64 (splE d l)]) := by
  refine acall_of Try.func73 rfl rfl (Nat.le_of_ble_eq_true rfl) T_ok (fun base w0 => ?_)
  refine AWp.seq (AWp.regionW T_ok rfl (WL.all (by simp (decide := true) only [EVs, EVt, Array.toList] <;> exact rfl) ?_))
  refine AWp.seq (AWp.regionW T_ok rfl (WL.all (by simp (decide := true) only [EVs, EVt, Array.toList] <;> exact rfl) ?_))
  by_cases hd : d = 2
  rotate_left
  · have c1 : eqI d 2 = false := eqI_f hd
    have hk : okS d l = false := by simp [okS, hd]
    refine AWp.seq (AWp.seq (AWp.regionW T_ok rfl (WL.all (by simp (decide := true) only [EVs, EVt, Array.toList, c1] <;> exact rfl) ?_)))
    refine AWp.cond (t := true) rfl (AWp.seq (AWp.regionW T_ok rfl (WL.all (by simp (decide := true) only [EVs, EVt, Array.toList] <;> exact rfl) ?_)))
    refine AWp.ret ⟨_, rfl, .inl ?_⟩
    simp only [spl, splE, hk, Bool.false_eq_true, if_false]
    exact .tup' (.cons (wkN [] [] [] _ _ _ _ _ _ (.inr rfl) (.inr rfl) (.inr rfl)) (.cons (.refl _) .nil))
  subst hd
  refine AWp.seq (AWp.seq (AWp.regionW T_ok rfl (WL.all (by simp (decide := true) only [EVs, EVt, Array.toList, eqI_self] <;> exact rfl) ?_)))
  refine AWp.cond (t := false) rfl (AWp.skip ?_)
  refine AWp.seq (AWp.seq (AWp.regionW T_ok rfl (WL.all (by simp (decide := true) only [EVs, EVt, Array.toList] <;> exact rfl) ?_)))
  refine AWp.block (AWp.loop (fun n st => ∃ (j : Nat) (s : Nat → AV) (B : Nat → Nat × List AV) (L : Nat → Nat) (u v w : AV), st = ⟨58, 0, s, B, L⟩ ∧ n = l.length - j ∧ j ≤ l.length ∧ s 2 = .ptr 2 1 0 ∧ s 4 = .ptr 4 1 0 ∧ B 2 = (1, [.list 1 [] .full, .list 1 [] .full, .list 1 [] .full]) ∧ B 4 = (1, [u, v, w]) ∧
    s 13 = lps l ∧ s 14 = i64 l.length ∧ s 15 = i64 j ∧ AccK L 43 u 1 ((lvs (l.take j) 4).map u16) ∧ AccK L 54 v 1 ((lvs (l.take j) 1).map u16) ∧ AccK L 32 w 1 ((lvs (l.take j) 0).map u16) ∧ ∀ p ∈ l.take j, p.l = 0 ∨ p.l = 1 ∨ p.l = 4) ?_ (n := l.length)
    ⟨0, _, _, _, _, _, _, rfl, rfl, Nat.zero_le _, rfl, rfl, rfl, rfl, rfl, rfl, rfl, AccK.nil _ _ _ _, AccK.nil _ _ _ _, AccK.nil _ _ _ _, by simp⟩)
  rintro n st ⟨j, s, B, L, u, v, w, rfl, rfl, hj, s2, s4, B2, B4, s13, s14, s15, hu, hv, hw, hgood⟩
  by_cases hlt : j < l.length
  · have e1 : ltI (j : Int) (l.length : Int) = true := ltI_t (by omega)
    have e2 := get_mapi prA l j hlt
    have e7 := wup j (by omega)
    have q4 := lvs_snoc (l.take j) l[j] 4
    have q1 := lvs_snoc (l.take j) l[j] 1
    have q0 := lvs_snoc (l.take j) l[j] 0
    rw [← take_snoc l j hlt] at q4 q1 q0
    have n4 := lvs_len (l.take j) 4
    have n1 := lvs_len (l.take j) 1
    have n0 := lvs_len (l.take j) 0
    rw [List.length_take] at n4 n1 n0
    obtain ⟨p0, p5⟩ := h05 _ (List.getElem_mem hlt)
    have g4 := re1 p0 p5
    have g1 := im1 p0 p5
    have hgs : l[j].l = 0 ∨ l[j].l = 1 ∨ l[j].l = 4 → ∀ p ∈ l.take (j + 1), p.l = 0 ∨ p.l = 1 ∨ p.l = 4 := fun h p hp => by
      rw [take_snoc l j hlt] at hp
      rcases List.mem_append.1 hp with hp | hp
      · exact hgood p hp
      · rw [List.mem_singleton.1 hp]; exact h
    refine AWp.seq (AWp.regionW T_ok rfl (WL.all (by simp (decide := true) only [EVs, EVt, Array.toList, s14, s15, e1] <;> exact rfl) ?_))
    refine AWp.seq (AWp.cond (t := true) rfl (AWp.skip ?_))
    refine AWp.seq (AWp.block (AWp.seq (AWp.regionW T_ok rfl (WL.all (by simp (decide := true) only [EVs, EVt, Array.toList, s13, s15, e2] <;> exact rfl) ?_))))
    refine AWp.seq (AWp.regionW T_ok rfl ?_)
    (repeat (first | refine WL.c rfl rfl rfl (by simp (decide := true) only [EVs, EVt, Array.toList] <;> exact rfl) (by simp (decide := true) only [EVs, EVt, Array.toList, calleeOf] <;> exact rfl) (by simp (decide := true) only [EVs, EVt, Array.toList, argsOf, frz] <;> exact rfl) (by first | exact sp_Point l[j].l p0 p5) rfl ?_ | refine WL.f rfl rfl rfl (by simp (decide := true) only [EVs, EVt, Array.toList] <;> exact rfl) (by simp (decide := true) only [EVs, EVt, Array.toList, calleeOf] <;> exact rfl) (by simp (decide := true) only [EVs, EVt, Array.toList, argsOf, frz] <;> exact rfl) (by first | exact sp_Point l[j].l p0 p5) ?_ | refine WL.one (by simp (decide := true) only [EVs, EVt, Array.toList] <;> exact rfl) ?_)); refine WL.nil ?_
    by_cases z0 : l[j].l = 0
    · have c1 : eqI l[j].l 0 = true := eqI_t z0
      rw [z0] at q4 q1 q0
      obtain ⟨ow, sw, rfl, _⟩ := id hw
      refine AWp.block (AWp.seq (AWp.regionW T_ok rfl (WL.all (by simp (decide := true) only [EVs, EVt, Array.toList, c1] <;> exact rfl) ?_)))
      refine AWp.cond (t := true) rfl (AWp.regionW T_ok rfl (WL.next 5 rfl rfl (by simp (decide := true) only [EVs, EVt, Array.toList, s4, B4] <;> exact rfl) ?_))
      refine WL.accK (e := 33) (xs := (lvs (l.take j) 0).map u16) (ys := [u16 l[j].c]) (sy := 1) (oy := .full) rfl rfl rfl rfl rfl rfl rfl T_u16s rfl T_u16 (by simp (decide := true) only [EVs, EVt, Array.toList]; exact hw) (by simp (decide := true) only [EVs, EVt, Array.toList]) (.inl rfl) (by simp; omega) (by decide) (fun o1 L1 hA1 hL1 => ?_)
      refine (WL.all (by simp (decide := true) only [EVs, EVt, Array.toList, s4, B4] <;> exact rfl) ?_)
      refine (AWp.regionW T_ok rfl (WL.all (by simp (decide := true) only [EVs, EVt, Array.toList, s15, e7] <;> exact rfl) ?_))
      refine ⟨l.length - (j + 1), by omega, j + 1, _, _, _, u, v, .list 1 ((lvs (l.take j) 0).map u16 ++ [u16 l[j].c]) o1, rfl, rfl, by omega, ?_, ?_, ?_, ?_, ?_, ?_, ?_, ?_, ?_, ?_, hgs (.inl z0)⟩
      · simp (decide := true) only [EVs, EVt, Array.toList, s2]
      · simp (decide := true) only [EVs, EVt, Array.toList, s4]
      · simp (decide := true) only [EVs, EVt, Array.toList, B2]
      · simp (decide := true) only [EVs, EVt, Array.toList] <;> rfl
      · simp (decide := true) only [EVs, EVt, Array.toList, s13]
      · simp (decide := true) only [EVs, EVt, Array.toList, s14]
      · simp (decide := true) only [EVs, EVt, Array.toList]
      · rw [q4]; simp only [show ¬ (0 : Int) = 4 by omega, if_false, List.append_nil]; exact hu.to (hL1 _ (by omega))
      · rw [q1]; simp only [show ¬ (0 : Int) = 1 by omega, if_false, List.append_nil]; exact hv.to (hL1 _ (by omega))
      · rw [q0]; simp only [if_true, List.map_append]; exact hA1
    have c1 : eqI l[j].l 0 = false := eqI_f z0
    by_cases z4 : l[j].l = 4
    · have c2 : feq (pRe l[j].l) 4607182418800017408 = true := by rw [g4]; exact decide_eq_true z4
      rw [z4] at q4 q1 q0
      obtain ⟨ou, su, rfl, _⟩ := id hu
      refine AWp.block (AWp.seq (AWp.regionW T_ok rfl (WL.all (by simp (decide := true) only [EVs, EVt, Array.toList, c1] <;> exact rfl) ?_)))
      refine AWp.cond (t := false) rfl (AWp.seq (AWp.regionW T_ok rfl (WL.all (by simp (decide := true) only [EVs, EVt, Array.toList, mapM_1, ab_real, abin_feq, c2] <;> exact rfl) ?_)))
      refine AWp.cond (t := true) rfl (AWp.regionW T_ok rfl (WL.next 5 rfl rfl (by simp (decide := true) only [EVs, EVt, Array.toList, s4, B4] <;> exact rfl) ?_))
      refine WL.accK (e := 33) (xs := (lvs (l.take j) 4).map u16) (ys := [u16 l[j].c]) (sy := 1) (oy := .full) rfl rfl rfl rfl rfl rfl rfl T_u16s rfl T_u16 (by simp (decide := true) only [EVs, EVt, Array.toList]; exact hu) (by simp (decide := true) only [EVs, EVt, Array.toList]) (.inl rfl) (by simp; omega) (by decide) (fun o1 L1 hA1 hL1 => ?_)
      refine (WL.all (by simp (decide := true) only [EVs, EVt, Array.toList, s4, B4] <;> exact rfl) ?_)
      refine (AWp.regionW T_ok rfl (WL.all (by simp (decide := true) only [EVs, EVt, Array.toList, s15, e7] <;> exact rfl) ?_))
      refine ⟨l.length - (j + 1), by omega, j + 1, _, _, _, .list 1 ((lvs (l.take j) 4).map u16 ++ [u16 l[j].c]) o1, v, w, rfl, rfl, by omega, ?_, ?_, ?_, ?_, ?_, ?_, ?_, ?_, ?_, ?_, hgs (.inr (.inr z4))⟩
      · simp (decide := true) only [EVs, EVt, Array.toList, s2]
      · simp (decide := true) only [EVs, EVt, Array.toList, s4]
      · simp (decide := true) only [EVs, EVt, Array.toList, B2]
      · simp (decide := true) only [EVs, EVt, Array.toList] <;> rfl
      · simp (decide := true) only [EVs, EVt, Array.toList, s13]
      · simp (decide := true) only [EVs, EVt, Array.toList, s14]
      · simp (decide := true) only [EVs, EVt, Array.toList]
      · rw [q4]; simp only [if_true, List.map_append]; exact hA1
      · rw [q1]; simp only [show ¬ (4 : Int) = 1 by omega, if_false, List.append_nil]; exact hv.to (hL1 _ (by omega))
      · rw [q0]; simp only [show ¬ (4 : Int) = 0 by omega, if_false, List.append_nil]; exact hw.to (hL1 _ (by omega))
    have c2 : feq (pRe l[j].l) 4607182418800017408 = false := by rw [g4]; exact decide_eq_false z4
    by_cases z1 : l[j].l = 1
    · have c3 : feq (pIm l[j].l) 4607182418800017408 = true := by rw [g1]; exact decide_eq_true z1
      rw [z1] at q4 q1 q0
      obtain ⟨ov, sv, rfl, _⟩ := id hv
      refine AWp.block (AWp.seq (AWp.regionW T_ok rfl (WL.all (by simp (decide := true) only [EVs, EVt, Array.toList, c1] <;> exact rfl) ?_)))
      refine AWp.cond (t := false) rfl (AWp.seq (AWp.regionW T_ok rfl (WL.all (by simp (decide := true) only [EVs, EVt, Array.toList, mapM_1, ab_real, abin_feq, c2] <;> exact rfl) ?_)))
      refine AWp.cond (t := false) rfl (AWp.seq (AWp.regionW T_ok rfl (WL.all (by simp (decide := true) only [EVs, EVt, Array.toList, mapM_1, ab_imag, abin_feq, c3] <;> exact rfl) ?_)))
      refine AWp.cond (t := true) rfl (AWp.regionW T_ok rfl (WL.next 5 rfl rfl (by simp (decide := true) only [EVs, EVt, Array.toList, s4, B4] <;> exact rfl) ?_))
      refine WL.accK (e := 33) (xs := (lvs (l.take j) 1).map u16) (ys := [u16 l[j].c]) (sy := 1) (oy := .full) rfl rfl rfl rfl rfl rfl rfl T_u16s rfl T_u16 (by simp (decide := true) only [EVs, EVt, Array.toList]; exact hv) (by simp (decide := true) only [EVs, EVt, Array.toList]) (.inl rfl) (by simp; omega) (by decide) (fun o1 L1 hA1 hL1 => ?_)
      refine (WL.all (by simp (decide := true) only [EVs, EVt, Array.toList, s4, B4] <;> exact rfl) ?_)
      refine (AWp.regionW T_ok rfl (WL.all (by simp (decide := true) only [EVs, EVt, Array.toList, s15, e7] <;> exact rfl) ?_))
      refine ⟨l.length - (j + 1), by omega, j + 1, _, _, _, u, .list 1 ((lvs (l.take j) 1).map u16 ++ [u16 l[j].c]) o1, w, rfl, rfl, by omega, ?_, ?_, ?_, ?_, ?_, ?_, ?_, ?_, ?_, ?_, hgs (.inr (.inl z1))⟩
      · simp (decide := true) only [EVs, EVt, Array.toList, s2]
      · simp (decide := true) only [EVs, EVt, Array.toList, s4]
      · simp (decide := true) only [EVs, EVt, Array.toList, B2]
      · simp (decide := true) only [EVs, EVt, Array.toList] <;> rfl
      · simp (decide := true) only [EVs, EVt, Array.toList, s13]
      · simp (decide := true) only [EVs, EVt, Array.toList, s14]
      · simp (decide := true) only [EVs, EVt, Array.toList]
      · rw [q4]; simp only [show ¬ (1 : Int) = 4 by omega, if_false, List.append_nil]; exact hu.to (hL1 _ (by omega))
      · rw [q1]; simp only [if_true, List.map_append]; exact hA1
      · rw [q0]; simp only [show ¬ (1 : Int) = 0 by omega, if_false, List.append_nil]; exact hw.to (hL1 _ (by omega))
    have c3 : feq (pIm l[j].l) 4607182418800017408 = false := by rw [g1]; exact decide_eq_false z1
    have hk : okS 2 l = false := by
      rw [← Bool.not_eq_true, okS_iff]
      rintro ⟨_, h⟩
      have := h _ (List.getElem_mem hlt)
      omega
    refine AWp.block (AWp.seq (AWp.regionW T_ok rfl (WL.all (by simp (decide := true) only [EVs, EVt, Array.toList, c1] <;> exact rfl) ?_)))
    refine AWp.cond (t := false) rfl (AWp.seq (AWp.regionW T_ok rfl (WL.all (by simp (decide := true) only [EVs, EVt, Array.toList, mapM_1, ab_real, abin_feq, c2] <;> exact rfl) ?_)))
    refine AWp.cond (t := false) rfl (AWp.seq (AWp.regionW T_ok rfl (WL.all (by simp (decide := true) only [EVs, EVt, Array.toList, mapM_1, ab_imag, abin_feq, c3] <;> exact rfl) ?_)))
    refine AWp.cond (t := false) rfl (AWp.seq (AWp.regionW T_ok rfl (WL.all (by simp (decide := true) only [EVs, EVt, Array.toList, s2, B2] <;> exact rfl) ?_)))
    refine AWp.ret ⟨_, by show (List.mapM (ares1 T _) [.cell 2 24, .tmp 3]).map (fun vs => AV.tup (vs.map AV.data)) = some _; simp (decide := true) only [EVs, EVt, Array.toList, ares1, mapM_2, s2, B2]; exact rfl, .inl ?_⟩
    simp only [spl, splE, hk, Bool.false_eq_true, if_false]
    exact .tup' (.cons (wkN [] [] [] _ _ _ _ _ _ (.inr rfl) (.inr rfl) (.inr rfl)) (.cons (.refl _) .nil))
  · obtain rfl : j = l.length := by omega
    rw [List.take_length] at hu hv hw hgood
    have e1 : ltI (l.length : Int) (l.length : Int) = false := ltI_f (by omega)
    have hk : okS 2 l = true := okS_iff.2 ⟨rfl, hgood⟩
    obtain ⟨ou, su, rfl, _⟩ := id hu
    obtain ⟨ov, sv, rfl, _⟩ := id hv
    obtain ⟨ow, sw, rfl, _⟩ := id hw
    refine AWp.seq (AWp.regionW T_ok rfl (WL.all (by simp (decide := true) only [EVs, EVt, Array.toList, s14, s15, e1] <;> exact rfl) ?_))
    refine AWp.seq (AWp.cond (t := false) rfl (AWp.exit ?_))
    refine AWp.seq (AWp.regionW T_ok rfl (WL.all (by simp (decide := true) only [EVs, EVt, Array.toList, s2, s4, B2, B4] <;> exact rfl) ?_))
    refine AWp.ret ⟨_, by show (List.mapM (ares1 T _) [.cell 2 24, .tmp 3]).map (fun vs => AV.tup (vs.map AV.data)) = some _; simp (decide := true) only [EVs, EVt, Array.toList, ares1, mapM_2, s2, B2]; exact rfl, .inl ?_⟩
    simp only [spl, splE, hk, if_true]
    exact .tup' (.cons (wkN _ _ _ _ _ _ _ _ _ (accw hu).2 (accw hv).2 (accw hw).2) (.cons (.refl _) .nil))

theorem sp_R8Split (d : Int) (l : List Pr) (hl : l.length ≤ 100000) (hn : nam d l = okS d l) : ACall Try.prog 76 [lab d l] (.tup [sts (spl d l 4) (spl d l 1) (spl d l 0), i64 (splE d l)]) := by
  have hN := sp_RNames d l (by omega)
  rw [hn] at hN
  have f1 := sp_RLevels d l 4 (by omega)
  have f2 := sp_RLevels d l 1 (by omega)
  have f3 := sp_RLevels d l 0 (by omega)
  refine acall_of Try.func76 rfl rfl (Nat.le_of_ble_eq_true rfl) T_ok (fun base w0 => ?_)
  refine AWp.seq (AWp.regionW T_ok rfl (WL.all (by simp (decide := true) only [EVs, EVt, Array.toList] <;> exact rfl) ?_))
  cases hk : okS d l with
  | false =>
    rw [hk] at hN
    refine AWp.seq (AWp.seq (AWp.regionW T_ok rfl ?_))
    (repeat (first | refine WL.c rfl rfl rfl (by simp (decide := true) only [EVs, EVt, Array.toList] <;> exact rfl) (by simp (decide := true) only [EVs, EVt, Array.toList, calleeOf] <;> exact rfl) (by simp (decide := true) only [EVs, EVt, Array.toList, argsOf, frz] <;> exact rfl) (by first | exact hN) rfl ?_ | refine WL.f rfl rfl rfl (by simp (decide := true) only [EVs, EVt, Array.toList] <;> exact rfl) (by simp (decide := true) only [EVs, EVt, Array.toList, calleeOf] <;> exact rfl) (by simp (decide := true) only [EVs, EVt, Array.toList, argsOf, frz] <;> exact rfl) (by first | exact hN) ?_ | refine WL.one (by simp (decide := true) only [EVs, EVt, Array.toList] <;> exact rfl) ?_)); refine WL.nil ?_
    refine AWp.cond (t := true) rfl (AWp.seq (AWp.regionW T_ok rfl (WL.all (by simp (decide := true) only [EVs, EVt, Array.toList] <;> exact rfl) ?_)))
    refine AWp.ret ⟨_, rfl, .inl ?_⟩
    simp only [spl, splE, hk, Bool.false_eq_true, if_false]
    exact .tup' (.cons (wkN [] [] [] _ _ _ _ _ _ (.inr rfl) (.inr rfl) (.inr rfl)) (.cons (.refl _) .nil))
  | true =>
    rw [hk] at hN
    refine AWp.seq (AWp.seq (AWp.regionW T_ok rfl ?_))
    (repeat (first | refine WL.c rfl rfl rfl (by simp (decide := true) only [EVs, EVt, Array.toList] <;> exact rfl) (by simp (decide := true) only [EVs, EVt, Array.toList, calleeOf] <;> exact rfl) (by simp (decide := true) only [EVs, EVt, Array.toList, argsOf, frz] <;> exact rfl) (by first | exact hN) rfl ?_ | refine WL.f rfl rfl rfl (by simp (decide := true) only [EVs, EVt, Array.toList] <;> exact rfl) (by simp (decide := true) only [EVs, EVt, Array.toList, calleeOf] <;> exact rfl) (by simp (decide := true) only [EVs, EVt, Array.toList, argsOf, frz] <;> exact rfl) (by first | exact hN) ?_ | refine WL.one (by simp (decide := true) only [EVs, EVt, Array.toList] <;> exact rfl) ?_)); refine WL.nil ?_
    refine AWp.cond (t := false) rfl (AWp.skip ?_)
    refine AWp.seq (AWp.drawnW T_ok mixed (by kernel_rfl) rfl ?_)
    (repeat (first | refine WL.c rfl rfl rfl (by simp (decide := true) only [EVs, EVt, Array.toList] <;> exact rfl) (by simp (decide := true) only [EVs, EVt, Array.toList, calleeOf] <;> exact rfl) (by simp (decide := true) only [EVs, EVt, Array.toList, argsOf, frz] <;> exact rfl) (by first | exact f1 | exact f2 | exact f3) rfl ?_ | refine WL.f rfl rfl rfl (by simp (decide := true) only [EVs, EVt, Array.toList] <;> exact rfl) (by simp (decide := true) only [EVs, EVt, Array.toList, calleeOf] <;> exact rfl) (by simp (decide := true) only [EVs, EVt, Array.toList, argsOf, frz] <;> exact rfl) (by first | exact f1 | exact f2 | exact f3) ?_ | refine WL.one (by simp (decide := true) only [EVs, EVt, Array.toList] <;> exact rfl) ?_)); refine WL.nil ?_
    refine AWp.ret ⟨_, rfl, .inl ?_⟩
    simp only [spl, splE, hk, if_true]
    exact .tup' (.cons (wkN _ _ _ _ _ _ _ _ _ (.inl rfl) (.inl rfl) (.inl rfl)) (.cons (.refl _) .nil))

theorem sp_SameSets8 (s i o s' i' o' : List Int) (a1 : s.length ≤ 4096) (a2 : i.length ≤ 4096) (a3 : o.length ≤ 4096) (b1 : s'.length ≤ 4096) (b2 : i'.length ≤ 4096) (b3 : o'.length ≤ 4096) :
    ACall Try.prog 44 [sts s i o, sts s' i' o'] (bo (same3 s i o s' i' o')) := by
  have f1 : ACall Try.prog 42 [l16 s, l16 s'] (bo (eqL s s')) := sp_SameSet s s' (by omega) (by omega)
  have f2 : ACall Try.prog 42 [l16 i, l16 i'] (bo (eqL i i')) := sp_SameSet i i' (by omega) (by omega)
  have f3 : ACall Try.prog 42 [l16 o, l16 o'] (bo (eqL o o')) := sp_SameSet o o' (by omega) (by omega)
  refine acall_of Try.func44 rfl rfl (Nat.le_of_ble_eq_true rfl) T_ok (fun base w0 => ?_)
  refine AWp.seq (AWp.regionW T_ok rfl (WL.all (by simp (decide := true) only [EVs, EVt, Array.toList] <;> exact rfl) ?_))
  unfold same3
  cases h1 : eqL s s' <;> rw [h1] at f1
  · refine AWp.seq (AWp.regionW T_ok rfl ?_)
    (repeat (first | refine WL.c rfl rfl rfl (by simp (decide := true) only [EVs, EVt, Array.toList] <;> exact rfl) (by simp (decide := true) only [EVs, EVt, Array.toList, calleeOf] <;> exact rfl) (by simp (decide := true) only [EVs, EVt, Array.toList, argsOf, frz] <;> exact rfl) (by first | exact f1 | exact f2 | exact f3) rfl ?_ | refine WL.f rfl rfl rfl (by simp (decide := true) only [EVs, EVt, Array.toList] <;> exact rfl) (by simp (decide := true) only [EVs, EVt, Array.toList, calleeOf] <;> exact rfl) (by simp (decide := true) only [EVs, EVt, Array.toList, argsOf, frz] <;> exact rfl) (by first | exact f1 | exact f2 | exact f3) ?_ | refine WL.one (by simp (decide := true) only [EVs, EVt, Array.toList] <;> exact rfl) ?_)); refine WL.nil ?_
    exact AWp.ret ⟨_, rfl, .inl (.refl _)⟩
  · cases h2 : eqL i i' <;> rw [h2] at f2
    · refine AWp.seq (AWp.regionW T_ok rfl ?_)
      (repeat (first | refine WL.c rfl rfl rfl (by simp (decide := true) only [EVs, EVt, Array.toList] <;> exact rfl) (by simp (decide := true) only [EVs, EVt, Array.toList, calleeOf] <;> exact rfl) (by simp (decide := true) only [EVs, EVt, Array.toList, argsOf, frz] <;> exact rfl) (by first | exact f1 | exact f2 | exact f3) rfl ?_ | refine WL.f rfl rfl rfl (by simp (decide := true) only [EVs, EVt, Array.toList] <;> exact rfl) (by simp (decide := true) only [EVs, EVt, Array.toList, calleeOf] <;> exact rfl) (by simp (decide := true) only [EVs, EVt, Array.toList, argsOf, frz] <;> exact rfl) (by first | exact f1 | exact f2 | exact f3) ?_ | refine WL.one (by simp (decide := true) only [EVs, EVt, Array.toList] <;> exact rfl) ?_)); refine WL.nil ?_
      exact AWp.ret ⟨_, rfl, .inl (.refl _)⟩
    · cases h3 : eqL o o' <;> rw [h3] at f3
      all_goals
        refine AWp.seq (AWp.regionW T_ok rfl ?_)
        (repeat (first | refine WL.c rfl rfl rfl (by simp (decide := true) only [EVs, EVt, Array.toList] <;> exact rfl) (by simp (decide := true) only [EVs, EVt, Array.toList, calleeOf] <;> exact rfl) (by simp (decide := true) only [EVs, EVt, Array.toList, argsOf, frz] <;> exact rfl) (by first | exact f1 | exact f2 | exact f3) rfl ?_ | refine WL.f rfl rfl rfl (by simp (decide := true) only [EVs, EVt, Array.toList] <;> exact rfl) (by simp (decide := true) only [EVs, EVt, Array.toList, calleeOf] <;> exact rfl) (by simp (decide := true) only [EVs, EVt, Array.toList, argsOf, frz] <;> exact rfl) (by first | exact f1 | exact f2 | exact f3) ?_ | refine WL.one (by simp (decide := true) only [EVs, EVt, Array.toList] <;> exact rfl) ?_)); refine WL.nil ?_
        exact AWp.ret ⟨_, rfl, .inl (.refl _)⟩

theorem sp_R8Back (s i o : List Int) (hs : s.length ≤ 100000) (hi : i.length ≤ 100000) (ho : o.length ≤ 100000) : ACall Try.prog 41 [sts s i o] (lab 2 (bk s i o)) := by
  have hM := sp_MakeLab 2 (bkP s i o) (by rw [bkP_len]; omega)
  refine acall_of Try.func41 rfl rfl (Nat.le_of_ble_eq_true rfl) T_ok (fun base w0 => ?_)
  refine AWp.seq (AWp.regionW T_ok rfl (WL.all (by simp (decide := true) only [EVs, EVt, Array.toList] <;> exact rfl) ?_))
  refine AWp.seqI (fun st => ∃ (q : Nat → AV) (B : Nat → Nat × List AV) (L : Nat → Nat) (u : AV), st = ⟨57, 0, q, B, L⟩ ∧ q 1 = .ptr 1 1 0 ∧ q 2 = .ptr 2 1 0 ∧ q 3 = u ∧ B 1 = (1, [l16 s, l16 i, l16 o]) ∧ B 2 = (1, [u8 0, .list 2 [] .full]) ∧ Acc L u 2 (([] : List Pr).map prA)) (AWp.regionW T_ok rfl (WL.all (by simp (decide := true) only [EVs, EVt, Array.toList] <;> exact rfl) ?_)) ?_
  · exact ⟨_, _, _, _, rfl, rfl, rfl, rfl, rfl, rfl, ⟨_, _, rfl, .inl ⟨rfl, .inl rfl⟩⟩⟩
  rintro st ⟨q, B, L, u, rfl, q1, q2, q3, B1, B2, hA⟩
  refine AWp.seqI (fun st => ∃ (q : Nat → AV) (B : Nat → Nat × List AV) (L : Nat → Nat) (u : AV), st = ⟨57, 0, q, B, L⟩ ∧ q 1 = .ptr 1 1 0 ∧ q 2 = .ptr 2 1 0 ∧ q 3 = u ∧ B 1 = (1, [l16 s, l16 i, l16 o]) ∧ B 2 = (1, [u8 0, .list 2 [] .full]) ∧ Acc L u 2 (([] ++ at1 s 4 : List Pr).map prA)) (AWp.seq (AWp.regionW T_ok rfl (WL.all (by simp (decide := true) only [EVs, EVt, Array.toList] <;> exact rfl) ?_))) ?_
  · refine AWp.block (AWp.loop (fun n st => ∃ (j : Nat) (q : Nat → AV) (L : Nat → Nat) (u : AV), st = ⟨57, 0, q, B, L⟩ ∧ j ≤ s.length ∧ n = s.length - j ∧ q 1 = .ptr 1 1 0 ∧ q 2 = .ptr 2 1 0 ∧ q 3 = u ∧ q 4 = i64 j ∧ Acc L u 2 (([] ++ at1 (s.take j) 4 : List Pr).map prA)) ?_ (n := s.length)
      ⟨0, _, _, u, rfl, Nat.zero_le _, rfl, ?_, ?_, ?_, rfl, ?_⟩)
    · rintro n st ⟨j, q, L, u, rfl, hj, rfl, q1, q2, q3, q4, hA⟩
      by_cases hlt : j < s.length
      · have e1 : ltI (j : Int) (s.length : Int) = true := ltI_t (by omega)
        have e2 := get_mapi u16 s j hlt
        have e7 := wup j (by omega)
        have hs := at1_take s 4 j hlt
        have hlen : (([] ++ at1 (s.take j) 4 : List Pr).map prA).length ≤ 400000 := by simp [at1_len]; omega
        refine AWp.seq (AWp.seq (AWp.regionW T_ok rfl (WL.all (by simp (decide := true) only [EVs, EVt, Array.toList, q1, q4, B1, e1] <;> exact rfl) ?_)))
        refine AWp.cond (t := true) rfl (AWp.skip ?_)
        refine AWp.seq (AWp.block (AWp.regionW T_ok rfl (WL.next 8 rfl rfl (by simp (decide := true) only [EVs, EVt, Array.toList, q1, q3, q4, B1, e2] <;> exact rfl) ?_)))
        refine WL.acc (e := 61) (xs := ([] ++ at1 (s.take j) 4 : List Pr).map prA) (ys := [prA ⟨s[j], 4⟩]) (sy := 2) (oy := .full) rfl rfl rfl rfl rfl rfl rfl T_prs rfl T_pr (by simp (decide := true) only [EVs, EVt, Array.toList]; exact hA) (by simp (decide := true) only [EVs, EVt, Array.toList]) (.inl rfl) (by simp only [List.length_cons, List.length_nil]; omega) (by decide) (fun v1 L1 hA1 => ?_)
        have hA1' := hA1
        obtain ⟨o1, sx1, rfl, _⟩ := hA1
        refine (WL.all (by simp (decide := true) only [EVs, EVt, Array.toList] <;> exact rfl) ?_)
        refine (AWp.regionW T_ok rfl (WL.all (by simp (decide := true) only [EVs, EVt, Array.toList, q4, e7] <;> exact rfl) ?_))
        refine ⟨s.length - (j + 1), by omega, j + 1, _, _, _, rfl, by omega, rfl, ?_, ?_, rfl, ?_, ?_⟩
        · simp (decide := true) only [EVs, EVt, Array.toList, q1]
        · simp (decide := true) only [EVs, EVt, Array.toList, q2]
        · simp (decide := true) only [EVs, EVt, Array.toList]
        · rw [hs, ← List.append_assoc, List.map_append (l₁ := [] ++ at1 (s.take j) 4)]
          exact hA1'
      · obtain rfl : j = s.length := by omega
        have e1 : ltI (s.length : Int) (s.length : Int) = false := ltI_f (by omega)
        rw [List.take_length] at hA
        refine AWp.seq (AWp.seq (AWp.regionW T_ok rfl (WL.all (by simp (decide := true) only [EVs, EVt, Array.toList, q1, q4, B1, e1] <;> exact rfl) ?_)))
        refine AWp.cond (t := false) rfl (AWp.exit ?_)
        refine ⟨_, B, L, u, rfl, ?_, ?_, ?_, B1, B2, hA⟩
        · simp (decide := true) only [EVs, EVt, Array.toList, q1]
        · simp (decide := true) only [EVs, EVt, Array.toList, q2]
        · simp (decide := true) only [EVs, EVt, Array.toList, q3]
    · simp (decide := true) only [EVs, EVt, Array.toList, q1]
    · simp (decide := true) only [EVs, EVt, Array.toList, q2]
    · simp (decide := true) only [EVs, EVt, Array.toList, q3]
    · simpa [at1] using hA
  rintro st ⟨q, B, L, u, rfl, q1, q2, q3, B1, B2, hA⟩
  refine AWp.seqI (fun st => ∃ (q : Nat → AV) (B : Nat → Nat × List AV) (L : Nat → Nat) (u : AV), st = ⟨57, 0, q, B, L⟩ ∧ q 1 = .ptr 1 1 0 ∧ q 2 = .ptr 2 1 0 ∧ q 3 = u ∧ B 1 = (1, [l16 s, l16 i, l16 o]) ∧ B 2 = (1, [u8 0, .list 2 [] .full]) ∧ Acc L u 2 (([] ++ at1 s 4 ++ at1 i 1 : List Pr).map prA)) (AWp.seq (AWp.regionW T_ok rfl (WL.all (by simp (decide := true) only [EVs, EVt, Array.toList] <;> exact rfl) ?_))) ?_
  · refine AWp.block (AWp.loop (fun n st => ∃ (j : Nat) (q : Nat → AV) (L : Nat → Nat) (u : AV), st = ⟨57, 0, q, B, L⟩ ∧ j ≤ i.length ∧ n = i.length - j ∧ q 1 = .ptr 1 1 0 ∧ q 2 = .ptr 2 1 0 ∧ q 3 = u ∧ q 5 = i64 j ∧ Acc L u 2 ((([] ++ at1 s 4) ++ at1 (i.take j) 1 : List Pr).map prA)) ?_ (n := i.length)
      ⟨0, _, _, u, rfl, Nat.zero_le _, rfl, ?_, ?_, ?_, rfl, ?_⟩)
    · rintro n st ⟨j, q, L, u, rfl, hj, rfl, q1, q2, q3, q4, hA⟩
      by_cases hlt : j < i.length
      · have e1 : ltI (j : Int) (i.length : Int) = true := ltI_t (by omega)
        have e2 := get_mapi u16 i j hlt
        have e7 := wup j (by omega)
        have hs := at1_take i 1 j hlt
        have hlen : ((([] ++ at1 s 4) ++ at1 (i.take j) 1 : List Pr).map prA).length ≤ 400000 := by simp [at1_len]; omega
        refine AWp.seq (AWp.seq (AWp.regionW T_ok rfl (WL.all (by simp (decide := true) only [EVs, EVt, Array.toList, q1, q4, B1, e1] <;> exact rfl) ?_)))
        refine AWp.cond (t := true) rfl (AWp.skip ?_)
        refine AWp.seq (AWp.block (AWp.regionW T_ok rfl (WL.next 8 rfl rfl (by simp (decide := true) only [EVs, EVt, Array.toList, q1, q3, q4, B1, e2] <;> exact rfl) ?_)))
        refine WL.acc (e := 61) (xs := (([] ++ at1 s 4) ++ at1 (i.take j) 1 : List Pr).map prA) (ys := [prA ⟨i[j], 1⟩]) (sy := 2) (oy := .full) rfl rfl rfl rfl rfl rfl rfl T_prs rfl T_pr (by simp (decide := true) only [EVs, EVt, Array.toList]; exact hA) (by simp (decide := true) only [EVs, EVt, Array.toList]) (.inl rfl) (by simp only [List.length_cons, List.length_nil]; omega) (by decide) (fun v1 L1 hA1 => ?_)
        have hA1' := hA1
        obtain ⟨o1, sx1, rfl, _⟩ := hA1
        refine (WL.all (by simp (decide := true) only [EVs, EVt, Array.toList] <;> exact rfl) ?_)
        refine (AWp.regionW T_ok rfl (WL.all (by simp (decide := true) only [EVs, EVt, Array.toList, q4, e7] <;> exact rfl) ?_))
        refine ⟨i.length - (j + 1), by omega, j + 1, _, _, _, rfl, by omega, rfl, ?_, ?_, rfl, ?_, ?_⟩
        · simp (decide := true) only [EVs, EVt, Array.toList, q1]
        · simp (decide := true) only [EVs, EVt, Array.toList, q2]
        · simp (decide := true) only [EVs, EVt, Array.toList]
        · rw [hs, ← List.append_assoc, List.map_append (l₁ := ([] ++ at1 s 4) ++ at1 (i.take j) 1)]
          exact hA1'
      · obtain rfl : j = i.length := by omega
        have e1 : ltI (i.length : Int) (i.length : Int) = false := ltI_f (by omega)
        rw [List.take_length] at hA
        refine AWp.seq (AWp.seq (AWp.regionW T_ok rfl (WL.all (by simp (decide := true) only [EVs, EVt, Array.toList, q1, q4, B1, e1] <;> exact rfl) ?_)))
        refine AWp.cond (t := false) rfl (AWp.exit ?_)
        refine ⟨_, B, L, u, rfl, ?_, ?_, ?_, B1, B2, hA⟩
        · simp (decide := true) only [EVs, EVt, Array.toList, q1]
        · simp (decide := true) only [EVs, EVt, Array.toList, q2]
        · simp (decide := true) only [EVs, EVt, Array.toList, q3]
    · simp (decide := true) only [EVs, EVt, Array.toList, q1]
    · simp (decide := true) only [EVs, EVt, Array.toList, q2]
    · simp (decide := true) only [EVs, EVt, Array.toList, q3]
    · simpa [at1] using hA
  rintro st ⟨q, B, L, u, rfl, q1, q2, q3, B1, B2, hA⟩
  refine AWp.seqI (fun st => ∃ (q : Nat → AV) (B : Nat → Nat × List AV) (L : Nat → Nat) (u : AV), st = ⟨57, 0, q, B, L⟩ ∧ q 1 = .ptr 1 1 0 ∧ q 2 = .ptr 2 1 0 ∧ q 3 = u ∧ B 1 = (1, [l16 s, l16 i, l16 o]) ∧ B 2 = (1, [u8 0, .list 2 [] .full]) ∧ Acc L u 2 (([] ++ at1 s 4 ++ at1 i 1 ++ at1 o 0 : List Pr).map prA)) (AWp.seq (AWp.regionW T_ok rfl (WL.all (by simp (decide := true) only [EVs, EVt, Array.toList] <;> exact rfl) ?_))) ?_
  · refine AWp.block (AWp.loop (fun n st => ∃ (j : Nat) (q : Nat → AV) (L : Nat → Nat) (u : AV), st = ⟨57, 0, q, B, L⟩ ∧ j ≤ o.length ∧ n = o.length - j ∧ q 1 = .ptr 1 1 0 ∧ q 2 = .ptr 2 1 0 ∧ q 3 = u ∧ q 6 = i64 j ∧ Acc L u 2 ((([] ++ at1 s 4 ++ at1 i 1) ++ at1 (o.take j) 0 : List Pr).map prA)) ?_ (n := o.length)
      ⟨0, _, _, u, rfl, Nat.zero_le _, rfl, ?_, ?_, ?_, rfl, ?_⟩)
    · rintro n st ⟨j, q, L, u, rfl, hj, rfl, q1, q2, q3, q4, hA⟩
      by_cases hlt : j < o.length
      · have e1 : ltI (j : Int) (o.length : Int) = true := ltI_t (by omega)
        have e2 := get_mapi u16 o j hlt
        have e7 := wup j (by omega)
        have hs := at1_take o 0 j hlt
        have hlen : ((([] ++ at1 s 4 ++ at1 i 1) ++ at1 (o.take j) 0 : List Pr).map prA).length ≤ 400000 := by simp [at1_len]; omega
        refine AWp.seq (AWp.seq (AWp.regionW T_ok rfl (WL.all (by simp (decide := true) only [EVs, EVt, Array.toList, q1, q4, B1, e1] <;> exact rfl) ?_)))
        refine AWp.cond (t := true) rfl (AWp.skip ?_)
        refine AWp.seq (AWp.block (AWp.regionW T_ok rfl (WL.next 8 rfl rfl (by simp (decide := true) only [EVs, EVt, Array.toList, q1, q3, q4, B1, e2] <;> exact rfl) ?_)))
        refine WL.acc (e := 61) (xs := (([] ++ at1 s 4 ++ at1 i 1) ++ at1 (o.take j) 0 : List Pr).map prA) (ys := [prA ⟨o[j], 0⟩]) (sy := 2) (oy := .full) rfl rfl rfl rfl rfl rfl rfl T_prs rfl T_pr (by simp (decide := true) only [EVs, EVt, Array.toList]; exact hA) (by simp (decide := true) only [EVs, EVt, Array.toList]) (.inl rfl) (by simp only [List.length_cons, List.length_nil]; omega) (by decide) (fun v1 L1 hA1 => ?_)
        have hA1' := hA1
        obtain ⟨o1, sx1, rfl, _⟩ := hA1
        refine (WL.all (by simp (decide := true) only [EVs, EVt, Array.toList] <;> exact rfl) ?_)
        refine (AWp.regionW T_ok rfl (WL.all (by simp (decide := true) only [EVs, EVt, Array.toList, q4, e7] <;> exact rfl) ?_))
        refine ⟨o.length - (j + 1), by omega, j + 1, _, _, _, rfl, by omega, rfl, ?_, ?_, rfl, ?_, ?_⟩
        · simp (decide := true) only [EVs, EVt, Array.toList, q1]
        · simp (decide := true) only [EVs, EVt, Array.toList, q2]
        · simp (decide := true) only [EVs, EVt, Array.toList]
        · rw [hs, ← List.append_assoc, List.map_append (l₁ := ([] ++ at1 s 4 ++ at1 i 1) ++ at1 (o.take j) 0)]
          exact hA1'
      · obtain rfl : j = o.length := by omega
        have e1 : ltI (o.length : Int) (o.length : Int) = false := ltI_f (by omega)
        rw [List.take_length] at hA
        refine AWp.seq (AWp.seq (AWp.regionW T_ok rfl (WL.all (by simp (decide := true) only [EVs, EVt, Array.toList, q1, q4, B1, e1] <;> exact rfl) ?_)))
        refine AWp.cond (t := false) rfl (AWp.exit ?_)
        refine ⟨_, B, L, u, rfl, ?_, ?_, ?_, B1, B2, hA⟩
        · simp (decide := true) only [EVs, EVt, Array.toList, q1]
        · simp (decide := true) only [EVs, EVt, Array.toList, q2]
        · simp (decide := true) only [EVs, EVt, Array.toList, q3]
    · simp (decide := true) only [EVs, EVt, Array.toList, q1]
    · simp (decide := true) only [EVs, EVt, Array.toList, q2]
    · simp (decide := true) only [EVs, EVt, Array.toList, q3]
    · simpa [at1] using hA
  rintro st ⟨q, B, L, u, rfl, q1, q2, q3, B1, B2, o1, sx, rfl, hacc⟩
  rw [List.nil_append] at q3 hacc
  have hw : sx = 2 ∨ (bkP s i o).map prA = [] := by
    rcases hacc with ⟨_, h | h⟩ | ⟨_, _, h⟩
    · exact .inr h
    · exact .inl h
    · exact .inl h
  rcases hacc with ⟨rfl, _⟩ | ⟨k, rfl, _⟩
  all_goals
    refine AWp.seq (AWp.regionW T_ok rfl (WL.next 1 rfl rfl (by simp (decide := true) only [EVs, EVt, Array.toList, q3] <;> exact rfl) ?_))
    refine WL.c rfl rfl rfl rfl (by simp (decide := true) only [EVs, EVt, Array.toList, calleeOf] <;> exact rfl) (by simp (decide := true) only [EVs, EVt, Array.toList, argsOf, frz] <;> exact rfl) (ACall.wkl hM (.cons (.refl _) (.cons (.list sx 2 _ _ hw) .nil))) rfl ?_
    refine (WL.all (by simp (decide := true) only [EVs, EVt, Array.toList, q2, B2] <;> exact rfl) ?_)
    refine AWp.ret ⟨_, by show aresults T _ [.cell 2 39] = some _; simp (decide := true) only [EVs, EVt, Array.toList, aresults, ares1, q2, B2]; exact rfl, .inl ?_⟩
    exact .refl _
end Go.Proofs.Ytfgndnackofenaa.E
