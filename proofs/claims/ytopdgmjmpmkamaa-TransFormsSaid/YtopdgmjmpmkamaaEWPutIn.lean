/-
  A pair put into a slice, in place or into a new row (slices.Insert), walked in abstract values. Conditions: lengths.
-/
import Derived.Test.YtopdgmjmpmkamaaEWDel
namespace Go.Proofs.Ytopdgmjmpmkamaa.E
open Go Go.RowKit Go.Proofs.YtopdgmjmpmkamaaW.E
set_option linter.unusedVariables false
set_option linter.unusedSimpArgs false
set_option maxRecDepth 100000
set_option maxHeartbeats 4000000

def Ins (D k : Nat) (l : List Pr) (B : Nat → Nat × List AV) (r : AV) (B' : Nat → Nat × List AV) : Prop := ∃ k', (k' = k ∨ (D ≤ k' ∧ k' < D + 100)) ∧ Hold B' k' r l ∧ ∀ j < D, j ≠ k → B' j = B j

theorem h_ins0 (p : Pr) (D : Nat) (B : Nat → Nat × List AV) (L : Nat → Nat) (k kv gv : Nat) (hv : B kv = (gv, [u16 p.c, u8 p.l])) (hkv : kv < D) :
    HCall Try.prog T 67 [.list 2 [] .full, i64 ((0 : Nat) : Int), .bsl kv gv 0 1 1] B L (fun x B' L' => Ins D k [p] B x B') := by
  have e1 : eqI ((1 : Nat) : Int) 0 = false := rfl
  have e2 : eqI ((0 : Nat) : Int) ((0 : Nat) : Int) = true := rfl
  refine hcall_of Try.func67 rfl rfl (Nat.le_of_ble_eq_true rfl) D (fun base w0 => ?_)
  refine AWp.seq (AWp.regionW T_ok rfl (WL.all (by simp (decide := true) only [EVs, EVt, Array.toList] <;> exact rfl) ?_))
  refine AWp.seq (AWp.regionW T_ok rfl (WL.all (by simp (decide := true) only [EVs, EVt, Array.toList] <;> exact rfl) ?_))
  refine AWp.seq (AWp.regionW T_ok rfl (WL.all (by simp (decide := true) only [EVs, EVt, Array.toList] <;> exact rfl) ?_))
  refine AWp.seq (AWp.seq (AWp.regionW T_ok rfl (WL.all (by simp (decide := true) only [EVs, EVt, Array.toList, e1] <;> exact rfl) ?_)))
  refine AWp.cond (t := false) rfl (AWp.skip ?_)
  refine AWp.seq (AWp.regionW T_ok rfl (WL.all (by simp (decide := true) only [EVs, EVt, Array.toList] <;> exact rfl) ?_))
  refine AWp.seq (AWp.seq (AWp.regionW T_ok rfl (WL.all (by simp (decide := true) only [EVs, EVt, Array.toList, e2] <;> exact rfl) ?_)))
  refine AWp.cond (t := true) rfl (AWp.seq (AWp.regionH rfl (HL.next T_ok 2 rfl rfl (by simp (decide := true) only [EVs, EVt, Array.toList] <;> exact rfl) ?_)))
  refine HL.grow (olds := []) (news := [u16 p.c, u8 p.l]) T_ok rfl rfl rfl rfl rfl rfl (by simp (decide := true) only [EVs, EVt, Array.toList] <;> exact rfl) T_prs rfl T_pr (by simp (decide := true) only [EVs, EVt, Array.toList, srcLen] <;> exact rfl) (by simp (decide := true) only [EVs, EVt, Array.toList, capOf] <;> exact rfl) (by simp [srcCells, flat, upd_app, evalA]) (by simp (decide := true) only [EVs, EVt, Array.toList, srcLen] <;> exact rfl)
    (src_bsl (sz := 2) (by simp (decide := true) only [EVs, EVt, Array.toList] <;> exact rfl) hv (Nat.le_refl _) (Nat.le_refl _) rfl) (by decide) (by decide) (by decide) (by decide) (fun c' hc' => ?_)
  refine (HL.all T_ok (by simp (decide := true) only [EVs, EVt, Array.toList] <;> exact rfl) ?_)
  refine AWp.ret ⟨_, rfl, D + 25, .inr ⟨by omega, by omega⟩, .inr ⟨_, c', zerosA (c' - 1) [u16 0, u8 0], rfl, upd_same _ _ _, ?_, by omega⟩, fun j hj _ => upd_ne _ _ (by omega)⟩
  rw [List.length_append, zerosA_len]
  simp [fl_len]; omega

theorem h_insE (l : List Pr) (p : Pr) (hl : l.length < 35184372087808) (D : Nat) (B : Nat → Nat × List AV) (L : Nat → Nat) (k g c : Nat) (r : List AV) (hB : B k = (g, fl l ++ r)) (hlen : (fl l ++ r).length = c * 2) (h0 : 0 < c) (hk : k < D) (kv gv : Nat) (hv : B kv = (gv, [u16 p.c, u8 p.l])) (hkv : kv < D) (hkk : kv ≠ k) :
    HCall Try.prog T 67 [.bsl k g 0 l.length c, i64 l.length, .bsl kv gv 0 1 1] B L (fun x B' L' => Ins D k (l ++ [p]) B x B') := by
  have hne := some_bs hlen h0
  have hr : l.length * 2 + r.length = c * 2 := by rw [List.length_append, fl_len] at hlen; exact hlen
  have hnc : l.length ≤ c := by omega
  have e1 : eqI ((1 : Nat) : Int) 0 = false := rfl
  have e2 : eqI (l.length : Int) (l.length : Int) = true := eqI_t rfl
  refine hcall_of Try.func67 rfl rfl (Nat.le_of_ble_eq_true rfl) D (fun base w0 => ?_)
  refine AWp.seq (AWp.regionW T_ok rfl (WL.all (by simp (decide := true) only [EVs, EVt, Array.toList] <;> exact rfl) ?_))
  refine AWp.seq (AWp.regionW T_ok rfl (WL.all (by simp (decide := true) only [EVs, EVt, Array.toList, hnc] <;> exact rfl) ?_))
  refine AWp.seq (AWp.regionW T_ok rfl (WL.all (by simp (decide := true) only [EVs, EVt, Array.toList] <;> exact rfl) ?_))
  refine AWp.seq (AWp.seq (AWp.regionW T_ok rfl (WL.all (by simp (decide := true) only [EVs, EVt, Array.toList, e1] <;> exact rfl) ?_)))
  refine AWp.cond (t := false) rfl (AWp.skip ?_)
  refine AWp.seq (AWp.regionW T_ok rfl (WL.all (by simp (decide := true) only [EVs, EVt, Array.toList] <;> exact rfl) ?_))
  refine AWp.seq (AWp.seq (AWp.regionW T_ok rfl (WL.all (by simp (decide := true) only [EVs, EVt, Array.toList, e2] <;> exact rfl) ?_)))
  refine AWp.cond (t := true) rfl (AWp.seq (AWp.regionH rfl (HL.next T_ok 2 rfl rfl (by simp (decide := true) only [EVs, EVt, Array.toList] <;> exact rfl) ?_)))
  by_cases hroom : l.length + 1 ≤ c
  · have hlen' : (fl (l ++ [p]) ++ r.drop 2).length = c * 2 := by rw [List.length_append, fl_len, List.length_append, List.length_drop]; simp; omega
    refine HL.x T_ok rfl (by simp (decide := true) only [EVs, EVt, Array.toList] <;> exact rfl) (xexec_app (cs := [u16 p.c, u8 p.l]) (bs' := fl (l ++ [p]) ++ r.drop 2) rfl rfl rfl rfl T_prs rfl T_pr (by simp (decide := true) only [EVs, EVt, Array.toList] <;> exact rfl) hB (by simp (decide := true) only [EVs, EVt, Array.toList, srcLen] <;> exact rfl) (src_bsl (sz := 2) (by simp (decide := true) only [EVs, EVt, Array.toList] <;> exact rfl) hv (Nat.le_refl _) (Nat.le_refl _) rfl) hroom hne
      (by show 0 + l.length * 2 + 2 ≤ _; rw [hlen]; omega) (by rw [Nat.zero_add]; exact ins_end l p r (by omega))) ?_
    refine (HL.all T_ok (by simp (decide := true) only [EVs, EVt, Array.toList] <;> exact rfl) ?_)
    refine AWp.ret ⟨_, rfl, k, .inl rfl, .inr ⟨g, c, r.drop 2, by rw [List.length_append]; rfl, upd_same _ _ _, hlen', h0⟩, fun j hj hjk => upd_ne _ _ hjk⟩
  · refine HL.grow (olds := fl l) (news := [u16 p.c, u8 p.l]) T_ok rfl rfl rfl rfl rfl rfl (by simp (decide := true) only [EVs, EVt, Array.toList] <;> exact rfl) T_prs rfl T_pr (by simp (decide := true) only [EVs, EVt, Array.toList, srcLen] <;> exact rfl) (by simp (decide := true) only [EVs, EVt, Array.toList, capOf] <;> exact rfl) (src_bsl (sz := 2) (by simp (decide := true) only [EVs, EVt, Array.toList] <;> exact rfl) hB (Nat.le_refl _) (by rw [hlen]; omega) (by rw [List.drop_zero, fl_take l r l.length (Nat.le_refl _), List.take_length])) (by simp (decide := true) only [EVs, EVt, Array.toList, srcLen] <;> exact rfl)
      (src_bsl (sz := 2) (by simp (decide := true) only [EVs, EVt, Array.toList] <;> exact rfl) hv (Nat.le_refl _) (Nat.le_refl _) rfl) (by omega) hnc (by show (l.length + 1) * 4 ≤ _; omega) (by decide) (fun c' hc' => ?_)
    refine (HL.all T_ok (by simp (decide := true) only [EVs, EVt, Array.toList] <;> exact rfl) ?_)
    refine AWp.ret ⟨_, rfl, D + 25, .inr ⟨by omega, by omega⟩, .inr ⟨_, c', zerosA (c' - (l.length + 1)) [u16 0, u8 0], by rw [List.length_append]; rfl, ?_, ?_, by omega⟩, fun j hj _ => upd_ne _ _ (by omega)⟩
    · rw [fl_app]; exact upd_same _ _ _
    · rw [List.length_append, zerosA_len, fl_len, List.length_append]
      simp; omega

theorem h_insG (l : List Pr) (p : Pr) (i : Nat) (hi : i < l.length) (hl : l.length < 35184372087808) (D : Nat) (B : Nat → Nat × List AV) (L : Nat → Nat) (k g c : Nat) (r : List AV) (hB : B k = (g, fl l ++ r)) (hlen : (fl l ++ r).length = c * 2) (h0 : 0 < c) (hk : k < D) (kv gv : Nat) (hv : B kv = (gv, [u16 p.c, u8 p.l])) (hkv : kv < D) (hkk : kv ≠ k) (hgr : c < l.length + 1) :
    HCall Try.prog T 67 [.bsl k g 0 l.length c, i64 i, .bsl kv gv 0 1 1] B L (fun x B' L' => Ins D k (l.take i ++ p :: l.drop i) B x B') := by
  have hne := some_bs hlen h0
  have hr : l.length * 2 + r.length = c * 2 := by rw [List.length_append, fl_len] at hlen; exact hlen
  have hnc : l.length ≤ c := by omega
  have e1 : eqI ((1 : Nat) : Int) 0 = false := rfl
  have e2 : eqI (i : Int) (l.length : Int) = false := eqI_f (by omega)
  have e3 : i ≤ l.length := by omega
  have e4 : (c = 0) = False := by simp; omega
  have e5 : i ≤ c := by omega
  have w1 : IntKind.i64.wrap ((l.length : Int) + ((1 : Nat) : Int)) = ((l.length + 1 : Nat) : Int) := by rw [IntWalk.i64_in _ (by omega)]; omega
  have w2 : IntKind.i64.wrap (((l.length + 1 : Nat) : Int) - (i : Int)) = ((l.length + 1 - i : Nat) : Int) := by rw [IntWalk.i64_in _ (by omega)]; omega
  have w3 : IntKind.i64.wrap ((i : Int) + ((1 : Nat) : Int)) = ((i + 1 : Nat) : Int) := by rw [IntWalk.i64_in _ (by omega)]; omega
  have e6 : ltI (c : Int) ((l.length + 1 : Nat) : Int) = true := ltI_t (by omega)
  have e7 : i + (l.length + 1 - i) = l.length + 1 := by omega
  have e8 : i ≤ l.length + 1 := by omega
  have e9 : i + 1 ≤ l.length + 1 := by omega
  have e10 : (c = i) = False := by simp; omega
  have m1 : min 1 (l.length + 1 - i) = 1 := by omega
  have m2 : min (l.length - i) (l.length + 1 - (i + 1)) = l.length - i := by omega
  refine hcall_of Try.func67 rfl rfl (Nat.le_of_ble_eq_true rfl) D (fun base w0 => ?_)
  refine AWp.seq (AWp.regionW T_ok rfl (WL.all (by simp (decide := true) only [EVs, EVt, Array.toList] <;> exact rfl) ?_))
  refine AWp.seq (AWp.regionW T_ok rfl (WL.all (by simp (decide := true) only [EVs, EVt, Array.toList, hnc, e3, e5] <;> exact rfl) ?_))
  refine AWp.seq (AWp.regionW T_ok rfl (WL.all (by simp (decide := true) only [EVs, EVt, Array.toList] <;> exact rfl) ?_))
  refine AWp.seq (AWp.seq (AWp.regionW T_ok rfl (WL.all (by simp (decide := true) only [EVs, EVt, Array.toList, e1] <;> exact rfl) ?_)))
  refine AWp.cond (t := false) rfl (AWp.skip ?_)
  refine AWp.seq (AWp.regionW T_ok rfl (WL.all (by simp (decide := true) only [EVs, EVt, Array.toList] <;> exact rfl) ?_))
  refine AWp.seq (AWp.seq (AWp.regionW T_ok rfl (WL.all (by simp (decide := true) only [EVs, EVt, Array.toList, e2] <;> exact rfl) ?_)))
  refine AWp.cond (t := false) rfl (AWp.skip ?_)
  refine AWp.seq (AWp.seq (AWp.regionW T_ok rfl (WL.all (by simp (decide := true) only [EVs, EVt, Array.toList, w1, e6] <;> exact rfl) ?_)))
  refine AWp.cond (t := true) rfl ?_
  refine AWp.seq (AWp.regionH rfl (HL.next T_ok 8 rfl rfl (by simp (decide := true) only [EVs, EVt, Array.toList, w1, w2, e4, e5, Nat.sub_zero, Nat.zero_mul] <;> exact rfl) ?_))
  refine HL.growN (olds := fl (l.take i)) (k := l.length + 1 - i) T_ok rfl rfl rfl rfl rfl rfl (by simp (decide := true) only [EVs, EVt, Array.toList] <;> exact rfl) T_prs rfl T_pr und_int (by simp (decide := true) only [EVs, EVt, Array.toList, srcLen] <;> exact rfl) (by simp (decide := true) only [EVs, EVt, Array.toList, capOf] <;> exact rfl) (src_bsl (sz := 2) (by simp (decide := true) only [EVs, EVt, Array.toList] <;> exact rfl) hB (Nat.le_refl _) (by rw [hlen]; omega) (by rw [List.drop_zero, fl_take l r i (by omega)])) (by simp (decide := true) only [EVs, EVt, Array.toList] <;> exact rfl)
    (by omega) e5 (by omega) (by decide) (by show (i + (l.length + 1 - i)) * 4 ≤ _; omega) (by decide) (fun c' hc' => ?_)
  rw [e7] at hc'
  have f1 : (c' = i) = False := by simp; omega
  have f2 : (c' = i + 1) = False := by simp; omega
  have f3 : l.length + 1 ≤ c' := hc'
  have f4 : i ≤ c' := by omega
  have f5 : i + 1 ≤ c' := by omega
  refine (HL.all T_ok (by simp (decide := true) only [EVs, EVt, Array.toList, e7] <;> exact rfl) ?_)
  obtain ⟨z1, hz1⟩ : ∃ z1, zerosA (l.length + 1 - i) [u16 0, u8 0] = z1 := ⟨_, rfl⟩
  obtain ⟨r1, hr1⟩ : ∃ r1, zerosA (c' - (l.length + 1)) [u16 0, u8 0] = r1 := ⟨_, rfl⟩
  have lz : z1.length = (l.length + 1 - i) * 2 := by rw [← hz1, zerosA_len]; rfl
  have lr : r1.length = (c' - (l.length + 1)) * 2 := by rw [← hr1, zerosA_len]; rfl
  have la : (l.take i).length = i := by rw [List.length_take]; omega
  have lb : (l.drop i).length = l.length - i := List.length_drop
  obtain ⟨n1, n2⟩ := ins_new (l.take i) (l.drop i) p z1 r1 i la.symm (by rw [lz, lb]; omega)
  have t1 : (fl (l.take i) ++ (z1 ++ r1)).length = c' * 2 := by rw [List.length_append, fl_len, la, List.length_append, lz, lr]; omega
  have t2 : (fl (l.take i ++ [p]) ++ (z1.drop 2 ++ r1)).length = c' * 2 := by rw [List.length_append, fl_len, List.length_append, la, List.length_append, List.length_drop, lz, lr]; simp; omega
  have t3 : (fl (l.take i ++ p :: l.drop i) ++ r1).length = c' * 2 := by rw [List.length_append, fl_len, List.length_append, la, List.length_cons, lb, lr]; omega
  refine AWp.seq (AWp.regionH rfl (HL.next T_ok 4 rfl rfl (by simp (decide := true) only [EVs, EVt, Array.toList, f1, f3, f4, e8] <;> exact rfl) ?_))
  refine HL.x T_ok rfl (by simp (decide := true) only [EVs, EVt, Array.toList] <;> exact rfl) (xexec_copy (bs := fl (l.take i) ++ (z1 ++ r1)) (cs := [u16 p.c, u8 p.l]) (bs' := fl (l.take i ++ [p]) ++ (z1.drop 2 ++ r1)) rfl rfl rfl rfl T_prs rfl T_pr (by simp (decide := true) only [EVs, EVt, Array.toList] <;> exact rfl) ((upd_same _ _ _).trans (by rw [← hz1, ← hr1, List.append_assoc])) (by simp (decide := true) only [EVs, EVt, Array.toList, srcLen] <;> exact rfl)
    (by rw [m1]; exact src_bsl (sz := 2) (by simp (decide := true) only [EVs, EVt, Array.toList] <;> exact rfl) ((upd_ne _ _ (by omega)).trans hv) (Nat.le_refl _) (Nat.le_refl _) rfl) (some_bs t1 (by omega)) (by rw [t1]; show i * 2 + 2 ≤ _; omega) n1) (HL.nil ?_)
  refine AWp.seq (AWp.drawnX 8 T_ok mixed (by kernel_rfl) rfl rfl rfl (by simp (decide := true) only [EVs, EVt, Array.toList, w3, e3, e5, e8, e9, e10, f2, f3, f5, hnc] <;> exact rfl) rfl (by simp (decide := true) only [EVs, EVt, Array.toList] <;> exact rfl)
    (xexec_copy (bs := fl (l.take i ++ [p]) ++ (z1.drop 2 ++ r1)) (cs := fl (l.drop i)) (bs' := fl (l.take i ++ p :: l.drop i) ++ r1) rfl rfl rfl rfl T_prs rfl T_pr (by simp (decide := true) only [EVs, EVt, Array.toList] <;> exact rfl) (upd_same _ _ _) (by simp (decide := true) only [EVs, EVt, Array.toList, srcLen] <;> exact rfl)
      (by rw [m2]; exact src_bsl (sz := 2) (by simp (decide := true) only [EVs, EVt, Array.toList] <;> exact rfl) (((upd_ne _ _ (by omega)).trans (upd_ne _ _ (by omega))).trans hB) (Nat.le_refl _) (by rw [hlen]; omega) (fl_part l r i e3)) (some_bs t2 (by omega)) (by rw [t2, fl_len, lb]; omega) n2) (by simp (decide := true) only [EVs, EVt, Array.toList] <;> exact rfl) ?_)
  refine AWp.seq (AWp.regionW T_ok rfl (WL.all (by simp (decide := true) only [EVs, EVt, Array.toList] <;> exact rfl) ?_))
  refine AWp.ret ⟨_, rfl, D + 40, .inr ⟨by omega, by omega⟩, .inr ⟨_, c', r1, ?_, upd_same _ _ _, t3, by omega⟩, fun j hj _ => ?_⟩
  · have : (l.take i ++ p :: l.drop i).length = l.length + 1 := by rw [List.length_append, la, List.length_cons, lb]; omega
    rw [this]; rfl
  · exact ((upd_ne _ _ (by omega)).trans (upd_ne _ _ (by omega))).trans (upd_ne _ _ (by omega))

theorem h_insR (l : List Pr) (p : Pr) (i : Nat) (hi : i < l.length) (hl : l.length < 35184372087808) (D : Nat) (B : Nat → Nat × List AV) (L : Nat → Nat) (k g c : Nat) (r : List AV) (hB : B k = (g, fl l ++ r)) (hlen : (fl l ++ r).length = c * 2) (h0 : 0 < c) (hk : k < D) (kv gv : Nat) (hv : B kv = (gv, [u16 p.c, u8 p.l])) (hkv : kv < D) (hkk : kv ≠ k) (hgr : l.length + 1 ≤ c) :
    HCall Try.prog T 67 [.bsl k g 0 l.length c, i64 i, .bsl kv gv 0 1 1] B L (fun x B' L' => Ins D k (l.take i ++ p :: l.drop i) B x B') := by
  have hne := some_bs hlen h0
  have hr : l.length * 2 + r.length = c * 2 := by rw [List.length_append, fl_len] at hlen; exact hlen
  have hnc : l.length ≤ c := by omega
  have e1 : eqI ((1 : Nat) : Int) 0 = false := rfl
  have e2 : eqI (i : Int) (l.length : Int) = false := eqI_f (by omega)
  have e3 : i ≤ l.length := by omega
  have e4 : (c = 0) = False := by simp; omega
  have e5 : i ≤ c := by omega
  have w1 : IntKind.i64.wrap ((l.length : Int) + ((1 : Nat) : Int)) = ((l.length + 1 : Nat) : Int) := by rw [IntWalk.i64_in _ (by omega)]; omega
  have w3 : IntKind.i64.wrap ((i : Int) + ((1 : Nat) : Int)) = ((i + 1 : Nat) : Int) := by rw [IntWalk.i64_in _ (by omega)]; omega
  have e6 : ltI (c : Int) ((l.length + 1 : Nat) : Int) = false := ltI_f (by omega)
  have e8 : i ≤ l.length + 1 := by omega
  have e9 : i + 1 ≤ l.length + 1 := by omega
  have e10 : (c = i) = False := by simp; omega
  have e11 : (c = i + 1) = False := by simp; omega
  have e12 : i + 1 ≤ c := by omega
  have m1 : min 1 (l.length + 1 - i) = 1 := by omega
  have m2 : min (l.length + 1 - i) (l.length + 1 - (i + 1)) = l.length - i := by omega
  have la : (l.take i).length = i := by rw [List.length_take]; omega
  have lb : (l.drop i).length = l.length - i := List.length_drop
  obtain ⟨t, ht, n1⟩ := ins_up l r i hi (by omega)
  have n2 := ins_in (l.take i) (l.drop i) p t (r.drop 2) i la.symm ht
  have t1 : (fl (l.take i) ++ (t ++ (fl (l.drop i) ++ r.drop 2))).length = c * 2 := by rw [List.length_append, fl_len, la, List.length_append, ht, List.length_append, fl_len, lb, List.length_drop]; omega
  have t3 : (fl (l.take i ++ p :: l.drop i) ++ r.drop 2).length = c * 2 := by rw [List.length_append, fl_len, List.length_append, la, List.length_cons, lb, List.length_drop]; omega
  refine hcall_of Try.func67 rfl rfl (Nat.le_of_ble_eq_true rfl) D (fun base w0 => ?_)
  refine AWp.seq (AWp.regionW T_ok rfl (WL.all (by simp (decide := true) only [EVs, EVt, Array.toList] <;> exact rfl) ?_))
  refine AWp.seq (AWp.regionW T_ok rfl (WL.all (by simp (decide := true) only [EVs, EVt, Array.toList, hnc, e3, e5] <;> exact rfl) ?_))
  refine AWp.seq (AWp.regionW T_ok rfl (WL.all (by simp (decide := true) only [EVs, EVt, Array.toList] <;> exact rfl) ?_))
  refine AWp.seq (AWp.seq (AWp.regionW T_ok rfl (WL.all (by simp (decide := true) only [EVs, EVt, Array.toList, e1] <;> exact rfl) ?_)))
  refine AWp.cond (t := false) rfl (AWp.skip ?_)
  refine AWp.seq (AWp.regionW T_ok rfl (WL.all (by simp (decide := true) only [EVs, EVt, Array.toList] <;> exact rfl) ?_))
  refine AWp.seq (AWp.seq (AWp.regionW T_ok rfl (WL.all (by simp (decide := true) only [EVs, EVt, Array.toList, e2] <;> exact rfl) ?_)))
  refine AWp.cond (t := false) rfl (AWp.skip ?_)
  refine AWp.seq (AWp.seq (AWp.regionW T_ok rfl (WL.all (by simp (decide := true) only [EVs, EVt, Array.toList, w1, e6] <;> exact rfl) ?_)))
  refine AWp.cond (t := false) rfl (AWp.skip ?_)
  refine AWp.seq (AWp.regionW T_ok rfl (WL.all (by simp (decide := true) only [EVs, EVt, Array.toList, w1, e4, hgr, Nat.sub_zero, Nat.zero_mul] <;> exact rfl) ?_))
  refine AWp.seq (AWp.seq (AWp.regionH rfl (HL.next T_ok 6 rfl rfl (by simp (decide := true) only [EVs, EVt, Array.toList, w3, e9, e11, e12, hgr] <;> exact rfl) ?_)))
  refine HL.apart (tS := 22) (tR := 4) T_ok rfl rfl rfl (by simp (decide := true) only [EVs, EVt, Array.toList] <;> exact rfl) (by simp (decide := true) only [EVs, EVt, Array.toList, calleeOf] <;> exact rfl) rfl Try.func82 (by kernel_rfl) (by kernel_rfl) (by kernel_rfl) (by kernel_rfl) T_prs rfl T_pr (by simp (decide := true) only [EVs, EVt, Array.toList] <;> exact rfl) (by simp (decide := true) only [EVs, EVt, Array.toList] <;> exact rfl) hkk hv hB (by simp) (by intro e; rw [e] at hne; simp at hne) ?_
  refine (HL.all T_ok (by simp (decide := true) only [EVs, EVt, Array.toList] <;> exact rfl) ?_)
  refine AWp.cond (t := true) rfl ?_
  refine AWp.seq (AWp.drawnX 8 T_ok mixed (by kernel_rfl) rfl rfl rfl (by simp (decide := true) only [EVs, EVt, Array.toList, w3, e5, e8, e9, e10, e11, e12, hgr] <;> exact rfl) rfl (by simp (decide := true) only [EVs, EVt, Array.toList] <;> exact rfl)
    (xexec_copy (bs := fl l ++ r) (cs := fl (l.drop i)) (bs' := fl (l.take i) ++ (t ++ (fl (l.drop i) ++ r.drop 2))) rfl rfl rfl rfl T_prs rfl T_pr (by simp (decide := true) only [EVs, EVt, Array.toList] <;> exact rfl) hB (by simp (decide := true) only [EVs, EVt, Array.toList, srcLen] <;> exact rfl)
      (by rw [m2]; exact src_bsl (sz := 2) (by simp (decide := true) only [EVs, EVt, Array.toList] <;> exact rfl) hB (by omega) (by rw [hlen]; omega) (fl_part l r i e3)) hne (by rw [hlen, fl_len, lb]; omega) n1) (by simp (decide := true) only [EVs, EVt, Array.toList] <;> exact rfl) ?_)
  refine AWp.seq (AWp.regionH rfl (HL.next T_ok 4 rfl rfl (by simp (decide := true) only [EVs, EVt, Array.toList, e5, e8, e10, hgr] <;> exact rfl) ?_))
  refine HL.x T_ok rfl (by simp (decide := true) only [EVs, EVt, Array.toList] <;> exact rfl) (xexec_copy (bs := fl (l.take i) ++ (t ++ (fl (l.drop i) ++ r.drop 2))) (cs := [u16 p.c, u8 p.l]) (bs' := fl (l.take i ++ p :: l.drop i) ++ r.drop 2) rfl rfl rfl rfl T_prs rfl T_pr (by simp (decide := true) only [EVs, EVt, Array.toList] <;> exact rfl) (upd_same _ _ _) (by simp (decide := true) only [EVs, EVt, Array.toList, srcLen] <;> exact rfl)
    (by rw [m1]; exact src_bsl (sz := 2) (by simp (decide := true) only [EVs, EVt, Array.toList] <;> exact rfl) ((upd_ne _ _ hkk).trans hv) (Nat.le_refl _) (Nat.le_refl _) rfl) (some_bs t1 h0) (by rw [t1]; show i * 2 + 2 ≤ _; omega) n2) (HL.nil ?_)
  refine AWp.seq (AWp.regionW T_ok rfl (WL.all (by simp (decide := true) only [EVs, EVt, Array.toList] <;> exact rfl) ?_))
  refine AWp.ret ⟨_, rfl, k, .inl rfl, .inr ⟨g, c, r.drop 2, ?_, upd_same _ _ _, t3, h0⟩, fun j hj hjk => (upd_ne _ _ hjk).trans (upd_ne _ _ hjk)⟩
  have : (l.take i ++ p :: l.drop i).length = l.length + 1 := by rw [List.length_append, la, List.length_cons, lb]; omega
  rw [this]; rfl

/-- A pair put in at a place. -/
theorem h_ins (l : List Pr) (p : Pr) (i : Nat) (hi : i ≤ l.length) (hl : l.length < 35184372087808) (D : Nat) (B : Nat → Nat × List AV) (L : Nat → Nat) (k : Nat) (x : AV) (hx : Hold B k x l) (hk : k < D) (kv gv : Nat) (hv : B kv = (gv, [u16 p.c, u8 p.l])) (hkv : kv < D) (hkk : kv ≠ k) :
    HCall Try.prog T 67 [x, i64 i, .bsl kv gv 0 1 1] B L (fun x B' L' => Ins D k (l.take i ++ p :: l.drop i) B x B') := by
  rcases hx with ⟨rfl, rfl⟩ | ⟨g, c, r, rfl, hB, hlen, h0⟩
  · have : i = 0 := by simpa using hi
    subst this
    exact h_ins0 p D B L k kv gv hv hkv
  · by_cases he : i = l.length
    · subst he
      have e : l.take l.length ++ p :: l.drop l.length = l ++ [p] := by rw [List.take_length, List.drop_length]
      rw [e]
      exact h_insE l p hl D B L k g c r hB hlen h0 hk kv gv hv hkv hkk
    · by_cases hr : l.length + 1 ≤ c
      · exact h_insR l p i (by omega) hl D B L k g c r hB hlen h0 hk kv gv hv hkv hkk hr
      · exact h_insG l p i (by omega) hl D B L k g c r hB hlen h0 hk kv gv hv hkv hkk (by omega)
end Go.Proofs.Ytopdgmjmpmkamaa.E
