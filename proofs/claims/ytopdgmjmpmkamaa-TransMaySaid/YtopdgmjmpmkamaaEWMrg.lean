/-
  Two labels walked through together (label.merge), and what is made of it: Flows, both, Rise. Walked in abstract values. Conditions: lengths, levels are bytes.
-/
import Derived.Test.YtopdgmjmpmkamaaE24
import Derived.Test.YtopdgmjmpmkamaaEWLev
namespace Go.Proofs.Ytopdgmjmpmkamaa.E
open Go Go.RowKit Go.Proofs.YtopdgmjmpmkamaaW.E
set_option linter.unusedVariables false
set_option linter.unusedSimpArgs false
set_option maxRecDepth 100000
set_option maxHeartbeats 4000000

theorem sp_mrg (g : FuncId) (caps : List AV) (da db : Int) (a b : List Pr) (ha : a.length ≤ 140737488351232) (hb : b.length ≤ 140737488351232) (I : List Tri → (Nat → Nat × List AV) → (Nat → Nat) → Prop)
    (hstay : ∀ done B L v w, I done B L → I done (upd (upd B 1003 v) 1004 w) L)
    (hstep : ∀ done t rest B L, mrgL da db a b = done ++ t :: rest → I done B L → HCall Try.prog T g ([u16 t.c, u8 t.x, u8 t.y] ++ caps) B L (fun _ B' L' => I (done ++ [t]) B' L' ∧ B' 1003 = B 1003 ∧ B' 1004 = B 1004))
    (B : Nat → Nat × List AV) (L : Nat → Nat) (h0 : I [] B L) : HCall Try.prog T 52 [lab da a, lab db b, .fn g caps] B L (fun _ B' L' => I (mrgL da db a b) B' L') := by
  refine hcall_of Try.func52 rfl rfl (Nat.le_of_ble_eq_true rfl) 1000 (fun base w0 => ?_)
  refine AWp.seq (AWp.regionW T_ok rfl (WL.all (by simp (decide := true) only [EVs, EVt, Array.toList] <;> exact rfl) ?_))
  refine AWp.scopeJ 0 (fun n st => ∃ (done : List Tri) (l m : List Pr) (s : Nat → AV) (B : Nat → Nat × List AV) (L : Nat → Nat) (g3 g4 : Nat), st = ⟨92, 1000, s, B, L⟩ ∧ mrgL da db a b = done ++ mrgL da db l m ∧ n = l.length + m.length ∧ l.length ≤ a.length ∧ m.length ≤ b.length ∧
    s 2 = .fn g caps ∧ s 3 = .ptr 1003 g3 0 ∧ B 1003 = (g3, [u8 da, lps a]) ∧ s 4 = .ptr 1004 g4 0 ∧ B 1004 = (g4, [u8 db, lps b]) ∧ s 6 = lps l ∧ s 7 = lps m ∧ I done B L) rfl ?_ (fun enter => ?_)
  · rintro n st ⟨done, l, m, s, B, L, g3, g4, rfl, hm, rfl, hl1, hl2, s2, s3, B3, s4, B4, s6, s7, hI⟩
    have w1 : IntKind.i64.wrap ((l.length : Int) + (m.length : Int)) = ((l.length + m.length : Nat) : Int) := by rw [IntWalk.i64_in _ (by omega)]; omega
    cases l with
    | nil =>
      cases m with
      | nil =>
        have e0 : eqI ((0 + 0 : Nat) : Int) 0 = true := rfl
        have w2 : IntKind.i64.wrap (((0 : Nat) : Int) + ((0 : Nat) : Int)) = ((0 + 0 : Nat) : Int) := rfl
        refine AWp.seq (AWp.seq (AWp.regionW T_ok rfl (WL.all (by simp (decide := true) only [EVs, EVt, Array.toList, s6, s7, w2, e0] <;> exact rfl) ?_)))
        refine AWp.cond (t := true) rfl (AWp.ret ⟨_, rfl, ?_⟩)
        have : mrgL da db a b = done := by rw [hm]; simp [mrgL]
        rw [this]
        exact hI
      | cons q m =>
        have ht : mrgL da db a b = done ++ (⟨q.c, da, q.l⟩ : Tri) :: mrgL da db [] m := by rw [hm, mrgL]
        have w2 : IntKind.i64.wrap (((0 : Nat) : Int) + ((m.length + 1 : Nat) : Int)) = ((0 + (m.length + 1) : Nat) : Int) := w1
        have e0 : eqI ((0 + (m.length + 1) : Nat) : Int) 0 = false := eqI_f (by omega)
        have e1 : eqI ((m.length + 1 : Nat) : Int) 0 = false := eqI_f (by omega)
        have e2 : ltI 0 ((0 : Nat) : Int) = false := rfl
        have e3 : eqI ((0 : Nat) : Int) 0 = true := rfl
        refine AWp.seq (AWp.seq (AWp.regionW T_ok rfl (WL.all (by simp (decide := true) only [EVs, EVt, Array.toList, s6, s7, w2, e0] <;> exact rfl) ?_)))
        refine AWp.cond (t := false) rfl (AWp.skip ?_)
        refine AWp.seq (AWp.drawnW T_ok mixed (by kernel_rfl) rfl (WL.all (by simp (decide := true) only [EVs, EVt, Array.toList, s3, B3, s4, B4] <;> exact rfl) ?_))
        refine AWp.seq (AWp.drawnW T_ok mixed (by kernel_rfl) rfl (WL.all (by simp (decide := true) only [EVs, EVt, Array.toList, s6, s7, e1, e2] <;> exact rfl) ?_))
        refine AWp.seq (AWp.drawnW T_ok mixed (by kernel_rfl) rfl (WL.all (by simp (decide := true) only [EVs, EVt, Array.toList, s6, s7, e1, e2, e3] <;> exact rfl) ?_))
        refine AWp.seq (AWp.regionW T_ok rfl (WL.all (by simp (decide := true) only [EVs, EVt, Array.toList] <;> exact rfl) ?_))
        refine AWp.seq (AWp.seq (AWp.regionW T_ok rfl (WL.all (by simp (decide := true) only [EVs, EVt, Array.toList] <;> exact rfl) ?_)))
        refine AWp.cond (t := true) rfl (AWp.drawnW T_ok mixed (by kernel_rfl) rfl (WL.all (by simp (decide := true) only [EVs, EVt, Array.toList, s7] <;> exact rfl) ?_))
        refine AWp.seq (AWp.seq (AWp.regionW T_ok rfl (WL.all (by simp (decide := true) only [EVs, EVt, Array.toList] <;> exact rfl) ?_)))
        refine AWp.cond (t := false) rfl (AWp.skip ?_)
        refine AWp.seq (AWp.regionH rfl (HL.next T_ok 4 rfl rfl (by simp (decide := true) only [EVs, EVt, Array.toList, s2] <;> exact rfl) ?_))
        refine HL.h T_ok rfl rfl rfl (by simp (decide := true) only [EVs, EVt, Array.toList] <;> exact rfl) (by simp (decide := true) only [EVs, EVt, Array.toList, calleeOf] <;> exact rfl) (by simp (decide := true) only [EVs, EVt, Array.toList] <;> exact rfl) (hstep done ⟨q.c, da, q.l⟩ _ _ _ ht hI) (fun r B' L' hR => ?_)
        obtain ⟨hI', h3, h4⟩ := hR
        refine HL.nil (AWp.goto ⟨rfl, 0 + m.length, by simp, done ++ [⟨q.c, da, q.l⟩], [], m, _, _, _, g3, g4, rfl, ?_, rfl, by simp, by simp at hl2; omega, ?_, ?_, ?_, ?_, ?_, ?_, ?_, hI'⟩)
        · rw [hm, mrgL, List.append_assoc]; rfl
        · simp (decide := true) only [EVs, EVt, Array.toList, s2]
        · simp (decide := true) only [EVs, EVt, Array.toList, s3]
        · rw [h3]; exact B3
        · simp (decide := true) only [EVs, EVt, Array.toList, s4]
        · rw [h4]; exact B4
        · simp (decide := true) only [EVs, EVt, Array.toList, s6]
        · simp (decide := true) only [EVs, EVt, Array.toList]
    | cons p l =>
      cases m with
      | nil =>
        have ht : mrgL da db a b = done ++ (⟨p.c, p.l, db⟩ : Tri) :: mrgL da db l [] := by rw [hm, mrgL]
        have w2 : IntKind.i64.wrap (((l.length + 1 : Nat) : Int) + ((0 : Nat) : Int)) = ((l.length + 1 + 0 : Nat) : Int) := w1
        have e0 : eqI ((l.length + 1 + 0 : Nat) : Int) 0 = false := eqI_f (by omega)
        have e1 : eqI ((l.length + 1 : Nat) : Int) 0 = false := eqI_f (by omega)
        have e2 : ltI 0 ((0 : Nat) : Int) = false := rfl
        have e3 : eqI ((0 : Nat) : Int) 0 = true := rfl
        refine AWp.seq (AWp.seq (AWp.regionW T_ok rfl (WL.all (by simp (decide := true) only [EVs, EVt, Array.toList, s6, s7, w2, e0] <;> exact rfl) ?_)))
        refine AWp.cond (t := false) rfl (AWp.skip ?_)
        refine AWp.seq (AWp.drawnW T_ok mixed (by kernel_rfl) rfl (WL.all (by simp (decide := true) only [EVs, EVt, Array.toList, s3, B3, s4, B4] <;> exact rfl) ?_))
        refine AWp.seq (AWp.drawnW T_ok mixed (by kernel_rfl) rfl (WL.all (by simp (decide := true) only [EVs, EVt, Array.toList, s6, s7, e1, e2, e3] <;> exact rfl) ?_))
        refine AWp.seq (AWp.drawnW T_ok mixed (by kernel_rfl) rfl (WL.all (by simp (decide := true) only [EVs, EVt, Array.toList, s6, s7, e1, e2, e3] <;> exact rfl) ?_))
        refine AWp.seq (AWp.regionW T_ok rfl (WL.all (by simp (decide := true) only [EVs, EVt, Array.toList] <;> exact rfl) ?_))
        refine AWp.seq (AWp.seq (AWp.regionW T_ok rfl (WL.all (by simp (decide := true) only [EVs, EVt, Array.toList] <;> exact rfl) ?_)))
        refine AWp.cond (t := false) rfl (AWp.skip ?_)
        refine AWp.seq (AWp.seq (AWp.regionW T_ok rfl (WL.all (by simp (decide := true) only [EVs, EVt, Array.toList] <;> exact rfl) ?_)))
        refine AWp.cond (t := true) rfl (AWp.drawnW T_ok mixed (by kernel_rfl) rfl (WL.all (by simp (decide := true) only [EVs, EVt, Array.toList, s6] <;> exact rfl) ?_))
        refine AWp.seq (AWp.regionH rfl (HL.next T_ok 4 rfl rfl (by simp (decide := true) only [EVs, EVt, Array.toList, s2] <;> exact rfl) ?_))
        refine HL.h T_ok rfl rfl rfl (by simp (decide := true) only [EVs, EVt, Array.toList] <;> exact rfl) (by simp (decide := true) only [EVs, EVt, Array.toList, calleeOf] <;> exact rfl) (by simp (decide := true) only [EVs, EVt, Array.toList] <;> exact rfl) (hstep done ⟨p.c, p.l, db⟩ _ _ _ ht hI) (fun r B' L' hR => ?_)
        obtain ⟨hI', h3, h4⟩ := hR
        refine HL.nil (AWp.goto ⟨rfl, l.length + 0, by simp, done ++ [⟨p.c, p.l, db⟩], l, [], _, _, _, g3, g4, rfl, ?_, rfl, by simp at hl1; omega, by simp, ?_, ?_, ?_, ?_, ?_, ?_, ?_, hI'⟩)
        · rw [hm, mrgL, List.append_assoc]; rfl
        · simp (decide := true) only [EVs, EVt, Array.toList, s2]
        · simp (decide := true) only [EVs, EVt, Array.toList, s3]
        · rw [h3]; exact B3
        · simp (decide := true) only [EVs, EVt, Array.toList, s4]
        · rw [h4]; exact B4
        · simp (decide := true) only [EVs, EVt, Array.toList]
        · simp (decide := true) only [EVs, EVt, Array.toList, s7]
      | cons q m =>
        have w2 : IntKind.i64.wrap (((l.length + 1 : Nat) : Int) + ((m.length + 1 : Nat) : Int)) = ((l.length + 1 + (m.length + 1) : Nat) : Int) := w1
        have e0 : eqI ((l.length + 1 + (m.length + 1) : Nat) : Int) 0 = false := eqI_f (by omega)
        have e1 : eqI ((l.length + 1 : Nat) : Int) 0 = false := eqI_f (by omega)
        have e2 : ltI 0 ((l.length + 1 : Nat) : Int) = true := ltI_t (by omega)
        have e3 : eqI ((m.length + 1 : Nat) : Int) 0 = false := eqI_f (by omega)
        have e4 : ltI 0 ((m.length + 1 : Nat) : Int) = true := ltI_t (by omega)
        refine AWp.seq (AWp.seq (AWp.regionW T_ok rfl (WL.all (by simp (decide := true) only [EVs, EVt, Array.toList, s6, s7, w2, e0] <;> exact rfl) ?_)))
        refine AWp.cond (t := false) rfl (AWp.skip ?_)
        refine AWp.seq (AWp.drawnW T_ok mixed (by kernel_rfl) rfl (WL.all (by simp (decide := true) only [EVs, EVt, Array.toList, s3, B3, s4, B4] <;> exact rfl) ?_))
        by_cases hlt : p.c < q.c
        · have f1 : leI p.c q.c = true := leI_t (by omega)
          have f2 : leI q.c p.c = false := leI_f (by omega)
          have ht : mrgL da db a b = done ++ (⟨p.c, p.l, db⟩ : Tri) :: mrgL da db l (q :: m) := by rw [hm, mrgL, if_pos hlt]
          refine AWp.seq (AWp.drawnW T_ok mixed (by kernel_rfl) rfl (WL.all (by simp (decide := true) only [EVs, EVt, Array.toList, s6, s7, e1, e2, e3, e4, f1, f2] <;> exact rfl) ?_))
          refine AWp.seq (AWp.drawnW T_ok mixed (by kernel_rfl) rfl (WL.all (by simp (decide := true) only [EVs, EVt, Array.toList, s6, s7, e1, e2, e3, e4, f1, f2] <;> exact rfl) ?_))
          refine AWp.seq (AWp.regionW T_ok rfl (WL.all (by simp (decide := true) only [EVs, EVt, Array.toList] <;> exact rfl) ?_))
          refine AWp.seq (AWp.seq (AWp.regionW T_ok rfl (WL.all (by simp (decide := true) only [EVs, EVt, Array.toList] <;> exact rfl) ?_)))
          refine AWp.cond (t := false) rfl (AWp.skip ?_)
          refine AWp.seq (AWp.seq (AWp.regionW T_ok rfl (WL.all (by simp (decide := true) only [EVs, EVt, Array.toList] <;> exact rfl) ?_)))
          refine AWp.cond (t := true) rfl (AWp.drawnW T_ok mixed (by kernel_rfl) rfl (WL.all (by simp (decide := true) only [EVs, EVt, Array.toList, s6] <;> exact rfl) ?_))
          refine AWp.seq (AWp.regionH rfl (HL.next T_ok 4 rfl rfl (by simp (decide := true) only [EVs, EVt, Array.toList, s2] <;> exact rfl) ?_))
          refine HL.h T_ok rfl rfl rfl (by simp (decide := true) only [EVs, EVt, Array.toList] <;> exact rfl) (by simp (decide := true) only [EVs, EVt, Array.toList, calleeOf] <;> exact rfl) (by simp (decide := true) only [EVs, EVt, Array.toList] <;> exact rfl) (hstep done ⟨p.c, p.l, db⟩ _ _ _ ht hI) (fun r B' L' hR => ?_)
          obtain ⟨hI', h3, h4⟩ := hR
          refine HL.nil (AWp.goto ⟨rfl, l.length + (q :: m).length, by simp, done ++ [⟨p.c, p.l, db⟩], l, q :: m, _, _, _, g3, g4, rfl, ?_, rfl, by simp at hl1; omega, by simpa using hl2, ?_, ?_, ?_, ?_, ?_, ?_, ?_, hI'⟩)
          · rw [hm, mrgL, if_pos hlt, List.append_assoc]; rfl
          · simp (decide := true) only [EVs, EVt, Array.toList, s2]
          · simp (decide := true) only [EVs, EVt, Array.toList, s3]
          · rw [h3]; exact B3
          · simp (decide := true) only [EVs, EVt, Array.toList, s4]
          · rw [h4]; exact B4
          · simp (decide := true) only [EVs, EVt, Array.toList]
          · simp (decide := true) only [EVs, EVt, Array.toList, s7]
        · by_cases hgt : q.c < p.c
          · have f1 : leI p.c q.c = false := leI_f (by omega)
            have f2 : leI q.c p.c = true := leI_t (by omega)
            have ht : mrgL da db a b = done ++ (⟨q.c, da, q.l⟩ : Tri) :: mrgL da db (p :: l) m := by rw [hm, mrgL, if_neg hlt, if_pos hgt]
            refine AWp.seq (AWp.drawnW T_ok mixed (by kernel_rfl) rfl (WL.all (by simp (decide := true) only [EVs, EVt, Array.toList, s6, s7, e1, e2, e3, e4, f1, f2] <;> exact rfl) ?_))
            refine AWp.seq (AWp.drawnW T_ok mixed (by kernel_rfl) rfl (WL.all (by simp (decide := true) only [EVs, EVt, Array.toList, s6, s7, e1, e2, e3, e4, f1, f2] <;> exact rfl) ?_))
            refine AWp.seq (AWp.regionW T_ok rfl (WL.all (by simp (decide := true) only [EVs, EVt, Array.toList] <;> exact rfl) ?_))
            refine AWp.seq (AWp.seq (AWp.regionW T_ok rfl (WL.all (by simp (decide := true) only [EVs, EVt, Array.toList] <;> exact rfl) ?_)))
            refine AWp.cond (t := true) rfl (AWp.drawnW T_ok mixed (by kernel_rfl) rfl (WL.all (by simp (decide := true) only [EVs, EVt, Array.toList, s7] <;> exact rfl) ?_))
            refine AWp.seq (AWp.seq (AWp.regionW T_ok rfl (WL.all (by simp (decide := true) only [EVs, EVt, Array.toList] <;> exact rfl) ?_)))
            refine AWp.cond (t := false) rfl (AWp.skip ?_)
            refine AWp.seq (AWp.regionH rfl (HL.next T_ok 4 rfl rfl (by simp (decide := true) only [EVs, EVt, Array.toList, s2] <;> exact rfl) ?_))
            refine HL.h T_ok rfl rfl rfl (by simp (decide := true) only [EVs, EVt, Array.toList] <;> exact rfl) (by simp (decide := true) only [EVs, EVt, Array.toList, calleeOf] <;> exact rfl) (by simp (decide := true) only [EVs, EVt, Array.toList] <;> exact rfl) (hstep done ⟨q.c, da, q.l⟩ _ _ _ ht hI) (fun r B' L' hR => ?_)
            obtain ⟨hI', h3, h4⟩ := hR
            refine HL.nil (AWp.goto ⟨rfl, (p :: l).length + m.length, by simp only [List.length_cons]; omega, done ++ [⟨q.c, da, q.l⟩], p :: l, m, _, _, _, g3, g4, rfl, ?_, rfl, by simpa using hl1, by simp at hl2; omega, ?_, ?_, ?_, ?_, ?_, ?_, ?_, hI'⟩)
            · rw [hm, mrgL, if_neg hlt, if_pos hgt, List.append_assoc]; rfl
            · simp (decide := true) only [EVs, EVt, Array.toList, s2]
            · simp (decide := true) only [EVs, EVt, Array.toList, s3]
            · rw [h3]; exact B3
            · simp (decide := true) only [EVs, EVt, Array.toList, s4]
            · rw [h4]; exact B4
            · simp (decide := true) only [EVs, EVt, Array.toList, s6]
            · simp (decide := true) only [EVs, EVt, Array.toList]
          · have f1 : leI p.c q.c = true := leI_t (by omega)
            have f2 : leI q.c p.c = true := leI_t (by omega)
            have ht : mrgL da db a b = done ++ (⟨p.c, p.l, q.l⟩ : Tri) :: mrgL da db l m := by rw [hm, mrgL, if_neg hlt, if_neg hgt]
            refine AWp.seq (AWp.drawnW T_ok mixed (by kernel_rfl) rfl (WL.all (by simp (decide := true) only [EVs, EVt, Array.toList, s6, s7, e1, e2, e3, e4, f1, f2] <;> exact rfl) ?_))
            refine AWp.seq (AWp.drawnW T_ok mixed (by kernel_rfl) rfl (WL.all (by simp (decide := true) only [EVs, EVt, Array.toList, s6, s7, e1, e2, e3, e4, f1, f2] <;> exact rfl) ?_))
            refine AWp.seq (AWp.regionW T_ok rfl (WL.all (by simp (decide := true) only [EVs, EVt, Array.toList] <;> exact rfl) ?_))
            refine AWp.seq (AWp.seq (AWp.regionW T_ok rfl (WL.all (by simp (decide := true) only [EVs, EVt, Array.toList] <;> exact rfl) ?_)))
            refine AWp.cond (t := true) rfl (AWp.drawnW T_ok mixed (by kernel_rfl) rfl (WL.all (by simp (decide := true) only [EVs, EVt, Array.toList, s7] <;> exact rfl) ?_))
            refine AWp.seq (AWp.seq (AWp.regionW T_ok rfl (WL.all (by simp (decide := true) only [EVs, EVt, Array.toList] <;> exact rfl) ?_)))
            refine AWp.cond (t := true) rfl (AWp.drawnW T_ok mixed (by kernel_rfl) rfl (WL.all (by simp (decide := true) only [EVs, EVt, Array.toList, s6] <;> exact rfl) ?_))
            refine AWp.seq (AWp.regionH rfl (HL.next T_ok 4 rfl rfl (by simp (decide := true) only [EVs, EVt, Array.toList, s2] <;> exact rfl) ?_))
            refine HL.h T_ok rfl rfl rfl (by simp (decide := true) only [EVs, EVt, Array.toList] <;> exact rfl) (by simp (decide := true) only [EVs, EVt, Array.toList, calleeOf] <;> exact rfl) (by simp (decide := true) only [EVs, EVt, Array.toList] <;> exact rfl) (hstep done ⟨p.c, p.l, q.l⟩ _ _ _ ht hI) (fun r B' L' hR => ?_)
            obtain ⟨hI', h3, h4⟩ := hR
            refine HL.nil (AWp.goto ⟨rfl, l.length + m.length, by simp only [List.length_cons]; omega, done ++ [⟨p.c, p.l, q.l⟩], l, m, _, _, _, g3, g4, rfl, ?_, rfl, by simp at hl1; omega, by simp at hl2; omega, ?_, ?_, ?_, ?_, ?_, ?_, ?_, hI'⟩)
            · rw [hm, mrgL, if_neg hlt, if_neg hgt, List.append_assoc]; rfl
            · simp (decide := true) only [EVs, EVt, Array.toList, s2]
            · simp (decide := true) only [EVs, EVt, Array.toList, s3]
            · rw [h3]; exact B3
            · simp (decide := true) only [EVs, EVt, Array.toList, s4]
            · rw [h4]; exact B4
            · simp (decide := true) only [EVs, EVt, Array.toList]
            · simp (decide := true) only [EVs, EVt, Array.toList]
  · refine AWp.seq (AWp.drawnW T_ok mixed (by kernel_rfl) rfl (WL.all (by simp (decide := true) only [EVs, EVt, Array.toList] <;> exact rfl) ?_))
    refine AWp.seq (AWp.label (enter _ _ ⟨[], a, b, _, _, _, (B 1003).1 + 1, (B 1004).1 + 1, rfl, rfl, rfl, Nat.le_refl _, Nat.le_refl _, ?_, ?_, ?_, ?_, ?_, ?_, ?_, hstay _ _ _ _ _ h0⟩))
    · simp (decide := true) only [EVs, EVt, Array.toList] <;> rfl
    · simp (decide := true) only [EVs, EVt, Array.toList] <;> rfl
    · simp (decide := true) only [EVs, EVt, Array.toList] <;> rfl
    · simp (decide := true) only [EVs, EVt, Array.toList] <;> rfl
    · simp (decide := true) only [EVs, EVt, Array.toList] <;> rfl
    · simp (decide := true) only [EVs, EVt, Array.toList] <;> rfl
    · simp (decide := true) only [EVs, EVt, Array.toList] <;> rfl

theorem mrgL_lv {da db : Int} {a b : List Pr} {q : Int → Prop} (hda : q da) (hdb : q db) (ha : ∀ p ∈ a, q p.l) (hb : ∀ p ∈ b, q p.l) : ∀ t ∈ mrgL da db a b, q t.x ∧ q t.y := by
  revert ha hb
  fun_induction mrgL da db a b with
  | case1 => intro _ _ t h; cases h
  | case2 p l ih =>
    intro ha hb t h
    rcases List.mem_cons.1 h with rfl | h
    · exact ⟨ha _ List.mem_cons_self, hdb⟩
    · exact ih (fun r hr => ha r (List.mem_cons_of_mem _ hr)) hb t h
  | case3 r m ih =>
    intro ha hb t h
    rcases List.mem_cons.1 h with rfl | h
    · exact ⟨hda, hb _ List.mem_cons_self⟩
    · exact ih ha (fun r hr => hb r (List.mem_cons_of_mem _ hr)) t h
  | case4 p l r m h1 ih =>
    intro ha hb t h
    rcases List.mem_cons.1 h with rfl | h
    · exact ⟨ha _ List.mem_cons_self, hdb⟩
    · exact ih (fun r hr => ha r (List.mem_cons_of_mem _ hr)) hb t h
  | case5 p l r m h1 h2 ih =>
    intro ha hb t h
    rcases List.mem_cons.1 h with rfl | h
    · exact ⟨hda, hb _ List.mem_cons_self⟩
    · exact ih ha (fun r hr => hb r (List.mem_cons_of_mem _ hr)) t h
  | case6 p l r m h1 h2 ih =>
    intro ha hb t h
    rcases List.mem_cons.1 h with rfl | h
    · exact ⟨ha _ List.mem_cons_self, hb _ List.mem_cons_self⟩
    · exact ih (fun r hr => ha r (List.mem_cons_of_mem _ hr)) (fun r hr => hb r (List.mem_cons_of_mem _ hr)) t h

theorem sp_Flows1 (c x y : Int) (hx : 0 ≤ x) (hy : 0 ≤ y) (is : Bool) (B : Nat → Nat × List AV) (L : Nat → Nat) (hB : B 5 = (1, [bo is])) :
    HCall Try.prog T 53 [u16 c, u8 x, u8 y, .ptr 5 1 0] B L (fun _ B' _ => B' = upd B 5 (1, [bo (is && leI x y)])) := by
  refine hcall_of Try.func53 rfl rfl (Nat.le_of_ble_eq_true rfl) 2000 (fun base w0 => ?_)
  cases is with
  | true =>
    refine (AWp.regionW T_ok rfl ?_)
    (repeat (first | refine WL.c rfl rfl rfl (by simp (decide := true) only [EVs, EVt, Array.toList, hB] <;> exact rfl) (by simp (decide := true) only [EVs, EVt, Array.toList, calleeOf, hB] <;> exact rfl) (by simp (decide := true) only [EVs, EVt, Array.toList, argsOf, frz, hB] <;> exact rfl) (by first | exact sp_LvFlows x y hx hy) rfl ?_ | refine WL.f rfl rfl rfl (by simp (decide := true) only [EVs, EVt, Array.toList, hB] <;> exact rfl) (by simp (decide := true) only [EVs, EVt, Array.toList, calleeOf, hB] <;> exact rfl) (by simp (decide := true) only [EVs, EVt, Array.toList, argsOf, frz, hB] <;> exact rfl) (by first | exact sp_LvFlows x y hx hy) ?_ | refine WL.one (by simp (decide := true) only [EVs, EVt, Array.toList, hB] <;> exact rfl) ?_)); refine WL.nil ?_
    exact ⟨_, rfl, rfl⟩
  | false =>
    refine (AWp.regionW T_ok rfl ?_)
    (repeat (first | refine WL.c rfl rfl rfl (by simp (decide := true) only [EVs, EVt, Array.toList, hB] <;> exact rfl) (by simp (decide := true) only [EVs, EVt, Array.toList, calleeOf, hB] <;> exact rfl) (by simp (decide := true) only [EVs, EVt, Array.toList, argsOf, frz, hB] <;> exact rfl) (by first | exact sp_LvFlows x y hx hy) rfl ?_ | refine WL.f rfl rfl rfl (by simp (decide := true) only [EVs, EVt, Array.toList, hB] <;> exact rfl) (by simp (decide := true) only [EVs, EVt, Array.toList, calleeOf, hB] <;> exact rfl) (by simp (decide := true) only [EVs, EVt, Array.toList, argsOf, frz, hB] <;> exact rfl) (by first | exact sp_LvFlows x y hx hy) ?_ | refine WL.one (by simp (decide := true) only [EVs, EVt, Array.toList, hB] <;> exact rfl) ?_)); refine WL.nil ?_
    exact ⟨_, rfl, rfl⟩
theorem sp_LFlows (da : Int) (a : List Pr) (db : Int) (b : List Pr) (ha : a.length ≤ 140737488351232) (hb : b.length ≤ 140737488351232) (hda : 0 ≤ da) (hdb : 0 ≤ db) (hla : ∀ p ∈ a, 0 ≤ p.l) (hlb : ∀ p ∈ b, 0 ≤ p.l) :
    ACall Try.prog 24 [lab da a, lab db b] (bo (flw da a db b)) := by
  refine acall_of Try.func24 rfl rfl (Nat.le_of_ble_eq_true rfl) T_ok (fun base w0 => ?_)
  refine AWp.seq (AWp.regionW T_ok rfl (WL.all (by simp (decide := true) only [EVs, EVt, Array.toList] <;> exact rfl) ?_))
  refine AWp.seq (AWp.regionW T_ok rfl ?_)
  (repeat (first | refine WL.c rfl rfl rfl (by simp (decide := true) only [EVs, EVt, Array.toList] <;> exact rfl) (by simp (decide := true) only [EVs, EVt, Array.toList, calleeOf] <;> exact rfl) (by simp (decide := true) only [EVs, EVt, Array.toList, argsOf, frz] <;> exact rfl) (by first | exact sp_LvFlows da db hda hdb) rfl ?_ | refine WL.f rfl rfl rfl (by simp (decide := true) only [EVs, EVt, Array.toList] <;> exact rfl) (by simp (decide := true) only [EVs, EVt, Array.toList, calleeOf] <;> exact rfl) (by simp (decide := true) only [EVs, EVt, Array.toList, argsOf, frz] <;> exact rfl) (by first | exact sp_LvFlows da db hda hdb) ?_ | refine WL.one (by simp (decide := true) only [EVs, EVt, Array.toList] <;> exact rfl) ?_)); refine WL.nil ?_
  have hlv := mrgL_lv (q := fun x => 0 ≤ x) hda hdb hla hlb
  refine AWp.seq (AWp.regionH rfl (HL.next T_ok 3 rfl rfl (by simp (decide := true) only [EVs, EVt, Array.toList] <;> exact rfl) ?_))
  refine HL.h T_ok rfl rfl rfl (by simp (decide := true) only [EVs, EVt, Array.toList] <;> exact rfl) (by simp (decide := true) only [EVs, EVt, Array.toList, calleeOf] <;> exact rfl) (by simp (decide := true) only [EVs, EVt, Array.toList] <;> exact rfl) (sp_mrg 53 [.ptr 5 1 0] da db a b ha hb (fun done B _ => B 5 = (1, [bo (leI da db && done.all fun t => decide (t.x ≤ t.y))])) (fun done B L v w h => by rw [upd_ne _ _ (by decide), upd_ne _ _ (by decide)]; exact h) (fun done t rest B L ht h => by
    have hm := hlv t (by rw [ht]; exact List.mem_append_right _ List.mem_cons_self)
    refine (sp_Flows1 t.c t.x t.y hm.1 hm.2 _ B L h).mono fun r B' L' h' => ?_
    subst h'
    refine ⟨?_, rfl, rfl⟩
    rw [upd_same]
    simp [List.all_append, leI, Bool.and_assoc]) _ _ (by rw [upd_same, List.all_nil, Bool.and_true])) (fun r B' L' hR => ?_)
  refine HL.nil ?_
  refine AWp.seq (AWp.regionW T_ok rfl (WL.all (by simp (decide := true) only [EVs, EVt, Array.toList, hR] <;> exact rfl) ?_))
  exact AWp.ret ⟨_, rfl, .inl (.refl _)⟩

def bthT (h : Int → Int → Int) (v : Int) (ts : List Tri) : List Pr := ts.filterMap fun t => if h t.x t.y = v then none else some ⟨t.c, h t.x t.y⟩
theorem bthT_len (h : Int → Int → Int) (v : Int) (ts : List Tri) : (bthT h v ts).length ≤ ts.length := List.length_filterMap_le _ _
/-- What holds of the boxes of 'both' while the closure is called. -/
def BothI (g : FuncId) (h : Int → Int → Int) (v : Int) (done : List Tri) (B : Nat → Nat × List AV) (L : Nat → Nat) : Prop :=
  B 5 = (1, [.fn g []]) ∧ B 6 = (1, [u8 0, .list 2 [] .full]) ∧ ∃ u, B 7 = (1, [u8 v, u]) ∧ Acc L u 2 ((bthT h v done).map prA)
theorem sp_both1 (g : FuncId) (h : Int → Int → Int) (v : Int) (done : List Tri) (t : Tri) (hg : ACall Try.prog g [u8 t.x, u8 t.y] (u8 (h t.x t.y))) (hlen : done.length ≤ 1000000) (B : Nat → Nat × List AV) (L : Nat → Nat) (hI : BothI g h v done B L) :
    HCall Try.prog T 73 [u16 t.c, u8 t.x, u8 t.y, .ptr 5 1 0, .ptr 7 1 0] B L (fun _ B' L' => BothI g h v (done ++ [t]) B' L' ∧ B' 1003 = B 1003 ∧ B' 1004 = B 1004) := by
  obtain ⟨B5, B6, u, B7, hA⟩ := hI
  have hl := bthT_len h v done
  refine hcall_of Try.func73 rfl rfl (Nat.le_of_ble_eq_true rfl) 2000 (fun base w0 => ?_)
  refine AWp.seq (AWp.regionW T_ok rfl ?_)
  (repeat (first | refine WL.c rfl rfl rfl (by simp (decide := true) only [EVs, EVt, Array.toList, B5, B7] <;> exact rfl) (by simp (decide := true) only [EVs, EVt, Array.toList, calleeOf, B5, B7] <;> exact rfl) (by simp (decide := true) only [EVs, EVt, Array.toList, argsOf, frz, B5, B7] <;> exact rfl) (by first | exact hg) rfl ?_ | refine WL.f rfl rfl rfl (by simp (decide := true) only [EVs, EVt, Array.toList, B5, B7] <;> exact rfl) (by simp (decide := true) only [EVs, EVt, Array.toList, calleeOf, B5, B7] <;> exact rfl) (by simp (decide := true) only [EVs, EVt, Array.toList, argsOf, frz, B5, B7] <;> exact rfl) (by first | exact hg) ?_ | refine WL.one (by simp (decide := true) only [EVs, EVt, Array.toList, B5, B7] <;> exact rfl) ?_)); refine WL.nil ?_
  by_cases he : h t.x t.y = v
  · have c1 : eqI (h t.x t.y) v = true := eqI_t he
    refine AWp.seq (AWp.regionW T_ok rfl (WL.all (by simp (decide := true) only [EVs, EVt, Array.toList, B7, c1] <;> exact rfl) ?_))
    refine AWp.cond (t := false) rfl (AWp.skip ⟨_, rfl, ⟨B5, B6, u, B7, ?_⟩, rfl, rfl⟩)
    have : bthT h v (done ++ [t]) = bthT h v done := by simp [bthT, he]
    rw [this]
    exact hA
  · have c1 : eqI (h t.x t.y) v = false := eqI_f he
    refine AWp.seq (AWp.regionW T_ok rfl (WL.all (by simp (decide := true) only [EVs, EVt, Array.toList, B7, c1] <;> exact rfl) ?_))
    refine AWp.cond (t := true) rfl (AWp.regionW T_ok rfl (WL.next 6 rfl rfl (by simp (decide := true) only [EVs, EVt, Array.toList, B7] <;> exact rfl) ?_))
    refine WL.acc (e := 40) (xs := (bthT h v done).map prA) (ys := [prA ⟨t.c, h t.x t.y⟩]) (sy := 2) (oy := .full) rfl rfl rfl rfl rfl rfl rfl T_prs rfl T_pr (by simp (decide := true) only [EVs, EVt, Array.toList]; exact hA) (by simp (decide := true) only [EVs, EVt, Array.toList]) (.inl rfl) (by simp; omega) (by decide) (fun v1 L1 hA1 => ?_)
    have hA1' := hA1
    obtain ⟨o1, sx1, rfl, _⟩ := hA1
    refine (WL.all (by simp (decide := true) only [EVs, EVt, Array.toList, B7] <;> exact rfl) ?_)
    refine ⟨_, rfl, ⟨?_, ?_, .list sx1 ((bthT h v done).map prA ++ [prA ⟨t.c, h t.x t.y⟩]) o1, ?_, ?_⟩, ?_, ?_⟩
    · simp (decide := true) only [EVs, EVt, Array.toList, B5]
    · simp (decide := true) only [EVs, EVt, Array.toList, B6]
    · simp (decide := true) only [EVs, EVt, Array.toList]
    · have : bthT h v (done ++ [t]) = bthT h v done ++ [⟨t.c, h t.x t.y⟩] := by simp [bthT, he]
      rw [this, List.map_append]
      exact hA1'
    · simp (decide := true) only [EVs, EVt, Array.toList]
    · simp (decide := true) only [EVs, EVt, Array.toList]
theorem sp_both (g : FuncId) (h : Int → Int → Int) (q : Int → Prop) (hg : ∀ x y, q x → q y → ACall Try.prog g [u8 x, u8 y] (u8 (h x y))) (da : Int) (a : List Pr) (db : Int) (b : List Pr) (ha : a.length ≤ 500000) (hb : b.length ≤ 500000)
    (hda : q da) (hdb : q db) (hla : ∀ p ∈ a, q p.l) (hlb : ∀ p ∈ b, q p.l) : ACall Try.prog 49 [lab da a, lab db b, .fn g []] (lab (h da db) (bthL h da a db b)) := by
  refine acall_of Try.func49 rfl rfl (Nat.le_of_ble_eq_true rfl) T_ok (fun base w0 => ?_)
  refine AWp.seq (AWp.regionW T_ok rfl (WL.all (by simp (decide := true) only [EVs, EVt, Array.toList] <;> exact rfl) ?_))
  refine AWp.seq (AWp.regionW T_ok rfl ?_)
  (repeat (first | refine WL.c rfl rfl rfl (by simp (decide := true) only [EVs, EVt, Array.toList] <;> exact rfl) (by simp (decide := true) only [EVs, EVt, Array.toList, calleeOf] <;> exact rfl) (by simp (decide := true) only [EVs, EVt, Array.toList, argsOf, frz] <;> exact rfl) (by first | exact hg da db hda hdb) rfl ?_ | refine WL.f rfl rfl rfl (by simp (decide := true) only [EVs, EVt, Array.toList] <;> exact rfl) (by simp (decide := true) only [EVs, EVt, Array.toList, calleeOf] <;> exact rfl) (by simp (decide := true) only [EVs, EVt, Array.toList, argsOf, frz] <;> exact rfl) (by first | exact hg da db hda hdb) ?_ | refine WL.one (by simp (decide := true) only [EVs, EVt, Array.toList] <;> exact rfl) ?_)); refine WL.nil ?_
  have hlv := mrgL_lv (q := q) hda hdb hla hlb
  have hlen := mrgL_len da db a b
  refine AWp.seq (AWp.regionH rfl (HL.next T_ok 3 rfl rfl (by simp (decide := true) only [EVs, EVt, Array.toList] <;> exact rfl) ?_))
  refine HL.h T_ok rfl rfl rfl (by simp (decide := true) only [EVs, EVt, Array.toList] <;> exact rfl) (by simp (decide := true) only [EVs, EVt, Array.toList, calleeOf] <;> exact rfl) (by simp (decide := true) only [EVs, EVt, Array.toList] <;> exact rfl) (sp_mrg 73 [.ptr 5 1 0, .ptr 7 1 0] da db a b (by omega) (by omega) (BothI g h (h da db)) (fun done B L v w hI => by
    obtain ⟨B5, B6, u, B7, hA⟩ := hI
    exact ⟨by rw [upd_ne _ _ (by decide), upd_ne _ _ (by decide)]; exact B5, by rw [upd_ne _ _ (by decide), upd_ne _ _ (by decide)]; exact B6, u, by rw [upd_ne _ _ (by decide), upd_ne _ _ (by decide)]; exact B7, hA⟩) (fun done t rest B L ht hI => by
    have hm := hlv t (by rw [ht]; exact List.mem_append_right _ List.mem_cons_self)
    have hl := congrArg List.length ht
    rw [List.length_append] at hl
    exact sp_both1 g h (h da db) done t (hg _ _ hm.1 hm.2) (by omega) B L hI) _ _ ⟨rfl, rfl, .list 2 [] .full, rfl, ⟨_, _, rfl, .inl ⟨rfl, .inl rfl⟩⟩⟩) (fun r B' L' hR => ?_)
  refine HL.nil ?_
  obtain ⟨B5, B6, u, B7, o, sx, rfl, hacc⟩ := hR
  have hw : sx = 2 ∨ (bthL h da a db b).map prA = [] := by
    rcases hacc with ⟨_, h | h⟩ | ⟨_, _, h⟩
    · exact .inr h
    · exact .inl h
    · exact .inl h
  refine AWp.seq (AWp.regionW T_ok rfl (WL.all (by simp (decide := true) only [EVs, EVt, Array.toList, B6, B7] <;> exact rfl) ?_))
  refine AWp.ret ⟨_, by show aresults T _ [.cell 6 24] = some _; simp (decide := true) only [EVs, EVt, Array.toList, aresults, ares1]; exact rfl, .inl ?_⟩
  exact Wk.agg' (.cons (.refl _) (.cons (.list _ _ _ _ hw) .nil))
theorem sp_Rise1 (x y : Int) : ACall Try.prog 79 [u8 x, u8 y] (u8 (rise x)) := by
  refine acall_of Try.func79 rfl rfl (Nat.le_of_ble_eq_true rfl) T_ok (fun base w0 => ?_)
  refine AWp.seq (AWp.regionW T_ok rfl (WL.all (by simp (decide := true) only [EVs, EVt, Array.toList] <;> exact rfl) ?_))
  refine AWp.seq (AWp.regionW T_ok rfl ?_)
  (repeat (first | refine WL.c rfl rfl rfl (by simp (decide := true) only [EVs, EVt, Array.toList] <;> exact rfl) (by simp (decide := true) only [EVs, EVt, Array.toList, calleeOf] <;> exact rfl) (by simp (decide := true) only [EVs, EVt, Array.toList, argsOf, frz] <;> exact rfl) (by first | exact sp_LvRise x) rfl ?_ | refine WL.f rfl rfl rfl (by simp (decide := true) only [EVs, EVt, Array.toList] <;> exact rfl) (by simp (decide := true) only [EVs, EVt, Array.toList, calleeOf] <;> exact rfl) (by simp (decide := true) only [EVs, EVt, Array.toList, argsOf, frz] <;> exact rfl) (by first | exact sp_LvRise x) ?_ | refine WL.one (by simp (decide := true) only [EVs, EVt, Array.toList] <;> exact rfl) ?_)); refine WL.nil ?_
  exact AWp.ret ⟨_, rfl, .inl (.refl _)⟩
theorem sp_LRise (d : Int) (l : List Pr) (hl : l.length ≤ 500000) : ACall Try.prog 60 [lab d l] (lab (rise d) (risL d l)) := by
  have h := sp_both 79 (fun x _ => rise x) (fun _ => True) (fun x y _ _ => sp_Rise1 x y) d l d l hl hl trivial trivial (fun _ _ => trivial) (fun _ _ => trivial)
  refine acall_of Try.func60 rfl rfl (Nat.le_of_ble_eq_true rfl) T_ok (fun base w0 => ?_)
  refine AWp.seq (AWp.regionW T_ok rfl (WL.all (by simp (decide := true) only [EVs, EVt, Array.toList] <;> exact rfl) ?_))
  refine AWp.seq (AWp.regionW T_ok rfl ?_)
  (repeat (first | refine WL.c rfl rfl rfl (by simp (decide := true) only [EVs, EVt, Array.toList] <;> exact rfl) (by simp (decide := true) only [EVs, EVt, Array.toList, calleeOf] <;> exact rfl) (by simp (decide := true) only [EVs, EVt, Array.toList, argsOf, frz] <;> exact rfl) (by first | exact h) rfl ?_ | refine WL.f rfl rfl rfl (by simp (decide := true) only [EVs, EVt, Array.toList] <;> exact rfl) (by simp (decide := true) only [EVs, EVt, Array.toList, calleeOf] <;> exact rfl) (by simp (decide := true) only [EVs, EVt, Array.toList, argsOf, frz] <;> exact rfl) (by first | exact h) ?_ | refine WL.one (by simp (decide := true) only [EVs, EVt, Array.toList] <;> exact rfl) ?_)); refine WL.nil ?_
  exact AWp.ret ⟨_, rfl, .inl (.refl _)⟩
end Go.Proofs.Ytopdgmjmpmkamaa.E
