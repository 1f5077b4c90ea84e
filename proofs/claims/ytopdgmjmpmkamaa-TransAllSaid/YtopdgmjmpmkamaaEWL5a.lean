/-
  Labels put together by the document, and whether layer 5 does anything, walked in abstract values. Conditions: lengths, levels are 0 to 5.
-/
import Derived.Test.YtopdgmjmpmkamaaEWLs
import Derived.Test.YtopdgmjmpmkamaaEWLab
namespace Go.Proofs.Ytopdgmjmpmkamaa.E
open Go Go.RowKit Go.Proofs.YtopdgmjmpmkamaaW.E
set_option linter.unusedVariables false
set_option linter.unusedSimpArgs false
set_option maxRecDepth 100000
set_option maxHeartbeats 4000000

theorem ab_imax {P : Program} (ts : Array TypeId) (t : TypeId) (cs : Array Bool) (a b : Int) : abuiltin P .max ts t cs #[.int .u8 a, .int .u8 b] = some (.int .u8 (mx a b)) := by
  have e : pureRun P (Builtin.max2 (.int .u8 a) (.int .u8 b)) = some (.int .u8 (mx a b)) := by
    simp only [Builtin.max2]
    exact pureRun_pure _
  unfold abuiltin
  have e0 : builtin .max ts t cs #[.int .u8 a, .int .u8 b] = (Next.value <$> Builtin.max2 (.int .u8 a) (.int .u8 b)) := by simp [builtin, Builtin.max_]
  have e2 : pureRun P (builtin .max ts t cs #[.int .u8 a, .int .u8 b]) = some (.value (.int .u8 (mx a b))) := by
    rw [e0, map_eq_pure_bind, pureRun_bind, e]; rfl
  rw [e2]
theorem ab_imin {P : Program} (ts : Array TypeId) (t : TypeId) (cs : Array Bool) (a b : Int) : abuiltin P .min ts t cs #[.int .u8 a, .int .u8 b] = some (.int .u8 (mn a b)) := by
  have e : pureRun P (Builtin.min2 (.int .u8 a) (.int .u8 b)) = some (.int .u8 (mn a b)) := by
    simp only [Builtin.min2]
    exact pureRun_pure _
  unfold abuiltin
  have e0 : builtin .min ts t cs #[.int .u8 a, .int .u8 b] = (Next.value <$> Builtin.min2 (.int .u8 a) (.int .u8 b)) := by simp [builtin, Builtin.min_]
  have e2 : pureRun P (builtin .min ts t cs #[.int .u8 a, .int .u8 b]) = some (.value (.int .u8 (mn a b))) := by
    rw [e0, map_eq_pure_bind, pureRun_bind, e]; rfl
  rw [e2]

/-- What two labels come to, by the document. -/
def bthT' (h : Int → Int → Int) (da : Int) (a : List Pr) (db : Int) (b : List Pr) (cc : List Int) : List Pr := cc.map fun c => ⟨c, h (at_ da a c) (at_ db b c)⟩
def bthR (h : Int → Int → Int) (da : Int) (a : List Pr) (db : Int) (b : List Pr) : List Pr := mkl (h da db) (bthT' h da a db b (mk (cs a ++ cs b)))
def mm (m : Bool) : Int → Int → Int := if m then mx else mn
theorem lvl_bthT {h : Int → Int → Int} {da db : Int} {a b : List Pr} {d c : Int} : ∀ (cc : List Int), lvl d (bthT' h da a db b cc) c = if c ∈ cc then h (at_ da a c) (at_ db b c) else d := by
  intro cc
  have key : ∀ (cc : List Int) (d : Int), lvl d (bthT' h da a db b cc) c = if c ∈ cc then h (at_ da a c) (at_ db b c) else d := by
    intro cc
    induction cc with
    | nil => intro d; simp [bthT', lvl]
    | cons x cc ih =>
      intro d
      have := ih (if x = c then h (at_ da a x) (at_ db b x) else d)
      simp only [bthT', lvl, List.map_cons, List.foldl_cons] at this ⊢
      rw [this]
      by_cases e : x = c
      · subst e
        by_cases h2 : x ∈ cc <;> simp [h2]
      · by_cases h2 : c ∈ cc
        · simp [h2]
        · simp [h2, e, Ne.symm e]
  exact key cc d
theorem bthR_bthL {h : Int → Int → Int} {da db : Int} {a b : List Pr} (ha : ascP a) (hb : ascP b) : bthR h da a db b = bthL h da a db b := by
  refine lab_ext (d := h da db) (mkl_asc _ _) (bthL_asc ha hb) mkl_lv bthL_lv fun c => ?_
  rw [bthL_at ha hb, bthR, mkl_at, lvl_bthT]
  by_cases hc : c ∈ mk (cs a ++ cs b)
  · rw [if_pos hc]
  · rw [if_neg hc]
    rw [mk_mem, List.mem_append, not_or] at hc
    rw [at_not hc.1, at_not hc.2]

theorem sp_Rboth (m : Bool) (da : Int) (a : List Pr) (db : Int) (b : List Pr) (ha : a.length ≤ 10000000) (hb : b.length ≤ 10000000) : ACall Try.prog 48 [lab da a, lab db b, bo m] (lab (mm m da db) (bthR (mm m) da a db b)) := by
  have hcl : (cs a ++ cs b).length = a.length + b.length := by rw [List.length_append, cs_len, cs_len]
  have hml := mk_len (cs a ++ cs b)
  have hbl : ∀ cc, (bthT' (mm m) da a db b cc).length = cc.length := fun cc => by simp [bthT']
  refine acall_of Try.func48 rfl rfl (Nat.le_of_ble_eq_true rfl) T_ok (fun base w0 => ?_)
  refine AWp.seq (AWp.regionW T_ok rfl (WL.all (by simp (decide := true) only [EVs, EVt, Array.toList] <;> exact rfl) ?_))
  refine AWp.seq (AWp.regionW T_ok rfl ?_)
  (repeat (first | refine WL.c rfl rfl rfl (by simp (decide := true) only [EVs, EVt, Array.toList] <;> exact rfl) (by simp (decide := true) only [EVs, EVt, Array.toList, calleeOf] <;> exact rfl) (by simp (decide := true) only [EVs, EVt, Array.toList, argsOf, frz] <;> exact rfl) (by first | exact sp_Rcats da a db b (by omega)) rfl ?_ | refine WL.f rfl rfl rfl (by simp (decide := true) only [EVs, EVt, Array.toList] <;> exact rfl) (by simp (decide := true) only [EVs, EVt, Array.toList, calleeOf] <;> exact rfl) (by simp (decide := true) only [EVs, EVt, Array.toList, argsOf, frz] <;> exact rfl) (by first | exact sp_Rcats da a db b (by omega)) ?_ | refine WL.one (by simp (decide := true) only [EVs, EVt, Array.toList] <;> exact rfl) ?_)); refine WL.nil ?_
  refine AWp.seq (AWp.regionW T_ok rfl (WL.all (by simp (decide := true) only [EVs, EVt, Array.toList, mapM_2, ab_imin] <;> exact rfl) ?_))
  refine AWp.seqI (fun st => ∃ (s : Nat → AV) (B : Nat → Nat × List AV) (L : Nat → Nat) (o : Own), st = ⟨65, 0, s, B, L⟩ ∧ s 2 = bo m ∧ s 3 = .ptr 3 1 0 ∧ B 3 = (1, [u8 da, lps a]) ∧ s 4 = .ptr 4 1 0 ∧ B 4 = (1, [u8 db, lps b]) ∧ s 6 = .ptr 6 1 0 ∧ B 6 = (1, [u8 0, .list 2 [] .full]) ∧ s 7 = .list 1 ((mk (cs a ++ cs b)).map u16) o ∧ s 8 = u8 (mm m da db)) ?_ ?_
  · cases m with
    | true =>
      refine AWp.seq (AWp.regionW T_ok rfl (WL.all (by simp (decide := true) only [EVs, EVt, Array.toList] <;> exact rfl) ?_))
      refine AWp.cond (t := true) rfl (AWp.regionW T_ok rfl (WL.all (by simp (decide := true) only [EVs, EVt, Array.toList, mapM_2, ab_imax] <;> exact rfl) ?_))
      exact ⟨_, _, _, _, rfl, rfl, rfl, rfl, rfl, rfl, rfl, rfl, rfl, rfl⟩
    | false =>
      refine AWp.seq (AWp.regionW T_ok rfl (WL.all (by simp (decide := true) only [EVs, EVt, Array.toList] <;> exact rfl) ?_))
      refine AWp.cond (t := false) rfl (AWp.skip ?_)
      exact ⟨_, _, _, _, rfl, rfl, rfl, rfl, rfl, rfl, rfl, rfl, rfl, rfl⟩
  rintro st ⟨s, B, L, o, rfl, s2, s3, B3, s4, B4, s6, B6, s7, s8⟩
  refine AWp.seq (AWp.regionW T_ok rfl (WL.all (by simp (decide := true) only [EVs, EVt, Array.toList] <;> exact rfl) ?_))
  refine AWp.seq (AWp.seq (AWp.regionW T_ok rfl (WL.all (by simp (decide := true) only [EVs, EVt, Array.toList] <;> exact rfl) ?_)))
  refine AWp.block (AWp.loop (fun n st => ∃ (j : Nat) (s : Nat → AV) (L : Nat → Nat) (o : Own) (u : AV), st = ⟨65, 0, s, B, L⟩ ∧ n = (mk (cs a ++ cs b)).length - j ∧ s 2 = bo m ∧ s 3 = .ptr 3 1 0 ∧ s 4 = .ptr 4 1 0 ∧ s 6 = .ptr 6 1 0 ∧ s 7 = .list 1 ((mk (cs a ++ cs b)).map u16) o ∧ s 8 = u8 (mm m da db) ∧ s 9 = u ∧ s 10 = i64 j ∧
    Acc L u 2 ((bthT' (mm m) da a db b ((mk (cs a ++ cs b)).take j)).map prA)) ?_ (n := (mk (cs a ++ cs b)).length)
    ⟨0, _, _, o, .list 2 [] .full, rfl, rfl, ?_, ?_, ?_, ?_, ?_, ?_, ?_, ?_, ⟨_, _, rfl, .inl ⟨rfl, .inl rfl⟩⟩⟩)
  · rintro n st ⟨j, s, L, o, u, rfl, rfl, s2, s3, s4, s6, s7, s8, s9, s10, hA⟩
    by_cases hlt : j < (mk (cs a ++ cs b)).length
    · have e1 : ltI (j : Int) ((mk (cs a ++ cs b)).length : Int) = true := ltI_t (by omega)
      have e2 := get_mapi u16 (mk (cs a ++ cs b)) j hlt
      have e7 := wup j (by omega)
      have t1 := sp_RAt da a (mk (cs a ++ cs b))[j] (by omega)
      have t2 := sp_RAt db b (mk (cs a ++ cs b))[j] (by omega)
      have hle : (bthT' (mm m) da a db b ((mk (cs a ++ cs b)).take j)).length ≤ j := by rw [hbl, List.length_take]; omega
      have hs : bthT' (mm m) da a db b ((mk (cs a ++ cs b)).take (j + 1)) = bthT' (mm m) da a db b ((mk (cs a ++ cs b)).take j) ++ [⟨(mk (cs a ++ cs b))[j], mm m (at_ da a (mk (cs a ++ cs b))[j]) (at_ db b (mk (cs a ++ cs b))[j])⟩] := by
        rw [take_snoc _ j hlt]; unfold bthT'; rw [List.map_append]; rfl
      refine AWp.seq (AWp.seq (AWp.regionW T_ok rfl (WL.all (by simp (decide := true) only [EVs, EVt, Array.toList, s7, s10, e1] <;> exact rfl) ?_)))
      refine AWp.cond (t := true) rfl (AWp.skip ?_)
      refine AWp.seqI (fun st => ∃ (s : Nat → AV) (L : Nat → Nat) (u : AV), st = ⟨65, 0, s, B, L⟩ ∧ s 2 = bo m ∧ s 3 = .ptr 3 1 0 ∧ s 4 = .ptr 4 1 0 ∧ s 6 = .ptr 6 1 0 ∧ s 7 = .list 1 ((mk (cs a ++ cs b)).map u16) o ∧ s 8 = u8 (mm m da db) ∧ s 9 = u ∧ s 10 = i64 j ∧
        Acc L u 2 ((bthT' (mm m) da a db b ((mk (cs a ++ cs b)).take (j + 1))).map prA)) (AWp.block ?_) ?_
      · refine AWp.seq (AWp.drawnW T_ok mixed (by kernel_rfl) rfl ?_)
        (repeat (first | refine WL.c rfl rfl rfl (by simp (decide := true) only [EVs, EVt, Array.toList, s3, B3, s4, B4, s7, s10, e2] <;> exact rfl) (by simp (decide := true) only [EVs, EVt, Array.toList, calleeOf, s3, B3, s4, B4, s7, s10, e2] <;> exact rfl) (by simp (decide := true) only [EVs, EVt, Array.toList, argsOf, frz, s3, B3, s4, B4, s7, s10, e2] <;> exact rfl) (by first | exact t1 | exact t2) rfl ?_ | refine WL.f rfl rfl rfl (by simp (decide := true) only [EVs, EVt, Array.toList, s3, B3, s4, B4, s7, s10, e2] <;> exact rfl) (by simp (decide := true) only [EVs, EVt, Array.toList, calleeOf, s3, B3, s4, B4, s7, s10, e2] <;> exact rfl) (by simp (decide := true) only [EVs, EVt, Array.toList, argsOf, frz, s3, B3, s4, B4, s7, s10, e2] <;> exact rfl) (by first | exact t1 | exact t2) ?_ | refine WL.one (by simp (decide := true) only [EVs, EVt, Array.toList, s3, B3, s4, B4, s7, s10, e2] <;> exact rfl) ?_)); refine WL.nil ?_
        refine AWp.seq (AWp.regionW T_ok rfl (WL.all (by simp (decide := true) only [EVs, EVt, Array.toList, mapM_2, ab_imin] <;> exact rfl) ?_))
        refine AWp.seqI (fun st => ∃ (s : Nat → AV), st = ⟨65, 0, s, B, L⟩ ∧ s 2 = bo m ∧ s 3 = .ptr 3 1 0 ∧ s 4 = .ptr 4 1 0 ∧ s 6 = .ptr 6 1 0 ∧ s 7 = .list 1 ((mk (cs a ++ cs b)).map u16) o ∧ s 8 = u8 (mm m da db) ∧ s 9 = u ∧ s 10 = i64 j ∧ s 13 = u8 (mm m (at_ da a (mk (cs a ++ cs b))[j]) (at_ db b (mk (cs a ++ cs b))[j]))) ?_ ?_
        · cases m with
          | true =>
            refine AWp.seq (AWp.regionW T_ok rfl (WL.all (by simp (decide := true) only [EVs, EVt, Array.toList, s2] <;> exact rfl) ?_))
            refine AWp.cond (t := true) rfl (AWp.regionW T_ok rfl (WL.all (by simp (decide := true) only [EVs, EVt, Array.toList, mapM_2, ab_imax] <;> exact rfl) ?_))
            refine ⟨_, rfl, ?_, ?_, ?_, ?_, ?_, ?_, ?_, ?_, ?_⟩
            · simp (decide := true) only [EVs, EVt, Array.toList, s2]
            · simp (decide := true) only [EVs, EVt, Array.toList, s3]
            · simp (decide := true) only [EVs, EVt, Array.toList, s4]
            · simp (decide := true) only [EVs, EVt, Array.toList, s6]
            · simp (decide := true) only [EVs, EVt, Array.toList, s7]
            · simp (decide := true) only [EVs, EVt, Array.toList, s8]
            · simp (decide := true) only [EVs, EVt, Array.toList, s9]
            · simp (decide := true) only [EVs, EVt, Array.toList, s10]
            · simp (decide := true) only [EVs, EVt, Array.toList] <;> rfl
          | false =>
            refine AWp.seq (AWp.regionW T_ok rfl (WL.all (by simp (decide := true) only [EVs, EVt, Array.toList, s2] <;> exact rfl) ?_))
            refine AWp.cond (t := false) rfl (AWp.skip ?_)
            refine ⟨_, rfl, ?_, ?_, ?_, ?_, ?_, ?_, ?_, ?_, ?_⟩
            · simp (decide := true) only [EVs, EVt, Array.toList, s2]
            · simp (decide := true) only [EVs, EVt, Array.toList, s3]
            · simp (decide := true) only [EVs, EVt, Array.toList, s4]
            · simp (decide := true) only [EVs, EVt, Array.toList, s6]
            · simp (decide := true) only [EVs, EVt, Array.toList, s7]
            · simp (decide := true) only [EVs, EVt, Array.toList, s8]
            · simp (decide := true) only [EVs, EVt, Array.toList, s9]
            · simp (decide := true) only [EVs, EVt, Array.toList, s10]
            · simp (decide := true) only [EVs, EVt, Array.toList] <;> rfl
        rintro st ⟨s, rfl, s2, s3, s4, s6, s7, s8, s9, s10, s13⟩
        refine (AWp.regionW T_ok rfl (WL.next 8 rfl rfl (by simp (decide := true) only [EVs, EVt, Array.toList, s7, s9, s10, s13, e2] <;> exact rfl) ?_))
        refine WL.acc (e := 40) (xs := (bthT' (mm m) da a db b ((mk (cs a ++ cs b)).take j)).map prA) (ys := [prA ⟨(mk (cs a ++ cs b))[j], mm m (at_ da a (mk (cs a ++ cs b))[j]) (at_ db b (mk (cs a ++ cs b))[j])⟩]) (sy := 2) (oy := .full) rfl rfl rfl rfl rfl rfl rfl T_prs rfl T_pr (by simp (decide := true) only [EVs, EVt, Array.toList]; exact hA) (by simp (decide := true) only [EVs, EVt, Array.toList]) (.inl rfl) (by simp; omega) (by decide) (fun v1 L1 hA1 => ?_)
        have hA1' := hA1
        obtain ⟨o1, sx1, rfl, _⟩ := hA1
        refine (WL.all (by simp (decide := true) only [EVs, EVt, Array.toList] <;> exact rfl) ?_)
        refine ⟨_, _, _, rfl, ?_, ?_, ?_, ?_, ?_, ?_, rfl, ?_, ?_⟩
        · simp (decide := true) only [EVs, EVt, Array.toList, s2]
        · simp (decide := true) only [EVs, EVt, Array.toList, s3]
        · simp (decide := true) only [EVs, EVt, Array.toList, s4]
        · simp (decide := true) only [EVs, EVt, Array.toList, s6]
        · simp (decide := true) only [EVs, EVt, Array.toList, s7]
        · simp (decide := true) only [EVs, EVt, Array.toList, s8]
        · simp (decide := true) only [EVs, EVt, Array.toList, s10]
        · rw [hs, List.map_append]; exact hA1'
      rintro st ⟨s, L, u, rfl, s2, s3, s4, s6, s7, s8, s9, s10, hA⟩
      refine (AWp.regionW T_ok rfl (WL.all (by simp (decide := true) only [EVs, EVt, Array.toList, s10, e7] <;> exact rfl) ?_))
      refine ⟨(mk (cs a ++ cs b)).length - (j + 1), by omega, j + 1, _, _, o, u, rfl, rfl, ?_, ?_, ?_, ?_, ?_, ?_, ?_, ?_, hA⟩
      · simp (decide := true) only [EVs, EVt, Array.toList, s2]
      · simp (decide := true) only [EVs, EVt, Array.toList, s3]
      · simp (decide := true) only [EVs, EVt, Array.toList, s4]
      · simp (decide := true) only [EVs, EVt, Array.toList, s6]
      · simp (decide := true) only [EVs, EVt, Array.toList, s7]
      · simp (decide := true) only [EVs, EVt, Array.toList, s8]
      · simp (decide := true) only [EVs, EVt, Array.toList, s9]
      · simp (decide := true) only [EVs, EVt, Array.toList]
    · have e1 : ltI (j : Int) ((mk (cs a ++ cs b)).length : Int) = false := ltI_f (by omega)
      rw [List.take_of_length_le (by omega)] at hA
      obtain ⟨o2, sx, rfl, hacc⟩ := hA
      have hw : sx = 2 ∨ (bthT' (mm m) da a db b (mk (cs a ++ cs b))).map prA = [] := by
        rcases hacc with ⟨_, h | h⟩ | ⟨_, _, h⟩
        · exact .inr h
        · exact .inl h
        · exact .inl h
      have hM := sp_MakeLab (mm m da db) (bthT' (mm m) da a db b (mk (cs a ++ cs b))) (by rw [hbl]; omega)
      refine AWp.seq (AWp.seq (AWp.regionW T_ok rfl (WL.all (by simp (decide := true) only [EVs, EVt, Array.toList, s7, s10, e1] <;> exact rfl) ?_)))
      refine AWp.cond (t := false) rfl (AWp.exit ?_)
      refine AWp.seq (AWp.regionW T_ok rfl (WL.next 2 rfl rfl (by simp (decide := true) only [EVs, EVt, Array.toList, s8, s9] <;> exact rfl) ?_))
      refine WL.c rfl rfl rfl rfl (by simp (decide := true) only [EVs, EVt, Array.toList, calleeOf] <;> exact rfl) (by simp (decide := true) only [EVs, EVt, Array.toList, argsOf, frz] <;> exact rfl) (ACall.wkl hM (.cons (.refl _) (.cons (.list _ _ _ _ hw) .nil))) rfl ?_
      refine (WL.all (by simp (decide := true) only [EVs, EVt, Array.toList, s6, B6] <;> exact rfl) ?_)
      refine AWp.ret ⟨_, by show aresults T _ [.cell 6 24] = some _; simp (decide := true) only [EVs, EVt, Array.toList, aresults, ares1, s6, B6]; exact rfl, .inl ?_⟩
      exact .refl _
  · simp (decide := true) only [EVs, EVt, Array.toList, s2]
  · simp (decide := true) only [EVs, EVt, Array.toList, s3]
  · simp (decide := true) only [EVs, EVt, Array.toList, s4]
  · simp (decide := true) only [EVs, EVt, Array.toList, s6]
  · simp (decide := true) only [EVs, EVt, Array.toList, s7]
  · simp (decide := true) only [EVs, EVt, Array.toList, s8]
  · simp (decide := true) only [EVs, EVt, Array.toList] <;> rfl
  · simp (decide := true) only [EVs, EVt, Array.toList] <;> rfl
theorem sp_RJoin (da : Int) (a : List Pr) (db : Int) (b : List Pr) (ha : a.length ≤ 10000000) (hb : b.length ≤ 10000000) (aa : ascP a) (ab : ascP b) : ACall Try.prog 22 [lab da a, lab db b] (lab (mx da db) (bthL mx da a db b)) := by
  have h := sp_Rboth true da a db b ha hb
  rw [bthR_bthL aa ab] at h
  refine acall_of Try.func22 rfl rfl (Nat.le_of_ble_eq_true rfl) T_ok (fun base w0 => ?_)
  refine AWp.seq (AWp.regionW T_ok rfl (WL.all (by simp (decide := true) only [EVs, EVt, Array.toList] <;> exact rfl) ?_))
  refine AWp.seq (AWp.regionW T_ok rfl ?_)
  (repeat (first | refine WL.c rfl rfl rfl (by simp (decide := true) only [EVs, EVt, Array.toList] <;> exact rfl) (by simp (decide := true) only [EVs, EVt, Array.toList, calleeOf] <;> exact rfl) (by simp (decide := true) only [EVs, EVt, Array.toList, argsOf, frz] <;> exact rfl) (by first | exact h) rfl ?_ | refine WL.f rfl rfl rfl (by simp (decide := true) only [EVs, EVt, Array.toList] <;> exact rfl) (by simp (decide := true) only [EVs, EVt, Array.toList, calleeOf] <;> exact rfl) (by simp (decide := true) only [EVs, EVt, Array.toList, argsOf, frz] <;> exact rfl) (by first | exact h) ?_ | refine WL.one (by simp (decide := true) only [EVs, EVt, Array.toList] <;> exact rfl) ?_)); refine WL.nil ?_
  exact AWp.ret ⟨_, rfl, .inl (.refl _)⟩
end Go.Proofs.Ytopdgmjmpmkamaa.E
