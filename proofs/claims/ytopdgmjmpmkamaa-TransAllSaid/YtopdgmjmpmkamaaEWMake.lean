/-
  A label made of pairs (label.Make), walked in abstract values. Conditions: lengths, categories are 16 bits.
-/
import Derived.Test.YtopdgmjmpmkamaaEWPutIn
import Derived.Test.YtopdgmjmpmkamaaEM14
namespace Go.Proofs.Ytopdgmjmpmkamaa.E
open Go Go.RowKit Go.Proofs.YtopdgmjmpmkamaaW.E
set_option linter.unusedVariables false
set_option linter.unusedSimpArgs false
set_option maxRecDepth 100000
set_option maxHeartbeats 4000000

theorem Hold.cell {B : Nat → Nat × List AV} {k : Nat} {x : AV} {l : List Pr} (h : Hold B k x l) : x.cells = [x] ∧ AV.isCell x = true := by
  rcases h with ⟨rfl, _⟩ | ⟨g, c, r, rfl, _⟩
  · exact ⟨rfl, rfl⟩
  · exact ⟨rfl, rfl⟩
theorem fix_cases (q : Pr → Bool) (l : List Pr) : (∃ (i : Nat) (h : i < l.length), fix q l = (i : Int) ∧ q l[i] = true) ∨ (fix q l = -1 ∧ ∀ p ∈ l, q p = false) := by
  unfold fix
  cases h : l.findIdx? q with
  | none => exact .inr ⟨rfl, List.findIdx?_eq_none_iff.1 h⟩
  | some i =>
    obtain ⟨h1, h2, _⟩ := List.findIdx?_eq_some_iff_getElem.1 h
    exact .inl ⟨i, h1, rfl, h2⟩

theorem h_del' (l : List Pr) (i : Nat) (hi : i < l.length) (B : Nat → Nat × List AV) (L : Nat → Nat) (k : Nat) (x : AV) (hx : Hold B k x l) (hl : l.length ≤ 35184372087808) :
    HCall Try.prog T 64 [x, i64 i, i64 ((i + 1 : Nat) : Int)] B L (fun x B' L' => Hold B' k x (l.take i ++ l.drop (i + 1)) ∧ ∀ j, j ≠ k → B' j = B j) := by
  rcases hx with ⟨rfl, rfl⟩ | ⟨g, c, r, rfl, hB, hlen, h0⟩
  · simp at hi
  · obtain ⟨m, hm⟩ : ∃ m, l.length = m + 1 := ⟨l.length - 1, by omega⟩
    have h := h_del l i m hi hm B L k g c r hB hlen h0 hl
    rw [hm]; exact h

/-- A label under way. -/
def MkI (d : Int) (l : List Pr) (j : Nat) (ps : List Pr) (st : St) : Prop := ∃ (s : Nat → AV) (B : Nat → Nat × List AV) (L : Nat → Nat) (k : Nat) (x : AV), st = ⟨54, 0, s, B, L⟩ ∧ s 0 = u8 d ∧ s 13 = lps l ∧ s 14 = i64 l.length ∧ s 15 = i64 j ∧ s 4 = .ptr 4 1 0 ∧ B 4 = (1, [u8 0, .list 2 [] .full]) ∧ s 5 = .ptr 5 1 0 ∧ B 5 = (1, [u8 d, x]) ∧ Hold B k x ps ∧ 1000 ≤ k
/-- .. and the pair that is looked at. -/
def MkJ (d : Int) (l : List Pr) (j : Nat) (ps : List Pr) (q : Pr) (st : St) : Prop := ∃ (s : Nat → AV) (B : Nat → Nat × List AV) (L : Nat → Nat) (k : Nat) (x : AV) (g : Nat), st = ⟨54, 0, s, B, L⟩ ∧ s 0 = u8 d ∧ s 13 = lps l ∧ s 14 = i64 l.length ∧ s 15 = i64 j ∧ s 4 = .ptr 4 1 0 ∧ B 4 = (1, [u8 0, .list 2 [] .full]) ∧ s 5 = .ptr 5 1 0 ∧ B 5 = (1, [u8 d, x]) ∧ Hold B k x ps ∧ 1000 ≤ k ∧
  s 7 = .ptr 7 g 0 ∧ B 7 = (g, [u16 q.c, u8 q.l])

theorem sp_LMake (d : Int) (l : List Pr) (hl : l.length ≤ 35184372087800) (hc : ∀ p ∈ l, 0 ≤ p.c ∧ p.c < 65536) : ACall Try.prog 42 [u8 d, lps l] (lab d (mkl d l)) := by
  refine acall_of Try.func42 rfl rfl (Nat.le_of_ble_eq_true rfl) T_ok (fun base w0 => ?_)
  refine AWp.seq (AWp.regionW T_ok rfl (WL.all (by simp (decide := true) only [EVs, EVt, Array.toList] <;> exact rfl) ?_))
  refine AWp.seq (AWp.regionW T_ok rfl (WL.all (by simp (decide := true) only [EVs, EVt, Array.toList] <;> exact rfl) ?_))
  refine AWp.seq (AWp.seq (AWp.regionW T_ok rfl (WL.all (by simp (decide := true) only [EVs, EVt, Array.toList] <;> exact rfl) ?_)))
  refine AWp.block (AWp.loop (fun n st => ∃ j, n = l.length - j ∧ MkI d l j (mkl d (l.take j)) st) ?_ (n := l.length) ⟨0, rfl, _, _, _, 1000, .list 2 [] .full, rfl, rfl, rfl, rfl, rfl, rfl, rfl, rfl, rfl, .inl ⟨rfl, rfl⟩, by omega⟩)
  rintro n st ⟨j, rfl, s, B, L, k, x, rfl, s0, s13, s14, s15, s4, B4, s5, B5, hH, hk⟩
  by_cases hlt : j < l.length
  · have e1 : ltI (j : Int) (l.length : Int) = true := ltI_t (by omega)
    have e2 := get_mapi prA l j hlt
    have e7 := wup j (by omega)
    obtain ⟨qc0, qc1⟩ := hc _ (List.getElem_mem hlt)
    have hpl : (mkl d (l.take j)).length ≤ j := by
      have := mkl_len d (l.take j)
      rw [List.length_take] at this; omega
    have hpc : ∀ p ∈ mkl d (l.take j), 0 ≤ p.c ∧ p.c < 65536 := fun p hp => by
      obtain ⟨r, hr, e⟩ := mem_cs.1 (mkl_cat p hp)
      have := hc r (List.mem_of_mem_take hr)
      rw [e] at this; exact this
    have hpa := mkl_asc d (l.take j)
    have hpv : ∀ p ∈ mkl d (l.take j), p.l ≠ d := mkl_lv
    have hstep := mkl_step (d := d) l j hlt
    generalize hps : mkl d (l.take j) = ps at hH hpl hpc hpa hpv hstep
    generalize hq : l[j] = q at e2 qc0 qc1 hstep
    refine AWp.seq (AWp.regionW T_ok rfl (WL.all (by simp (decide := true) only [EVs, EVt, Array.toList, s14, s15, e1] <;> exact rfl) ?_))
    refine AWp.seq (AWp.cond (t := true) rfl (AWp.skip ?_))
    refine AWp.seqI (fun st => MkI d l j (mkl d (l.take (j + 1))) st) (AWp.block ?_) ?_
    · refine AWp.seq (AWp.regionW T_ok rfl (WL.all (by simp (decide := true) only [EVs, EVt, Array.toList, s13, s15, e2] <;> exact rfl) ?_))
      refine AWp.seqI (fun st => ∃ ps1, MkJ d l j ps1 q st ∧ ascP ps1 ∧ q.c ∉ cs ps1 ∧ (∀ c, at_ d ps1 c = if c = q.c then d else at_ d ps c) ∧ (∀ p ∈ ps1, p ∈ ps) ∧ ps1.length ≤ j) ?_ ?_
      · refine AWp.seq (AWp.regionH rfl (HL.next T_ok 4 rfl rfl (by simp (decide := true) only [EVs, EVt, Array.toList, s5, B5] <;> exact rfl) ?_))
        refine HL.h T_ok rfl rfl rfl (by simp (decide := true) only [EVs, EVt, Array.toList] <;> exact rfl) (by simp (decide := true) only [EVs, EVt, Array.toList, calleeOf] <;> exact rfl) (by simp (decide := true) only [EVs, EVt, Array.toList] <;> exact rfl) (h_at ps q.c (by omega) (k + 1) _ _ k x (by first | exact hH.upd (by omega) _ | exact (hH.upd (by omega) _).upd (by omega) _) (by omega)) (fun r B' L' hR => ?_)
        obtain ⟨rfl, hfr⟩ := hR
        have b4 : B' 4 = (1, [u8 0, .list 2 [] .full]) := (hfr 4 (by omega)).trans B4
        have b5 : B' 5 = (1, [u8 d, x]) := (hfr 5 (by omega)).trans B5
        have b7 : B' 7 = ((B 7).1 + 1, [u16 q.c, u8 q.l]) := hfr 7 (by omega)
        have hH' : Hold B' k x ps := by first | exact (hH.upd (by omega) _).same (hfr k (by omega)) | exact ((hH.upd (by omega) _).upd (by omega) _).same (hfr k (by omega))
        refine (HL.all T_ok (by simp (decide := true) only [EVs, EVt, Array.toList] <;> exact rfl) ?_)
        rcases fix_cases (fun p => eqI p.c q.c) ps with ⟨i, hi, hf, hqi⟩ | ⟨hf, hno⟩
        · rw [hf]
          have c1 : leI 0 (i : Int) = true := leI_t (by omega)
          have c2 := wup i (by omega)
          have hqc : ps[i].c = q.c := of_decide_eq_true hqi
          obtain ⟨d1, d2, d3⟩ := del_step (d := d) hpa i hi
          rw [hqc] at d2 d3
          refine AWp.seq (AWp.regionW T_ok rfl (WL.all (by simp (decide := true) only [EVs, EVt, Array.toList, c1] <;> exact rfl) ?_))
          refine AWp.cond (t := true) rfl (AWp.regionH rfl (HL.next T_ok 5 rfl rfl (by simp (decide := true) only [EVs, EVt, Array.toList, s5, b5, c2] <;> exact rfl) ?_))
          refine HL.h T_ok rfl rfl rfl (by simp (decide := true) only [EVs, EVt, Array.toList] <;> exact rfl) (by simp (decide := true) only [EVs, EVt, Array.toList, calleeOf] <;> exact rfl) (by simp (decide := true) only [EVs, EVt, Array.toList] <;> exact rfl) (h_del' ps i hi _ _ k x hH' (by omega)) (fun r B' L' hR => ?_)
          obtain ⟨hH2, hfr2⟩ := hR
          have b5' := (hfr2 5 (by omega)).trans b5
          have b4' := (hfr2 4 (by omega)).trans b4
          have b7' := (hfr2 7 (by omega)).trans b7
          obtain ⟨cx1, cx2⟩ := hH2.cell
          refine (HL.all T_ok (by simp (decide := true) only [EVs, EVt, Array.toList, s5, b5', cx1, cx2] <;> exact rfl) ?_)
          refine ⟨ps.take i ++ ps.drop (i + 1), ⟨_, _, _, k, r, _, rfl, ?_, ?_, ?_, ?_, ?_, (upd_ne _ _ (by omega)).trans b4', ?_, upd_same _ _ _, hH2.upd (by omega) _, hk, ?_, (upd_ne _ _ (by omega)).trans b7'⟩, d1, d2, d3, fun p hp => mem_del hp, ?_⟩
          · simp (decide := true) only [EVs, EVt, Array.toList, s0]
          · simp (decide := true) only [EVs, EVt, Array.toList, s13]
          · simp (decide := true) only [EVs, EVt, Array.toList, s14]
          · simp (decide := true) only [EVs, EVt, Array.toList, s15]
          · simp (decide := true) only [EVs, EVt, Array.toList, s4]
          · simp (decide := true) only [EVs, EVt, Array.toList, s5]
          · simp (decide := true) only [EVs, EVt, Array.toList]
          · rw [List.length_append, List.length_take, List.length_drop]; omega
        · rw [hf]
          have c1 : leI 0 (-1) = false := leI_f (by omega)
          have hn : q.c ∉ cs ps := fun h => by
            obtain ⟨p, hp, e⟩ := mem_cs.1 h
            have := of_decide_eq_false (hno p hp)
            exact this e
          refine AWp.seq (AWp.regionW T_ok rfl (WL.all (by simp (decide := true) only [EVs, EVt, Array.toList, c1] <;> exact rfl) ?_))
          refine AWp.cond (t := false) rfl (AWp.skip ?_)
          refine ⟨ps, ⟨_, _, _, k, x, _, rfl, ?_, ?_, ?_, ?_, ?_, b4, ?_, b5, hH', hk, ?_, b7⟩, hpa, hn, fun c => ?_, fun p hp => hp, hpl⟩
          · simp (decide := true) only [EVs, EVt, Array.toList, s0]
          · simp (decide := true) only [EVs, EVt, Array.toList, s13]
          · simp (decide := true) only [EVs, EVt, Array.toList, s14]
          · simp (decide := true) only [EVs, EVt, Array.toList, s15]
          · simp (decide := true) only [EVs, EVt, Array.toList, s4]
          · simp (decide := true) only [EVs, EVt, Array.toList, s5]
          · simp (decide := true) only [EVs, EVt, Array.toList]
          · by_cases e : c = q.c
            · rw [if_pos e, e]; exact at_not hn
            · rw [if_neg e]
      · rintro st ⟨ps1, ⟨s, B, L, k, x, g, rfl, s0, s13, s14, s15, s4, B4, s5, B5, hH, hk, s7, B7⟩, k1, k2, k3, k4, k5⟩
        have k6 : ∀ p ∈ ps1, p.l ≠ d := fun p hp => hpv p (k4 p hp)
        by_cases hv : q.l = d
        · have c1 : eqI q.l d = true := eqI_t hv
          have he := hstep ps1 k1 k6 (fun c => by
            rw [k3]
            by_cases e : c = q.c
            · rw [if_pos e, if_pos e.symm, hv]
            · rw [if_neg e, if_neg (fun h => e h.symm)])
          refine AWp.seq (AWp.regionW T_ok rfl (WL.all (by simp (decide := true) only [EVs, EVt, Array.toList, s0, s7, B7, c1] <;> exact rfl) ?_))
          refine AWp.cond (t := false) rfl (AWp.skip ?_)
          rw [← he]
          refine ⟨_, _, _, k, x, rfl, ?_, ?_, ?_, ?_, ?_, B4, ?_, B5, hH, hk⟩
          · simp (decide := true) only [EVs, EVt, Array.toList, s0]
          · simp (decide := true) only [EVs, EVt, Array.toList, s13]
          · simp (decide := true) only [EVs, EVt, Array.toList, s14]
          · simp (decide := true) only [EVs, EVt, Array.toList, s15]
          · simp (decide := true) only [EVs, EVt, Array.toList, s4]
          · simp (decide := true) only [EVs, EVt, Array.toList, s5]
        · have c1 : eqI q.l d = false := eqI_f hv
          refine AWp.seq (AWp.regionW T_ok rfl (WL.all (by simp (decide := true) only [EVs, EVt, Array.toList, s0, s7, B7, c1] <;> exact rfl) ?_))
          refine AWp.cond (t := true) rfl (AWp.seq (AWp.regionH rfl (HL.next T_ok 4 rfl rfl (by simp (decide := true) only [EVs, EVt, Array.toList, s5, B5, s7, B7] <;> exact rfl) ?_)))
          refine HL.h T_ok rfl rfl rfl (by simp (decide := true) only [EVs, EVt, Array.toList] <;> exact rfl) (by simp (decide := true) only [EVs, EVt, Array.toList, calleeOf] <;> exact rfl) (by simp (decide := true) only [EVs, EVt, Array.toList] <;> exact rfl) (h_bs ps1 q.c (by omega) qc0 qc1 (fun p hp => hpc p (k4 p hp)) k1 _ _ k x hH) (fun r B' L' hR => ?_)
          obtain ⟨rfl, i, b, rfl, hi, lo, up⟩ := hR
          obtain ⟨i1, i2⟩ := ins_step (d := d) k1 q k2 i lo up
          have he := hstep _ i1 (fun p hp => (mem_ins hp).elim (fun e => by rw [e]; exact hv) (k6 p)) (fun c => by
            rw [i2, k3]
            by_cases e : q.c = c
            · rw [if_pos e, if_pos e]
            · rw [if_neg e, if_neg e, if_neg (fun h => e h.symm)])
          refine (HL.all T_ok (by simp (decide := true) only [EVs, EVt, Array.toList] <;> exact rfl) ?_)
          refine (AWp.regionH rfl (HL.next T_ok 4 rfl rfl (by simp (decide := true) only [EVs, EVt, Array.toList, s5, B5, s7, B7] <;> exact rfl) ?_))
          refine HL.mk (cs := [u16 q.c, u8 q.l]) T_ok rfl rfl rfl (by simp (decide := true) only [EVs, EVt, Array.toList] <;> exact rfl) T_prs rfl T_pr rfl rfl rfl (by decide) ?_
          refine HL.h T_ok rfl rfl rfl (by simp (decide := true) only [EVs, EVt, Array.toList] <;> exact rfl) (by simp (decide := true) only [EVs, EVt, Array.toList, calleeOf] <;> exact rfl) (by simp (decide := true) only [EVs, EVt, Array.toList] <;> exact rfl) (h_ins ps1 q i hi (by omega) (k + 1) _ _ k x (hH.upd (by omega) _) (by omega) 49 _ (upd_same _ _ _) (by omega) (by omega)) (fun r B' L' hR => ?_)
          obtain ⟨k', hk', hH2, hfr⟩ := hR
          have b4 := (hfr 4 (by omega) (by omega)).trans B4
          have b5 := (hfr 5 (by omega) (by omega)).trans B5
          obtain ⟨cx1, cx2⟩ := hH2.cell
          refine (HL.all T_ok (by simp (decide := true) only [EVs, EVt, Array.toList, s5, b5, cx1, cx2] <;> exact rfl) ?_)
          rw [← he]
          refine ⟨_, _, _, k', r, rfl, ?_, ?_, ?_, ?_, ?_, (upd_ne _ _ (by omega)).trans b4, ?_, upd_same _ _ _, hH2.upd (by omega) _, by omega⟩
          · simp (decide := true) only [EVs, EVt, Array.toList, s0]
          · simp (decide := true) only [EVs, EVt, Array.toList, s13]
          · simp (decide := true) only [EVs, EVt, Array.toList, s14]
          · simp (decide := true) only [EVs, EVt, Array.toList, s15]
          · simp (decide := true) only [EVs, EVt, Array.toList, s4]
          · simp (decide := true) only [EVs, EVt, Array.toList, s5]
    · rintro st ⟨s, B, L, k, x, rfl, s0, s13, s14, s15, s4, B4, s5, B5, hH, hk⟩
      refine (AWp.regionW T_ok rfl (WL.all (by simp (decide := true) only [EVs, EVt, Array.toList, s15, e7] <;> exact rfl) ?_))
      refine ⟨l.length - (j + 1), by omega, j + 1, rfl, _, _, _, k, x, rfl, ?_, ?_, ?_, ?_, ?_, B4, ?_, B5, hH, hk⟩
      · simp (decide := true) only [EVs, EVt, Array.toList, s0]
      · simp (decide := true) only [EVs, EVt, Array.toList, s13]
      · simp (decide := true) only [EVs, EVt, Array.toList, s14]
      · simp (decide := true) only [EVs, EVt, Array.toList]
      · simp (decide := true) only [EVs, EVt, Array.toList, s4]
      · simp (decide := true) only [EVs, EVt, Array.toList, s5]
  · have e1 : ltI (j : Int) (l.length : Int) = false := ltI_f (by omega)
    rw [List.take_of_length_le (by omega)] at hH
    refine AWp.seq (AWp.regionW T_ok rfl (WL.all (by simp (decide := true) only [EVs, EVt, Array.toList, s14, s15, e1] <;> exact rfl) ?_))
    refine AWp.seq (AWp.cond (t := false) rfl (AWp.exit ?_))
    rcases hH with ⟨rfl, h0⟩ | ⟨g, c, r, rfl, hB, hlen, h0⟩
    · rw [h0]
      refine AWp.seq (AWp.regionW T_ok rfl (WL.all (by simp (decide := true) only [EVs, EVt, Array.toList, s4, B4, s5, B5] <;> exact rfl) ?_))
      refine AWp.ret ⟨_, by show aresults T _ [.cell 4 24] = some _; simp (decide := true) only [EVs, EVt, Array.toList, aresults, ares1, s4, B4]; exact rfl, .inl ?_⟩
      exact Wk.agg' (.cons (.refl _) (.cons (.list _ _ _ _ (.inl rfl)) .nil))
    · have hne := some_bs hlen h0
      have hnc : (mkl d l).length ≤ c := by rw [List.length_append, fl_len] at hlen; omega
      refine AWp.settleB (xs := (mkl d l).map prA) (sz := 2) (r := r) k 5 (by omega) (by rw [flat_prA]; exact hB) (by rw [List.length_map]; exact B5) (by rw [flat_prA]; intro e; rw [e] at hne; simp at hne) (by rw [List.length_map]; exact hnc) (prA_sz _) (by rw [flat_prA]; exact fl_val) ?_
      have B4' : upd (upd B k (g, [])) 5 (1, [u8 d, .list 2 ((mkl d l).map prA) .no]) 4 = (1, [u8 0, .list 2 [] .full]) := ((upd_ne _ _ (by omega)).trans (upd_ne _ _ (by omega))).trans B4
      generalize hB' : upd (upd B k (g, [])) 5 (1, [u8 d, .list 2 ((mkl d l).map prA) .no]) = B' at B4' ⊢
      have B5' : B' 5 = (1, [u8 d, .list 2 ((mkl d l).map prA) .no]) := by rw [← hB']; exact upd_same _ _ _
      refine AWp.seq (AWp.regionW T_ok rfl (WL.all (by simp (decide := true) only [EVs, EVt, Array.toList, s4, B4', s5, B5'] <;> exact rfl) ?_))
      refine AWp.ret ⟨_, by show aresults T _ [.cell 4 24] = some _; simp (decide := true) only [EVs, EVt, Array.toList, aresults, ares1, s4, B4']; exact rfl, .inl ?_⟩
      exact .refl _
end Go.Proofs.Ytopdgmjmpmkamaa.E
