/-
  Labels by the document (packages transomref1, transomref8), walked in abstract values. Conditions: lengths.
-/
import Derived.Test.YtfgndnackofenaaEWRef
import Derived.Test.YtfgndnackofenaaEWLev
import Derived.Test.YtfgndnackofenaaEM14
namespace Go.Proofs.Ytfgndnackofenaa.E
open Go Go.RowKit Go.Proofs.YtfgndnackofenaaW.E
set_option linter.unusedVariables false
set_option linter.unusedSimpArgs false
set_option maxRecDepth 100000
set_option maxHeartbeats 4000000

theorem sp_RLevels (d : Int) (l : List Pr) (v : Int) (hl : l.length ≤ 35184372087808) : ACall Try.prog 71 [lab d l, u8 v] (f16 (lvs l v)) := by
  refine acall_of Try.func71 rfl rfl (Nat.le_of_ble_eq_true rfl) T_ok (fun base w0 => ?_)
  refine AWp.seq (AWp.regionW T_ok rfl (WL.all (by simp (decide := true) only [EVs, EVt, Array.toList] <;> exact rfl) ?_))
  refine AWp.seq (AWp.regionW T_ok rfl (WL.all (by simp (decide := true) only [EVs, EVt, Array.toList] <;> exact rfl) ?_))
  refine AWp.seq (AWp.seq (AWp.regionW T_ok rfl (WL.all (by simp (decide := true) only [EVs, EVt, Array.toList] <;> exact rfl) ?_)))
  refine AWp.block (AWp.loop (fun n st => ∃ (j : Nat) (s : Nat → AV) (B : Nat → Nat × List AV) (L : Nat → Nat), st = ⟨32, 0, s, B, L⟩ ∧ n = l.length - j ∧ s 1 = u8 v ∧ s 2 = .ptr 2 1 0 ∧ B 2 = (1, [u8 d, lps l]) ∧ s 6 = i64 j ∧
    Acc L (s 5) 1 ((lvs (l.take j) v).map u16)) ?_ (n := l.length) ⟨0, _, _, _, rfl, rfl, rfl, rfl, rfl, rfl, ⟨_, _, rfl, .inl ⟨rfl, .inl rfl⟩⟩⟩)
  rintro n st ⟨j, s, B, L, rfl, rfl, s1, s2, hB, s6, hA⟩
  by_cases hlt : j < l.length
  · have e1 : ltI (j : Int) (l.length : Int) = true := ltI_t (by omega)
    have e2 := get_mapi prA l j hlt
    have e7 := wup j (by omega)
    have hs := lvs_snoc (l.take j) l[j] v
    rw [← take_snoc l j hlt] at hs
    have hle := lvs_len (l.take j) v
    rw [List.length_take] at hle
    refine AWp.seq (AWp.seq (AWp.regionW T_ok rfl (WL.all (by simp (decide := true) only [EVs, EVt, Array.toList, s2, hB, s6, e1] <;> exact rfl) ?_)))
    refine AWp.cond (t := true) rfl (AWp.skip ?_)
    by_cases hz : l[j].l = v
    · have c1 : eqI l[j].l v = true := eqI_t hz
      rw [if_pos hz] at hs
      refine AWp.seq (AWp.block (AWp.seq (AWp.regionW T_ok rfl (WL.all (by simp (decide := true) only [EVs, EVt, Array.toList, s1, s2, hB, s6, e2, c1] <;> exact rfl) ?_))))
      refine AWp.cond (t := true) rfl (AWp.regionW T_ok rfl (WL.next 8 rfl rfl (by simp (decide := true) only [EVs, EVt, Array.toList, s2, hB, s6, e2] <;> exact rfl) ?_))
      refine WL.acc (e := 33) (xs := (lvs (l.take j) v).map u16) (ys := [u16 l[j].c]) (sy := 1) (oy := .full) rfl rfl rfl rfl rfl rfl rfl T_u16s rfl T_u16 (by simp (decide := true) only [EVs, EVt, Array.toList]; exact hA) (by simp (decide := true) only [EVs, EVt, Array.toList]) (.inl rfl) (by simp; omega) (by decide) (fun v1 L1 hA1 => ?_)
      refine (WL.all (by simp (decide := true) only [EVs, EVt, Array.toList] <;> exact rfl) ?_)
      refine (AWp.regionW T_ok rfl (WL.all (by simp (decide := true) only [EVs, EVt, Array.toList, s6, e7] <;> exact rfl) ?_))
      refine ⟨l.length - (j + 1), by omega, j + 1, _, _, _, rfl, rfl, ?_, ?_, ?_, ?_, ?_⟩
      · simp (decide := true) only [EVs, EVt, Array.toList, s1]
      · simp (decide := true) only [EVs, EVt, Array.toList, s2]
      · simp (decide := true) only [EVs, EVt, Array.toList, hB]
      · simp (decide := true) only [EVs, EVt, Array.toList]
      · simp (decide := true) only [EVs, EVt, Array.toList]
        rw [hs, List.map_append]
        exact hA1
    · have c1 : eqI l[j].l v = false := eqI_f hz
      rw [if_neg hz, List.append_nil] at hs
      refine AWp.seq (AWp.block (AWp.seq (AWp.regionW T_ok rfl (WL.all (by simp (decide := true) only [EVs, EVt, Array.toList, s1, s2, hB, s6, e2, c1] <;> exact rfl) ?_))))
      refine AWp.cond (t := false) rfl (AWp.skip ?_)
      refine (AWp.regionW T_ok rfl (WL.all (by simp (decide := true) only [EVs, EVt, Array.toList, s6, e7] <;> exact rfl) ?_))
      refine ⟨l.length - (j + 1), by omega, j + 1, _, _, _, rfl, rfl, ?_, ?_, ?_, ?_, ?_⟩
      · simp (decide := true) only [EVs, EVt, Array.toList, s1]
      · simp (decide := true) only [EVs, EVt, Array.toList, s2]
      · simp (decide := true) only [EVs, EVt, Array.toList, hB]
      · simp (decide := true) only [EVs, EVt, Array.toList]
      · simp (decide := true) only [EVs, EVt, Array.toList]
        rw [hs]
        exact hA
  · have e1 : ltI (j : Int) (l.length : Int) = false := ltI_f (by omega)
    refine AWp.seq (AWp.seq (AWp.regionW T_ok rfl (WL.all (by simp (decide := true) only [EVs, EVt, Array.toList, s2, hB, s6, e1] <;> exact rfl) ?_)))
    refine AWp.cond (t := false) rfl (AWp.exit ?_)
    refine AWp.seq (AWp.regionW T_ok rfl (WL.all (by simp (decide := true) only [EVs, EVt, Array.toList] <;> exact rfl) ?_))
    refine AWp.ret ⟨_, rfl, .inr ⟨1, _, rfl, ?_⟩⟩
    simp (decide := true) only [EVs, EVt, Array.toList]
    rw [List.take_of_length_le (by omega)] at hA
    exact hA

theorem at_first {d : Int} : ∀ {l : List Pr} {c : Int} {j : Nat} (h : j < l.length), l[j].c = c → (∀ (i : Nat) (hi : i < l.length), i < j → l[i].c ≠ c) → at_ d l c = l[j].l
  | p :: l, c, 0, h, h1, h2 => by simp only [List.getElem_cons_zero] at h1 ⊢; rw [at_, if_pos h1]
  | p :: l, c, j + 1, h, h1, h2 => by
    have h0 : p.c ≠ c := h2 0 (by simp) (by omega)
    rw [at_, if_neg h0]
    simp only [List.getElem_cons_succ] at h1 ⊢
    exact at_first (by simpa using h) h1 (fun i hi hij => h2 (i + 1) (by simpa using hi) (by omega))
theorem sp_RAt (d : Int) (l : List Pr) (c : Int) (hl : l.length ≤ 35184372087808) : ACall Try.prog 87 [lab d l, u16 c] (u8 (at_ d l c)) := by
  refine acall_of Try.func87 rfl rfl (Nat.le_of_ble_eq_true rfl) T_ok (fun base w0 => ?_)
  refine AWp.seq (AWp.regionW T_ok rfl (WL.all (by simp (decide := true) only [EVs, EVt, Array.toList] <;> exact rfl) ?_))
  refine AWp.seq (AWp.seq (AWp.regionW T_ok rfl (WL.all (by simp (decide := true) only [EVs, EVt, Array.toList] <;> exact rfl) ?_)))
  refine AWp.block (AWp.loop (fun n st => ∃ (j : Nat) (s : Nat → AV) (B : Nat → Nat × List AV) (L : Nat → Nat), st = ⟨29, 0, s, B, L⟩ ∧ n = l.length - j ∧ s 1 = u16 c ∧ s 2 = .ptr 2 1 0 ∧ B 2 = (1, [u8 d, lps l]) ∧ s 5 = i64 j ∧
    ∀ (i : Nat) (hi : i < l.length), i < j → l[i].c ≠ c) ?_ (n := l.length) ⟨0, _, _, _, rfl, rfl, rfl, rfl, rfl, rfl, fun i hi h => by omega⟩)
  rintro n st ⟨j, s, B, L, rfl, rfl, s1, s2, hB, s5, hk⟩
  by_cases hlt : j < l.length
  · have e1 : ltI (j : Int) (l.length : Int) = true := ltI_t (by omega)
    have e2 := get_mapi prA l j hlt
    have e7 := wup j (by omega)
    refine AWp.seq (AWp.seq (AWp.regionW T_ok rfl (WL.all (by simp (decide := true) only [EVs, EVt, Array.toList, s2, hB, s5, e1] <;> exact rfl) ?_)))
    refine AWp.cond (t := true) rfl (AWp.skip ?_)
    by_cases hz : l[j].c = c
    · have c1 : eqI l[j].c c = true := eqI_t hz
      rw [at_first hlt hz hk]
      refine AWp.seq (AWp.block (AWp.seq (AWp.regionW T_ok rfl (WL.all (by simp (decide := true) only [EVs, EVt, Array.toList, s1, s2, hB, s5, e2, c1] <;> exact rfl) ?_))))
      refine AWp.cond (t := true) rfl (AWp.seq (AWp.regionW T_ok rfl (WL.all (by simp (decide := true) only [EVs, EVt, Array.toList, s2, hB, s5, e2] <;> exact rfl) ?_)))
      exact AWp.ret ⟨_, rfl, .inl (.refl _)⟩
    · have c1 : eqI l[j].c c = false := eqI_f hz
      refine AWp.seq (AWp.block (AWp.seq (AWp.regionW T_ok rfl (WL.all (by simp (decide := true) only [EVs, EVt, Array.toList, s1, s2, hB, s5, e2, c1] <;> exact rfl) ?_))))
      refine AWp.cond (t := false) rfl (AWp.skip ?_)
      refine (AWp.regionW T_ok rfl (WL.all (by simp (decide := true) only [EVs, EVt, Array.toList, s5, e7] <;> exact rfl) ?_))
      refine ⟨l.length - (j + 1), by omega, j + 1, _, _, _, rfl, rfl, ?_, ?_, ?_, ?_, fun i hi h => ?_⟩
      · simp (decide := true) only [EVs, EVt, Array.toList, s1]
      · simp (decide := true) only [EVs, EVt, Array.toList, s2]
      · simp (decide := true) only [EVs, EVt, Array.toList, hB]
      · simp (decide := true) only [EVs, EVt, Array.toList]
      · by_cases ei : i = j
        · subst ei; exact hz
        · exact hk i hi (by omega)
  · have e1 : ltI (j : Int) (l.length : Int) = false := ltI_f (by omega)
    have hn : at_ d l c = d := at_not fun hc => by
      obtain ⟨p, hp, e⟩ := List.mem_map.1 hc
      obtain ⟨i, hi, rfl⟩ := List.mem_iff_getElem.1 hp
      exact hk i hi (by omega) e
    rw [hn]
    refine AWp.seq (AWp.seq (AWp.regionW T_ok rfl (WL.all (by simp (decide := true) only [EVs, EVt, Array.toList, s2, hB, s5, e1] <;> exact rfl) ?_)))
    refine AWp.cond (t := false) rfl (AWp.exit ?_)
    refine AWp.seq (AWp.regionW T_ok rfl (WL.all (by simp (decide := true) only [EVs, EVt, Array.toList, s2, hB] <;> exact rfl) ?_))
    exact AWp.ret ⟨_, rfl, .inl (.refl _)⟩

theorem cs_snoc (l : List Pr) (p : Pr) : cs (l ++ [p]) = cs l ++ [p.c] := by simp [cs]
theorem cs_len (l : List Pr) : (cs l).length = l.length := by simp [cs]
theorem sp_Rcats (d : Int) (a : List Pr) (e : Int) (b : List Pr) (hab : a.length + b.length ≤ 70368744175616) : ACall Try.prog 98 [lab d a, lab e b] (f16 (mk (cs a ++ cs b))) := by
  have hcl : (cs a ++ cs b).length = a.length + b.length := by rw [List.length_append, cs_len, cs_len]
  refine acall_of Try.func98 rfl rfl (Nat.le_of_ble_eq_true rfl) T_ok (fun base w0 => ?_)
  refine AWp.seq (AWp.regionW T_ok rfl (WL.all (by simp (decide := true) only [EVs, EVt, Array.toList] <;> exact rfl) ?_))
  refine AWp.seq (AWp.regionW T_ok rfl (WL.all (by simp (decide := true) only [EVs, EVt, Array.toList] <;> exact rfl) ?_))
  refine AWp.seq (AWp.seq (AWp.regionW T_ok rfl (WL.all (by simp (decide := true) only [EVs, EVt, Array.toList] <;> exact rfl) ?_)))
  refine AWp.block (AWp.loop (fun n st => ∃ (j : Nat) (s : Nat → AV) (B : Nat → Nat × List AV) (L : Nat → Nat), st = ⟨42, 0, s, B, L⟩ ∧ j ≤ a.length ∧ n = a.length - j ∧ s 2 = .ptr 2 1 0 ∧ B 2 = (1, [u8 d, lps a]) ∧ s 3 = .ptr 3 1 0 ∧ B 3 = (1, [u8 e, lps b]) ∧ s 6 = i64 j ∧
    Acc L (s 5) 1 ((cs (a.take j)).map u16)) ?_ (n := a.length) ⟨0, _, _, _, rfl, by omega, rfl, rfl, rfl, rfl, rfl, rfl, ⟨_, _, rfl, .inl ⟨rfl, .inl rfl⟩⟩⟩)
  rintro n st ⟨j, s, B, L, rfl, hj, rfl, s2, B2, s3, B3, s6, hA⟩
  by_cases hlt : j < a.length
  · have e1 : ltI (j : Int) (a.length : Int) = true := ltI_t (by omega)
    have e2 := get_mapi prA a j hlt
    have e7 := wup j (by omega)
    have hs : cs (a.take (j + 1)) = cs (a.take j) ++ [a[j].c] := by rw [take_snoc a j hlt, cs_snoc]
    have hle := cs_len (a.take j)
    rw [List.length_take] at hle
    refine AWp.seq (AWp.seq (AWp.regionW T_ok rfl (WL.all (by simp (decide := true) only [EVs, EVt, Array.toList, s2, B2, s6, e1] <;> exact rfl) ?_)))
    refine AWp.cond (t := true) rfl (AWp.skip ?_)
    refine AWp.seq (AWp.block (AWp.regionW T_ok rfl (WL.next 8 rfl rfl (by simp (decide := true) only [EVs, EVt, Array.toList, s2, B2, s6, e2] <;> exact rfl) ?_)))
    refine WL.acc (e := 33) (xs := (cs (a.take j)).map u16) (ys := [u16 a[j].c]) (sy := 1) (oy := .full) rfl rfl rfl rfl rfl rfl rfl T_u16s rfl T_u16 (by simp (decide := true) only [EVs, EVt, Array.toList]; exact hA) (by simp (decide := true) only [EVs, EVt, Array.toList]) (.inl rfl) (by simp; omega) (by decide) (fun v1 L1 hA1 => ?_)
    refine (WL.all (by simp (decide := true) only [EVs, EVt, Array.toList] <;> exact rfl) ?_)
    refine (AWp.regionW T_ok rfl (WL.all (by simp (decide := true) only [EVs, EVt, Array.toList, s6, e7] <;> exact rfl) ?_))
    refine ⟨a.length - (j + 1), by omega, j + 1, _, _, _, rfl, by omega, rfl, ?_, ?_, ?_, ?_, ?_, ?_⟩
    · simp (decide := true) only [EVs, EVt, Array.toList, s2]
    · simp (decide := true) only [EVs, EVt, Array.toList, B2]
    · simp (decide := true) only [EVs, EVt, Array.toList, s3]
    · simp (decide := true) only [EVs, EVt, Array.toList, B3]
    · simp (decide := true) only [EVs, EVt, Array.toList]
    · simp (decide := true) only [EVs, EVt, Array.toList]
      rw [hs, List.map_append]
      exact hA1
  · have e1 : ltI (j : Int) (a.length : Int) = false := ltI_f (by omega)
    refine AWp.seq (AWp.seq (AWp.regionW T_ok rfl (WL.all (by simp (decide := true) only [EVs, EVt, Array.toList, s2, B2, s6, e1] <;> exact rfl) ?_)))
    refine AWp.cond (t := false) rfl (AWp.exit ?_)
    rw [List.take_of_length_le (by omega)] at hA
    refine AWp.seq (AWp.seq (AWp.regionW T_ok rfl (WL.all (by simp (decide := true) only [EVs, EVt, Array.toList] <;> exact rfl) ?_)))
    refine AWp.block (AWp.loop (fun n st => ∃ (k : Nat) (s : Nat → AV) (B : Nat → Nat × List AV) (L : Nat → Nat), st = ⟨42, 0, s, B, L⟩ ∧ k ≤ b.length ∧ n = b.length - k ∧ s 3 = .ptr 3 1 0 ∧ B 3 = (1, [u8 e, lps b]) ∧ s 7 = i64 k ∧
      Acc L (s 5) 1 ((cs a ++ cs (b.take k)).map u16)) ?_ (n := b.length) ⟨0, _, _, _, rfl, by omega, rfl, ?_, ?_, ?_, ?_⟩)
    · rintro n st ⟨k, s, B, L, rfl, hk, rfl, s3, B3, s7, hA⟩
      by_cases hlt : k < b.length
      · have e1 : ltI (k : Int) (b.length : Int) = true := ltI_t (by omega)
        have e2 := get_mapi prA b k hlt
        have e7 := wup k (by omega)
        have hs : cs (b.take (k + 1)) = cs (b.take k) ++ [b[k].c] := by rw [take_snoc b k hlt, cs_snoc]
        have hle := cs_len (b.take k)
        rw [List.length_take] at hle
        have hca := cs_len a
        refine AWp.seq (AWp.seq (AWp.regionW T_ok rfl (WL.all (by simp (decide := true) only [EVs, EVt, Array.toList, s3, B3, s7, e1] <;> exact rfl) ?_)))
        refine AWp.cond (t := true) rfl (AWp.skip ?_)
        refine AWp.seq (AWp.block (AWp.regionW T_ok rfl (WL.next 8 rfl rfl (by simp (decide := true) only [EVs, EVt, Array.toList, s3, B3, s7, e2] <;> exact rfl) ?_)))
        refine WL.acc (e := 33) (xs := (cs a ++ cs (b.take k)).map u16) (ys := [u16 b[k].c]) (sy := 1) (oy := .full) rfl rfl rfl rfl rfl rfl rfl T_u16s rfl T_u16 (by simp (decide := true) only [EVs, EVt, Array.toList]; exact hA) (by simp (decide := true) only [EVs, EVt, Array.toList]) (.inl rfl) (by simp; omega) (by decide) (fun v1 L1 hA1 => ?_)
        refine (WL.all (by simp (decide := true) only [EVs, EVt, Array.toList] <;> exact rfl) ?_)
        refine (AWp.regionW T_ok rfl (WL.all (by simp (decide := true) only [EVs, EVt, Array.toList, s7, e7] <;> exact rfl) ?_))
        refine ⟨b.length - (k + 1), by omega, k + 1, _, _, _, rfl, by omega, rfl, ?_, ?_, ?_, ?_⟩
        · simp (decide := true) only [EVs, EVt, Array.toList, s3]
        · simp (decide := true) only [EVs, EVt, Array.toList, B3]
        · simp (decide := true) only [EVs, EVt, Array.toList]
        · simp (decide := true) only [EVs, EVt, Array.toList]
          rw [hs, ← List.append_assoc, List.map_append]
          exact hA1
      · have e1 : ltI (k : Int) (b.length : Int) = false := ltI_f (by omega)
        refine AWp.seq (AWp.seq (AWp.regionW T_ok rfl (WL.all (by simp (decide := true) only [EVs, EVt, Array.toList, s3, B3, s7, e1] <;> exact rfl) ?_)))
        refine AWp.cond (t := false) rfl (AWp.exit ?_)
        rw [List.take_of_length_le (by omega)] at hA
        obtain ⟨o, sx, hv, hacc⟩ := hA
        have hw : sx = 1 ∨ (cs a ++ cs b).map u16 = [] := by
          rcases hacc with ⟨_, h | h⟩ | ⟨_, _, h⟩
          · exact .inr h
          · exact .inl h
          · exact .inl h
        refine AWp.seq (AWp.regionW T_ok rfl (WL.next 1 rfl rfl (by simp (decide := true) only [EVs, EVt, Array.toList, hv] <;> exact rfl) ?_))
        refine WL.f rfl rfl rfl rfl (by simp (decide := true) only [EVs, EVt, Array.toList, calleeOf] <;> exact rfl) (by simp (decide := true) only [EVs, EVt, Array.toList, argsOf, frz] <;> exact rfl) (ACall.wkl (sp_Make (cs a ++ cs b) (by omega)) (.cons (.list _ _ _ _ hw) .nil)) ?_
        refine (WL.all (by simp (decide := true) only [EVs, EVt, Array.toList] <;> exact rfl) ?_)
        refine AWp.ret ⟨_, rfl, .inr ⟨1, _, rfl, ?_⟩⟩
        simp (decide := true) only [EVs, EVt, Array.toList]
        exact ⟨_, _, rfl, .inr ⟨_, rfl, rfl⟩⟩
    · simp (decide := true) only [EVs, EVt, Array.toList, s3]
    · simp (decide := true) only [EVs, EVt, Array.toList, B3]
    · simp (decide := true) only [EVs, EVt, Array.toList]; rfl
    · simp (decide := true) only [EVs, EVt, Array.toList]
      simpa [cs] using hA
theorem sp_RFlows (da : Int) (a : List Pr) (db : Int) (b : List Pr) (ha : a.length ≤ 10000000) (hb : b.length ≤ 10000000) : ACall Try.prog 88 [lab da a, lab db b] (bo (flwR da a db b)) := by
  have hcl : (cs a ++ cs b).length = a.length + b.length := by rw [List.length_append, cs_len, cs_len]
  have hml := mk_len (cs a ++ cs b)
  refine acall_of Try.func88 rfl rfl (Nat.le_of_ble_eq_true rfl) T_ok (fun base w0 => ?_)
  refine AWp.seq (AWp.regionW T_ok rfl (WL.all (by simp (decide := true) only [EVs, EVt, Array.toList] <;> exact rfl) ?_))
  refine AWp.seq (AWp.regionW T_ok rfl ?_)
  (repeat (first | refine WL.c rfl rfl rfl (by simp (decide := true) only [EVs, EVt, Array.toList] <;> exact rfl) (by simp (decide := true) only [EVs, EVt, Array.toList, calleeOf] <;> exact rfl) (by simp (decide := true) only [EVs, EVt, Array.toList, argsOf, frz] <;> exact rfl) (by first | exact sp_Rcats da a db b (by omega)) rfl ?_ | refine WL.f rfl rfl rfl (by simp (decide := true) only [EVs, EVt, Array.toList] <;> exact rfl) (by simp (decide := true) only [EVs, EVt, Array.toList, calleeOf] <;> exact rfl) (by simp (decide := true) only [EVs, EVt, Array.toList, argsOf, frz] <;> exact rfl) (by first | exact sp_Rcats da a db b (by omega)) ?_ | refine WL.one (by simp (decide := true) only [EVs, EVt, Array.toList] <;> exact rfl) ?_)); refine WL.nil ?_
  refine AWp.seq (AWp.seq (AWp.regionW T_ok rfl (WL.all (by simp (decide := true) only [EVs, EVt, Array.toList] <;> exact rfl) ?_)))
  refine AWp.block (AWp.loop (fun n st => ∃ (j : Nat) (s : Nat → AV) (B : Nat → Nat × List AV) (L : Nat → Nat) (o : Own), st = ⟨34, 0, s, B, L⟩ ∧ n = (mk (cs a ++ cs b)).length - j ∧ s 2 = .ptr 2 1 0 ∧ B 2 = (1, [u8 da, lps a]) ∧ s 3 = .ptr 3 1 0 ∧ B 3 = (1, [u8 db, lps b]) ∧
    s 5 = .list 1 ((mk (cs a ++ cs b)).map u16) o ∧ s 6 = i64 j ∧ ∀ (i : Nat) (hi : i < (mk (cs a ++ cs b)).length), i < j → at_ da a (mk (cs a ++ cs b))[i] ≤ at_ db b (mk (cs a ++ cs b))[i]) ?_ (n := (mk (cs a ++ cs b)).length)
    ⟨0, _, _, _, _, rfl, rfl, rfl, rfl, rfl, rfl, rfl, rfl, fun i hi h => by omega⟩)
  rintro n st ⟨j, s, B, L, o, rfl, rfl, s2, B2, s3, B3, s5, s6, hk⟩
  by_cases hlt : j < (mk (cs a ++ cs b)).length
  · have e1 : ltI (j : Int) ((mk (cs a ++ cs b)).length : Int) = true := ltI_t (by omega)
    have e2 := get_mapi u16 (mk (cs a ++ cs b)) j hlt
    have e7 := wup j (by omega)
    have hA := sp_RAt da a (mk (cs a ++ cs b))[j] (by omega)
    have hB := sp_RAt db b (mk (cs a ++ cs b))[j] (by omega)
    refine AWp.seq (AWp.seq (AWp.regionW T_ok rfl (WL.all (by simp (decide := true) only [EVs, EVt, Array.toList, s5, s6, e1] <;> exact rfl) ?_)))
    refine AWp.cond (t := true) rfl (AWp.skip ?_)
    by_cases hz : at_ da a (mk (cs a ++ cs b))[j] ≤ at_ db b (mk (cs a ++ cs b))[j]
    · have c1 : ltI (at_ db b (mk (cs a ++ cs b))[j]) (at_ da a (mk (cs a ++ cs b))[j]) = false := ltI_f (by omega)
      refine AWp.seq (AWp.block (AWp.seq (AWp.drawnW T_ok mixed (by kernel_rfl) rfl ?_)))
      (repeat (first | refine WL.c rfl rfl rfl (by simp (decide := true) only [EVs, EVt, Array.toList, s2, B2, s3, B3, s5, s6, e2, c1] <;> exact rfl) (by simp (decide := true) only [EVs, EVt, Array.toList, calleeOf, s2, B2, s3, B3, s5, s6, e2, c1] <;> exact rfl) (by simp (decide := true) only [EVs, EVt, Array.toList, argsOf, frz, s2, B2, s3, B3, s5, s6, e2, c1] <;> exact rfl) (by first | exact hA | exact hB) rfl ?_ | refine WL.f rfl rfl rfl (by simp (decide := true) only [EVs, EVt, Array.toList, s2, B2, s3, B3, s5, s6, e2, c1] <;> exact rfl) (by simp (decide := true) only [EVs, EVt, Array.toList, calleeOf, s2, B2, s3, B3, s5, s6, e2, c1] <;> exact rfl) (by simp (decide := true) only [EVs, EVt, Array.toList, argsOf, frz, s2, B2, s3, B3, s5, s6, e2, c1] <;> exact rfl) (by first | exact hA | exact hB) ?_ | refine WL.one (by simp (decide := true) only [EVs, EVt, Array.toList, s2, B2, s3, B3, s5, s6, e2, c1] <;> exact rfl) ?_)); refine WL.nil ?_
      refine AWp.cond (t := false) rfl (AWp.skip ?_)
      refine (AWp.regionW T_ok rfl (WL.all (by simp (decide := true) only [EVs, EVt, Array.toList, s6, e7] <;> exact rfl) ?_))
      refine ⟨(mk (cs a ++ cs b)).length - (j + 1), by omega, j + 1, _, _, _, o, rfl, rfl, ?_, ?_, ?_, ?_, ?_, ?_, fun i hi h => ?_⟩
      · simp (decide := true) only [EVs, EVt, Array.toList, s2]
      · simp (decide := true) only [EVs, EVt, Array.toList, B2]
      · simp (decide := true) only [EVs, EVt, Array.toList, s3]
      · simp (decide := true) only [EVs, EVt, Array.toList, B3]
      · simp (decide := true) only [EVs, EVt, Array.toList, s5]
      · simp (decide := true) only [EVs, EVt, Array.toList]
      · by_cases ei : i = j
        · subst ei; exact hz
        · exact hk i hi (by omega)
    · have c1 : ltI (at_ db b (mk (cs a ++ cs b))[j]) (at_ da a (mk (cs a ++ cs b))[j]) = true := ltI_t (by omega)
      have hr : flwR da a db b = false := by
        have : (mk (cs a ++ cs b)).all (fun c => decide (at_ da a c ≤ at_ db b c)) = false := by
          rw [List.all_eq_false]; exact ⟨_, List.getElem_mem hlt, by simpa using hz⟩
        simp [flwR, this]
      rw [hr]
      refine AWp.seq (AWp.block (AWp.seq (AWp.drawnW T_ok mixed (by kernel_rfl) rfl ?_)))
      (repeat (first | refine WL.c rfl rfl rfl (by simp (decide := true) only [EVs, EVt, Array.toList, s2, B2, s3, B3, s5, s6, e2, c1] <;> exact rfl) (by simp (decide := true) only [EVs, EVt, Array.toList, calleeOf, s2, B2, s3, B3, s5, s6, e2, c1] <;> exact rfl) (by simp (decide := true) only [EVs, EVt, Array.toList, argsOf, frz, s2, B2, s3, B3, s5, s6, e2, c1] <;> exact rfl) (by first | exact hA | exact hB) rfl ?_ | refine WL.f rfl rfl rfl (by simp (decide := true) only [EVs, EVt, Array.toList, s2, B2, s3, B3, s5, s6, e2, c1] <;> exact rfl) (by simp (decide := true) only [EVs, EVt, Array.toList, calleeOf, s2, B2, s3, B3, s5, s6, e2, c1] <;> exact rfl) (by simp (decide := true) only [EVs, EVt, Array.toList, argsOf, frz, s2, B2, s3, B3, s5, s6, e2, c1] <;> exact rfl) (by first | exact hA | exact hB) ?_ | refine WL.one (by simp (decide := true) only [EVs, EVt, Array.toList, s2, B2, s3, B3, s5, s6, e2, c1] <;> exact rfl) ?_)); refine WL.nil ?_
      refine AWp.cond (t := true) rfl (AWp.seq (AWp.regionW T_ok rfl (WL.all (by simp (decide := true) only [EVs, EVt, Array.toList] <;> exact rfl) ?_)))
      exact AWp.ret ⟨_, rfl, .inl (.refl _)⟩
  · have e1 : ltI (j : Int) ((mk (cs a ++ cs b)).length : Int) = false := ltI_f (by omega)
    have hall : (mk (cs a ++ cs b)).all (fun c => decide (at_ da a c ≤ at_ db b c)) = true := by
      rw [List.all_eq_true]
      intro c hc
      obtain ⟨i, hi, rfl⟩ := List.mem_iff_getElem.1 hc
      exact decide_eq_true (hk i hi (by omega))
    have hr : flwR da a db b = leI da db := by simp [flwR, hall, leI]
    rw [hr]
    refine AWp.seq (AWp.seq (AWp.regionW T_ok rfl (WL.all (by simp (decide := true) only [EVs, EVt, Array.toList, s5, s6, e1] <;> exact rfl) ?_)))
    refine AWp.cond (t := false) rfl (AWp.exit ?_)
    refine AWp.seq (AWp.regionW T_ok rfl (WL.all (by simp (decide := true) only [EVs, EVt, Array.toList, s2, B2, s3, B3] <;> exact rfl) ?_))
    exact AWp.ret ⟨_, rfl, .inl (.refl _)⟩

theorem lvl_take_succ (d : Int) (l : List Pr) (k : Nat) (h : k < l.length) (c : Int) : lvl d (l.take (k + 1)) c = if l[k].c = c then l[k].l else lvl d (l.take k) c := by rw [take_snoc l k h, lvl_snoc]
def mkT (d : Int) (l : List Pr) (cc : List Int) : List Pr := cc.filterMap fun c => if lvl d l c = d then none else some ⟨c, lvl d l c⟩
theorem sp_MakeLab (d : Int) (l : List Pr) (hl : l.length ≤ 35184372087900) : ACall Try.prog 82 [u8 d, lps l] (lab d (mkl d l)) := by
  have hcl := cs_len l
  have hml := mk_len (cs l)
  have h0 := sp_Rcats 0 l 0 [] (by simp; omega)
  rw [show cs l ++ cs [] = cs l by simp [cs]] at h0
  refine acall_of Try.func82 rfl rfl (Nat.le_of_ble_eq_true rfl) T_ok (fun base w0 => ?_)
  refine AWp.seq (AWp.regionW T_ok rfl (WL.all (by simp (decide := true) only [EVs, EVt, Array.toList] <;> exact rfl) ?_))
  refine AWp.seq (AWp.regionW T_ok rfl (WL.all (by simp (decide := true) only [EVs, EVt, Array.toList] <;> exact rfl) ?_))
  refine AWp.seq (AWp.regionW T_ok rfl (WL.next 3 rfl rfl (by simp (decide := true) only [EVs, EVt, Array.toList] <;> exact rfl) ?_))
  refine WL.f rfl rfl rfl rfl (by simp (decide := true) only [EVs, EVt, Array.toList, calleeOf] <;> exact rfl) (by simp (decide := true) only [EVs, EVt, Array.toList, argsOf, frz] <;> exact rfl) (ACall.wkl h0 (.cons (.refl _) (.cons (Wk.agg' (.cons (.refl _) (.cons (.list _ _ _ _ (.inr rfl)) .nil))) .nil))) ?_
  refine (WL.all (by simp (decide := true) only [EVs, EVt, Array.toList] <;> exact rfl) ?_)
  refine AWp.seq (AWp.seq (AWp.regionW T_ok rfl (WL.all (by simp (decide := true) only [EVs, EVt, Array.toList] <;> exact rfl) ?_)))
  refine AWp.block (AWp.loop (fun n st => ∃ (j : Nat) (s : Nat → AV) (B : Nat → Nat × List AV) (L : Nat → Nat) (o : Own) (u : AV), st = ⟨59, 0, s, B, L⟩ ∧ n = (mk (cs l)).length - j ∧ s 0 = u8 d ∧ s 1 = lps l ∧ s 4 = .ptr 4 1 0 ∧ B 4 = (1, [u8 0, .list 2 [] .full]) ∧ s 5 = .ptr 5 1 0 ∧ B 5 = (1, [u8 d, u]) ∧
    s 6 = .list 1 ((mk (cs l)).map u16) o ∧ s 7 = i64 j ∧ Acc L u 2 ((mkT d l ((mk (cs l)).take j)).map prA)) ?_ (n := (mk (cs l)).length)
    ⟨0, _, _, _, _, .list 2 [] .full, rfl, rfl, rfl, rfl, rfl, rfl, rfl, rfl, rfl, rfl, ⟨_, _, rfl, .inl ⟨rfl, .inl rfl⟩⟩⟩)
  rintro n st ⟨j, s, B, L, o, u, rfl, rfl, s0, s1, s4, B4, s5, B5, s6, s7, hA⟩
  by_cases hlt : j < (mk (cs l)).length
  · have e1 : ltI (j : Int) ((mk (cs l)).length : Int) = true := ltI_t (by omega)
    have e2 := get_mapi u16 (mk (cs l)) j hlt
    have e7 := wup j (by omega)
    have hle : (mkT d l ((mk (cs l)).take j)).length ≤ j := by
      have := List.length_filterMap_le (fun c => if lvl d l c = d then none else some (⟨c, lvl d l c⟩ : Pr)) ((mk (cs l)).take j)
      rw [List.length_take] at this
      unfold mkT; omega
    have hs : mkT d l ((mk (cs l)).take (j + 1)) = mkT d l ((mk (cs l)).take j) ++ (if lvl d l (mk (cs l))[j] = d then [] else [⟨(mk (cs l))[j], lvl d l (mk (cs l))[j]⟩]) := by
      rw [take_snoc _ j hlt]
      unfold mkT
      rw [List.filterMap_append]
      by_cases h : lvl d l (mk (cs l))[j] = d <;> simp [h]
    refine AWp.seq (AWp.seq (AWp.regionW T_ok rfl (WL.all (by simp (decide := true) only [EVs, EVt, Array.toList, s6, s7, e1] <;> exact rfl) ?_)))
    refine AWp.cond (t := true) rfl (AWp.skip ?_)
    refine AWp.seq (AWp.block (AWp.seq (AWp.regionW T_ok rfl (WL.all (by simp (decide := true) only [EVs, EVt, Array.toList, s0] <;> exact rfl) ?_))))
    refine AWp.seq (AWp.seq (AWp.regionW T_ok rfl (WL.all (by simp (decide := true) only [EVs, EVt, Array.toList] <;> exact rfl) ?_)))
    refine AWp.block (AWp.loop (fun n st => ∃ (k : Nat) (s : Nat → AV), st = ⟨59, 0, s, B, L⟩ ∧ k ≤ l.length ∧ n = l.length - k ∧ s 0 = u8 d ∧ s 1 = lps l ∧ s 4 = .ptr 4 1 0 ∧ s 5 = .ptr 5 1 0 ∧ s 6 = .list 1 ((mk (cs l)).map u16) o ∧ s 7 = i64 j ∧
      s 8 = u8 (lvl d (l.take k) (mk (cs l))[j]) ∧ s 9 = i64 k) ?_ (n := l.length) ⟨0, _, rfl, by omega, rfl, ?_, ?_, ?_, ?_, ?_, ?_, ?_, ?_⟩)
    · rintro n st ⟨k, s, rfl, hk, rfl, s0, s1, s4, s5, s6, s7, s8, s9⟩
      by_cases hkl : k < l.length
      · have f1 : ltI (k : Int) (l.length : Int) = true := ltI_t (by omega)
        have f2 := get_mapi prA l k hkl
        have f7 := wup k (by omega)
        have f8 := lvl_take_succ d l k hkl (mk (cs l))[j]
        refine AWp.seq (AWp.seq (AWp.regionW T_ok rfl (WL.all (by simp (decide := true) only [EVs, EVt, Array.toList, s1, s9, f1] <;> exact rfl) ?_)))
        refine AWp.cond (t := true) rfl (AWp.skip ?_)
        by_cases hz : l[k].c = (mk (cs l))[j]
        · have c1 : eqI l[k].c (mk (cs l))[j] = true := eqI_t hz
          rw [if_pos hz] at f8
          refine AWp.seq (AWp.block (AWp.seq (AWp.drawnW T_ok mixed (by kernel_rfl) rfl (WL.all (by simp (decide := true) only [EVs, EVt, Array.toList, s1, s6, s7, s9, e2, f2, c1] <;> exact rfl) ?_))))
          refine AWp.cond (t := true) rfl (AWp.regionW T_ok rfl (WL.all (by simp (decide := true) only [EVs, EVt, Array.toList, s1, s9, f2] <;> exact rfl) ?_))
          refine (AWp.regionW T_ok rfl (WL.all (by simp (decide := true) only [EVs, EVt, Array.toList, s9, f7] <;> exact rfl) ?_))
          refine ⟨l.length - (k + 1), by omega, k + 1, _, rfl, by omega, rfl, ?_, ?_, ?_, ?_, ?_, ?_, ?_, ?_⟩
          · simp (decide := true) only [EVs, EVt, Array.toList, s0]
          · simp (decide := true) only [EVs, EVt, Array.toList, s1]
          · simp (decide := true) only [EVs, EVt, Array.toList, s4]
          · simp (decide := true) only [EVs, EVt, Array.toList, s5]
          · simp (decide := true) only [EVs, EVt, Array.toList, s6]
          · simp (decide := true) only [EVs, EVt, Array.toList, s7]
          · simp (decide := true) only [EVs, EVt, Array.toList, f8]
          · simp (decide := true) only [EVs, EVt, Array.toList]
        · have c1 : eqI l[k].c (mk (cs l))[j] = false := eqI_f hz
          rw [if_neg hz] at f8
          refine AWp.seq (AWp.block (AWp.seq (AWp.drawnW T_ok mixed (by kernel_rfl) rfl (WL.all (by simp (decide := true) only [EVs, EVt, Array.toList, s1, s6, s7, s9, e2, f2, c1] <;> exact rfl) ?_))))
          refine AWp.cond (t := false) rfl (AWp.skip ?_)
          refine (AWp.regionW T_ok rfl (WL.all (by simp (decide := true) only [EVs, EVt, Array.toList, s9, f7] <;> exact rfl) ?_))
          refine ⟨l.length - (k + 1), by omega, k + 1, _, rfl, by omega, rfl, ?_, ?_, ?_, ?_, ?_, ?_, ?_, ?_⟩
          · simp (decide := true) only [EVs, EVt, Array.toList, s0]
          · simp (decide := true) only [EVs, EVt, Array.toList, s1]
          · simp (decide := true) only [EVs, EVt, Array.toList, s4]
          · simp (decide := true) only [EVs, EVt, Array.toList, s5]
          · simp (decide := true) only [EVs, EVt, Array.toList, s6]
          · simp (decide := true) only [EVs, EVt, Array.toList, s7]
          · simp (decide := true) only [EVs, EVt, Array.toList, f8, s8]
          · simp (decide := true) only [EVs, EVt, Array.toList]
      · have f1 : ltI (k : Int) (l.length : Int) = false := ltI_f (by omega)
        rw [List.take_of_length_le (by omega)] at s8
        refine AWp.seq (AWp.seq (AWp.regionW T_ok rfl (WL.all (by simp (decide := true) only [EVs, EVt, Array.toList, s1, s9, f1] <;> exact rfl) ?_)))
        refine AWp.cond (t := false) rfl (AWp.exit ?_)
        by_cases hz : lvl d l (mk (cs l))[j] = d
        · have c1 : eqI (lvl d l (mk (cs l))[j]) d = true := eqI_t hz
          rw [if_pos hz, List.append_nil] at hs
          refine AWp.seq (AWp.regionW T_ok rfl (WL.all (by simp (decide := true) only [EVs, EVt, Array.toList, s0, s8, c1] <;> exact rfl) ?_))
          refine AWp.cond (t := false) rfl (AWp.skip ?_)
          refine (AWp.regionW T_ok rfl (WL.all (by simp (decide := true) only [EVs, EVt, Array.toList, s7, e7] <;> exact rfl) ?_))
          refine ⟨(mk (cs l)).length - (j + 1), by omega, j + 1, _, _, _, o, u, rfl, rfl, ?_, ?_, ?_, ?_, ?_, ?_, ?_, ?_, ?_⟩
          · simp (decide := true) only [EVs, EVt, Array.toList, s0]
          · simp (decide := true) only [EVs, EVt, Array.toList, s1]
          · simp (decide := true) only [EVs, EVt, Array.toList, s4]
          · simp (decide := true) only [EVs, EVt, Array.toList, B4]
          · simp (decide := true) only [EVs, EVt, Array.toList, s5]
          · simp (decide := true) only [EVs, EVt, Array.toList, B5]
          · simp (decide := true) only [EVs, EVt, Array.toList, s6]
          · simp (decide := true) only [EVs, EVt, Array.toList]
          · rw [hs]; exact hA
        · have c1 : eqI (lvl d l (mk (cs l))[j]) d = false := eqI_f hz
          rw [if_neg hz] at hs
          refine AWp.seq (AWp.regionW T_ok rfl (WL.all (by simp (decide := true) only [EVs, EVt, Array.toList, s0, s8, c1] <;> exact rfl) ?_))
          refine AWp.cond (t := true) rfl (AWp.drawnW T_ok mixed (by kernel_rfl) rfl (WL.next 9 rfl rfl (by simp (decide := true) only [EVs, EVt, Array.toList, s5, B5, s6, s7, s8, e2] <;> exact rfl) ?_))
          refine WL.acc (e := 61) (xs := (mkT d l ((mk (cs l)).take j)).map prA) (ys := [prA ⟨(mk (cs l))[j], lvl d l (mk (cs l))[j]⟩]) (sy := 2) (oy := .full) rfl rfl rfl rfl rfl rfl rfl T_prs rfl T_pr (by simp (decide := true) only [EVs, EVt, Array.toList]; exact hA) (by simp (decide := true) only [EVs, EVt, Array.toList]) (.inl rfl) (by simp; omega) (by decide) (fun v1 L1 hA1 => ?_)
          have hA1' := hA1
          obtain ⟨o1, sx1, rfl, _⟩ := hA1
          refine (WL.all (by simp (decide := true) only [EVs, EVt, Array.toList, s5, B5] <;> exact rfl) ?_)
          refine (AWp.regionW T_ok rfl (WL.all (by simp (decide := true) only [EVs, EVt, Array.toList, s7, e7] <;> exact rfl) ?_))
          refine ⟨(mk (cs l)).length - (j + 1), by omega, j + 1, _, _, _, o, .list sx1 ((mkT d l ((mk (cs l)).take j)).map prA ++ [prA ⟨(mk (cs l))[j], lvl d l (mk (cs l))[j]⟩]) o1, rfl, rfl, ?_, ?_, ?_, ?_, ?_, ?_, ?_, ?_, ?_⟩
          · simp (decide := true) only [EVs, EVt, Array.toList, s0]
          · simp (decide := true) only [EVs, EVt, Array.toList, s1]
          · simp (decide := true) only [EVs, EVt, Array.toList, s4]
          · simp (decide := true) only [EVs, EVt, Array.toList, B4]
          · simp (decide := true) only [EVs, EVt, Array.toList, s5]
          · simp (decide := true) only [EVs, EVt, Array.toList, B5]
          · simp (decide := true) only [EVs, EVt, Array.toList, s6]
          · simp (decide := true) only [EVs, EVt, Array.toList]
          · rw [hs, List.map_append]; exact hA1'
    · simp (decide := true) only [EVs, EVt, Array.toList, s0]
    · simp (decide := true) only [EVs, EVt, Array.toList, s1]
    · simp (decide := true) only [EVs, EVt, Array.toList, s4]
    · simp (decide := true) only [EVs, EVt, Array.toList, s5]
    · simp (decide := true) only [EVs, EVt, Array.toList, s6]
    · simp (decide := true) only [EVs, EVt, Array.toList, s7]
    · simp (decide := true) only [EVs, EVt, Array.toList]; rfl
    · simp (decide := true) only [EVs, EVt, Array.toList]; rfl
  · have e1 : ltI (j : Int) ((mk (cs l)).length : Int) = false := ltI_f (by omega)
    rw [List.take_of_length_le (by omega)] at hA
    obtain ⟨o2, sx, rfl, hacc⟩ := hA
    have hw : sx = 2 ∨ (mkl d l).map prA = [] := by
      rcases hacc with ⟨_, h | h⟩ | ⟨_, _, h⟩
      · exact .inr h
      · exact .inl h
      · exact .inl h
    refine AWp.seq (AWp.seq (AWp.regionW T_ok rfl (WL.all (by simp (decide := true) only [EVs, EVt, Array.toList, s6, s7, e1] <;> exact rfl) ?_)))
    refine AWp.cond (t := false) rfl (AWp.exit ?_)
    refine AWp.seq (AWp.regionW T_ok rfl (WL.all (by simp (decide := true) only [EVs, EVt, Array.toList, s4, B4, s5, B5] <;> exact rfl) ?_))
    refine AWp.ret ⟨_, by show aresults T _ [.cell 4 39] = some _; simp (decide := true) only [EVs, EVt, Array.toList, aresults, ares1, s4, B4]; exact rfl, .inl ?_⟩
    exact Wk.agg' (.cons (.refl _) (.cons (.list _ _ _ _ hw) .nil))
theorem sp_RRiseAll (d : Int) (l : List Pr) (hl : l.length ≤ 35184372087808) : ACall Try.prog 91 [lab d l] (lab (rise d) (risR d l)) := by
  refine acall_of Try.func91 rfl rfl (Nat.le_of_ble_eq_true rfl) T_ok (fun base w0 => ?_)
  refine AWp.seq (AWp.regionW T_ok rfl (WL.all (by simp (decide := true) only [EVs, EVt, Array.toList] <;> exact rfl) ?_))
  refine AWp.seq (AWp.regionW T_ok rfl (WL.all (by simp (decide := true) only [EVs, EVt, Array.toList] <;> exact rfl) ?_))
  refine AWp.seq (AWp.seq (AWp.regionW T_ok rfl (WL.all (by simp (decide := true) only [EVs, EVt, Array.toList] <;> exact rfl) ?_)))
  refine AWp.block (AWp.loop (fun n st => ∃ (j : Nat) (s : Nat → AV) (B : Nat → Nat × List AV) (L : Nat → Nat), st = ⟨34, 0, s, B, L⟩ ∧ n = l.length - j ∧ s 1 = .ptr 1 1 0 ∧ B 1 = (1, [u8 d, lps l]) ∧ s 2 = .ptr 2 1 0 ∧ B 2 = (1, [u8 0, .list 2 [] .full]) ∧ s 4 = i64 j ∧
    Acc L (s 3) 2 (((l.take j).map fun p => (⟨p.c, rise p.l⟩ : Pr)).map prA)) ?_ (n := l.length) ⟨0, _, _, _, rfl, rfl, rfl, rfl, rfl, rfl, rfl, ⟨_, _, rfl, .inl ⟨rfl, .inl rfl⟩⟩⟩)
  rintro n st ⟨j, s, B, L, rfl, rfl, s1, B1, s2, B2, s4, hA⟩
  by_cases hlt : j < l.length
  · have e1 : ltI (j : Int) (l.length : Int) = true := ltI_t (by omega)
    have e2 := get_mapi prA l j hlt
    have e7 := wup j (by omega)
    have hs : ((l.take (j + 1)).map fun p => (⟨p.c, rise p.l⟩ : Pr)) = ((l.take j).map fun p => (⟨p.c, rise p.l⟩ : Pr)) ++ [⟨l[j].c, rise l[j].l⟩] := by rw [take_snoc l j hlt, List.map_append]; rfl
    refine AWp.seq (AWp.seq (AWp.regionW T_ok rfl (WL.all (by simp (decide := true) only [EVs, EVt, Array.toList, s1, B1, s4, e1] <;> exact rfl) ?_)))
    refine AWp.cond (t := true) rfl (AWp.skip ?_)
    refine AWp.seq (AWp.block (AWp.drawnW T_ok mixed (by kernel_rfl) rfl (WL.next 13 rfl rfl (by simp (decide := true) only [EVs, EVt, Array.toList, s1, B1, s4, e2] <;> exact rfl) ?_)))
    refine WL.c rfl rfl rfl rfl (by simp (decide := true) only [EVs, EVt, Array.toList, calleeOf] <;> exact rfl) (by simp (decide := true) only [EVs, EVt, Array.toList, argsOf, frz] <;> exact rfl) (sp_RRise l[j].l) rfl ?_
    refine (WL.next 2 rfl rfl (by simp (decide := true) only [EVs, EVt, Array.toList] <;> exact rfl) ?_)
    refine WL.acc (e := 61) (xs := ((l.take j).map fun p => (⟨p.c, rise p.l⟩ : Pr)).map prA) (ys := [prA ⟨l[j].c, rise l[j].l⟩]) (sy := 2) (oy := .full) rfl rfl rfl rfl rfl rfl rfl T_prs rfl T_pr (by simp (decide := true) only [EVs, EVt, Array.toList]; exact hA) (by simp (decide := true) only [EVs, EVt, Array.toList]) (.inl rfl) (by simp; omega) (by decide) (fun v1 L1 hA1 => ?_)
    refine (WL.all (by simp (decide := true) only [EVs, EVt, Array.toList] <;> exact rfl) ?_)
    refine (AWp.regionW T_ok rfl (WL.all (by simp (decide := true) only [EVs, EVt, Array.toList, s4, e7] <;> exact rfl) ?_))
    refine ⟨l.length - (j + 1), by omega, j + 1, _, _, _, rfl, rfl, ?_, ?_, ?_, ?_, ?_, ?_⟩
    · simp (decide := true) only [EVs, EVt, Array.toList, s1]
    · simp (decide := true) only [EVs, EVt, Array.toList, B1]
    · simp (decide := true) only [EVs, EVt, Array.toList, s2]
    · simp (decide := true) only [EVs, EVt, Array.toList, B2]
    · simp (decide := true) only [EVs, EVt, Array.toList]
    · simp (decide := true) only [EVs, EVt, Array.toList]
      rw [hs, List.map_append]; exact hA1
  · have e1 : ltI (j : Int) (l.length : Int) = false := ltI_f (by omega)
    rw [List.take_of_length_le (by omega)] at hA
    obtain ⟨o2, sx, hv, hacc⟩ := hA
    have hw : sx = 2 ∨ (l.map fun p => (⟨p.c, rise p.l⟩ : Pr)).map prA = [] := by
      rcases hacc with ⟨_, h | h⟩ | ⟨_, _, h⟩
      · exact .inr h
      · exact .inl h
      · exact .inl h
    have hM := sp_MakeLab (rise d) (l.map fun p => (⟨p.c, rise p.l⟩ : Pr)) (by simp; omega)
    refine AWp.seq (AWp.seq (AWp.regionW T_ok rfl (WL.all (by simp (decide := true) only [EVs, EVt, Array.toList, s1, B1, s4, e1] <;> exact rfl) ?_)))
    refine AWp.cond (t := false) rfl (AWp.exit ?_)
    refine AWp.seq (AWp.regionW T_ok rfl ?_)
    (repeat (first | refine WL.c rfl rfl rfl (by simp (decide := true) only [EVs, EVt, Array.toList, s1, B1, s2, B2, hv] <;> exact rfl) (by simp (decide := true) only [EVs, EVt, Array.toList, calleeOf, s1, B1, s2, B2, hv] <;> exact rfl) (by simp (decide := true) only [EVs, EVt, Array.toList, argsOf, frz, s1, B1, s2, B2, hv] <;> exact rfl) (by first | exact sp_RRise d | exact ACall.wkl hM (.cons (.refl _) (.cons (.list _ _ _ _ hw) .nil))) rfl ?_ | refine WL.f rfl rfl rfl (by simp (decide := true) only [EVs, EVt, Array.toList, s1, B1, s2, B2, hv] <;> exact rfl) (by simp (decide := true) only [EVs, EVt, Array.toList, calleeOf, s1, B1, s2, B2, hv] <;> exact rfl) (by simp (decide := true) only [EVs, EVt, Array.toList, argsOf, frz, s1, B1, s2, B2, hv] <;> exact rfl) (by first | exact sp_RRise d | exact ACall.wkl hM (.cons (.refl _) (.cons (.list _ _ _ _ hw) .nil))) ?_ | refine WL.one (by simp (decide := true) only [EVs, EVt, Array.toList, s1, B1, s2, B2, hv] <;> exact rfl) ?_)); refine WL.nil ?_
    exact AWp.ret ⟨_, by show aresults T _ [.cell 2 39] = some _; simp (decide := true) only [EVs, EVt, Array.toList, aresults, ares1, s2, B2]; exact rfl, .inl (.refl _)⟩
end Go.Proofs.Ytfgndnackofenaa.E
