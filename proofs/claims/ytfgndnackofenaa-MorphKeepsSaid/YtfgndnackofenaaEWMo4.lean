/-
  Records of objects, by the document, and the statement MorphKeeps of layer 27, walked in abstract values. Conditions: lengths, bytes.
-/
import Derived.Test.YtfgndnackofenaaEWMo3
import Derived.Test.YtfgndnackofenaaEWRPut
namespace Go.Proofs.Ytfgndnackofenaa.E
open Go Go.RowKit Go.Proofs.YtfgndnackofenaaW.E
set_option linter.unusedVariables false
set_option linter.unusedSimpArgs false
set_option maxRecDepth 100000
set_option maxHeartbeats 8000000

theorem plainO_spec {b : Ob} (h : plainO b = true) : (b.kind = 1 ∨ b.kind = 2 ∨ b.kind = 3 ∨ b.kind = 4) ∧ (b.kind = 2 → b.dat.length ≤ 64) ∧ (b.kind = 3 → b.cats.length ≤ 16) ∧ (b.kind = 4 → b.ring.length ≤ 4 ∧ ∀ x ∈ b.ring, x.length ≤ 16) := by
  simp only [plainO, Bool.and_eq_true] at h
  have h := h.2
  by_cases k1 : b.kind = 1
  · exact ⟨.inl k1, by omega, by omega, by omega⟩
  rw [if_neg k1] at h
  by_cases k2 : b.kind = 2
  · rw [if_pos k2] at h
    refine ⟨.inr (.inl k2), fun _ => ?_, by omega, by omega⟩
    simp only [leI, decide_eq_true_eq] at h
    omega
  rw [if_neg k2] at h
  by_cases k3 : b.kind = 3
  · rw [if_pos k3] at h
    exact ⟨.inr (.inr (.inl k3)), by omega, fun _ => mayC_len h, by omega⟩
  rw [if_neg k3] at h
  by_cases k4 : b.kind = 4
  · rw [if_pos k4] at h
    simp only [mayRg, Bool.and_eq_true, List.all_eq_true, leI, ltI, decide_eq_true_eq, Bool.not_eq_true', decide_eq_false_iff_not] at h
    refine ⟨.inr (.inr (.inr k4)), by omega, by omega, fun _ => ⟨by omega, fun x hx => ?_⟩⟩
    have := h.1 x hx
    omega
  rw [if_neg k4] at h
  cases h
theorem sp_RPutBytes (b s : List Int) (hb : b.length ≤ 40000000000000) (hs : s.length ≤ 40000000000000) : ACall Try.prog 95 [l8 b, l8 s] (f8 (b ++ puB s)) := by
  have f1 := sp_RPut b (IntKind.u64.wrap s.length) 2 (by omega) (by omega)
  refine acall_of Try.func95 rfl rfl (Nat.le_of_ble_eq_true rfl) T_ok (fun base w0 => ?_)
  refine AWp.seq (AWp.regionW T_ok rfl (WL.all (by simp (decide := true) only [EVs, EVt, Array.toList] <;> exact rfl) ?_))
  refine AWp.seq (AWp.regionW T_ok rfl (WL.next 4 rfl rfl (by simp (decide := true) only [EVs, EVt, Array.toList] <;> exact rfl) ?_))
  refine WL.f rfl rfl rfl rfl (by simp (decide := true) only [EVs, EVt, Array.toList, calleeOf] <;> exact rfl) (by simp (decide := true) only [EVs, EVt, Array.toList, argsOf, frz] <;> exact rfl) f1 ?_
  refine (WL.next 1 rfl rfl (by simp (decide := true) only [EVs, EVt, Array.toList] <;> exact rfl) ?_)
  refine WL.acc (e := 5) (xs := (b ++ pb (IntKind.u64.wrap s.length) 2).map u8) (ys := s.map u8) (sy := 1) (oy := .no) rfl rfl rfl rfl rfl rfl rfl T_u8s rfl T_u8 (by simp (decide := true) only [EVs, EVt, Array.toList]; exact ⟨_, _, rfl, .inr ⟨_, rfl, rfl⟩⟩) (by simp (decide := true) only [EVs, EVt, Array.toList]) (.inl rfl) (by simp [pb_len]; omega) (by decide) (fun v1 L1 hA1 => ?_)
  refine (WL.all (by simp (decide := true) only [EVs, EVt, Array.toList] <;> exact rfl) ?_)
  refine AWp.ret ⟨_, rfl, .inr ⟨1, _, rfl, ?_⟩⟩
  simp (decide := true) only [EVs, EVt, Array.toList]
  rw [puB, ← List.append_assoc, List.map_append (l₁ := b ++ pb (IntKind.u64.wrap s.length) 2)]
  exact hA1
theorem sp_RPutSet (b : List Int) (l : List Int) (hb : b.length ≤ 1000000000000) (hl : l.length ≤ 1000000000000) : ACall Try.prog 96 [l8 b, l16 l] (f8 (b ++ puS l)) := by
  refine acall_of Try.func96 rfl rfl (Nat.le_of_ble_eq_true rfl) T_ok (fun base w0 => ?_)
  refine AWp.seq (AWp.regionW T_ok rfl (WL.all (by simp (decide := true) only [EVs, EVt, Array.toList] <;> exact rfl) ?_))
  refine AWp.seq (AWp.regionW T_ok rfl (WL.next 2 rfl rfl (by simp (decide := true) only [EVs, EVt, Array.toList] <;> exact rfl) ?_))
  refine WL.acc (e := 5) (xs := []) (ys := b.map u8) (sy := 1) (oy := .no) rfl rfl rfl rfl rfl rfl rfl T_u8s rfl T_u8 (by simp (decide := true) only [EVs, EVt, Array.toList]; exact ⟨_, _, rfl, .inl ⟨rfl, .inl rfl⟩⟩) (by simp (decide := true) only [EVs, EVt, Array.toList]) (.inl rfl) (by simp; omega) (by decide) (fun v1 L1 hA1 => ?_)
  refine (WL.next 4 rfl rfl (by simp (decide := true) only [EVs, EVt, Array.toList] <;> exact rfl) ?_)
  refine WL.acc (e := 5) (ys := [u8 (IntKind.u8.wrap l.length)]) (sy := 1) (oy := .full) rfl rfl rfl rfl rfl rfl rfl T_u8s rfl T_u8 (by simp (decide := true) only [EVs, EVt, Array.toList]; exact hA1) (by simp (decide := true) only [EVs, EVt, Array.toList]) (.inl rfl) (by simp; omega) (by decide) (fun v2 L2 hA2 => ?_)
  refine (WL.all (by simp (decide := true) only [EVs, EVt, Array.toList] <;> exact rfl) ?_)
  rw [List.nil_append] at hA2
  have hA3 : Acc L2 v2 1 ((b ++ [IntKind.u8.wrap l.length]).map u8) := by rw [List.map_append]; exact hA2
  refine AWp.seq (AWp.seq (AWp.regionW T_ok rfl (WL.all (by simp (decide := true) only [EVs, EVt, Array.toList] <;> exact rfl) ?_)))
  refine AWp.block (AWp.loop (fun n st => ∃ (j : Nat) (out : List Int) (q : Nat → AV) (B : Nat → Nat × List AV) (L : Nat → Nat), st = ⟨28, 0, q, B, L⟩ ∧ j ≤ l.length ∧ n = l.length - j ∧ q 1 = l16 l ∧ q 5 = i64 j ∧
    Acc L (q 0) 1 (out.map u8) ∧ 1 ≤ out.length ∧ out.length ≤ b.length + 1 + 2 * j ∧ out = b ++ [IntKind.u8.wrap l.length] ++ (l.take j).flatMap (fun c => pb (IntKind.u64.wrap c) 2)) ?_ (n := l.length)
    ⟨0, b ++ [IntKind.u8.wrap l.length], _, _, _, rfl, by omega, rfl, ?_, ?_, ?_, by simp, by simp, by simp⟩)
  · rintro n st ⟨j, out, q, B, L, rfl, hj, rfl, q1, q5, hA, hl1, hlen, ho⟩
    by_cases hlt : j < l.length
    · have e1 : ltI (j : Int) (l.length : Int) = true := ltI_t (by omega)
      have e2 := get_mapi u16 l j hlt
      have e7 := wup j (by omega)
      have hp : (pb (IntKind.u64.wrap l[j]) 2).length = 2 := pb_len _ _
      obtain ⟨ow, sx, hv, hacc⟩ := hA
      have hsx : sx = 1 := by
        rcases hacc with ⟨_, h | h⟩ | ⟨_, _, h⟩
        · exfalso
          have := congrArg List.length h
          simp at this
          rw [this, List.length_nil] at hl1
          omega
        · exact h
        · exact h
      subst hsx
      refine AWp.seq (AWp.seq (AWp.regionW T_ok rfl (WL.all (by simp (decide := true) only [EVs, EVt, Array.toList, q1, q5, e1] <;> exact rfl) ?_)))
      refine AWp.cond (t := true) rfl (AWp.skip ?_)
      refine AWp.seq (AWp.block (AWp.regionW T_ok rfl (WL.next 6 rfl rfl (by simp (decide := true) only [EVs, EVt, Array.toList, q1, q5, e2, hv] <;> exact rfl) ?_)))
      refine WL.f rfl rfl rfl rfl (by simp (decide := true) only [EVs, EVt, Array.toList, calleeOf] <;> exact rfl) (by simp (decide := true) only [EVs, EVt, Array.toList, argsOf, frz] <;> exact rfl) (ACall.wkl (sp_RPut out (IntKind.u64.wrap l[j]) 2 (by omega) (by omega)) (.cons (.list _ _ _ _ (.inl rfl)) (.cons (.refl _) (.cons (.refl _) .nil)))) ?_
      refine (WL.all (by simp (decide := true) only [EVs, EVt, Array.toList] <;> exact rfl) ?_)
      refine (AWp.regionW T_ok rfl (WL.all (by simp (decide := true) only [EVs, EVt, Array.toList, q5, e7] <;> exact rfl) ?_))
      refine ⟨l.length - (j + 1), by omega, j + 1, out ++ (fun c => pb (IntKind.u64.wrap c) 2) l[j], _, _, _, rfl, by omega, rfl, ?_, ?_, ?_, by rw [List.length_append]; omega, by rw [List.length_append]; simp only [pb_len, puB_len]; omega, ?_⟩
      · simp (decide := true) only [EVs, EVt, Array.toList, q1]
      · simp (decide := true) only [EVs, EVt, Array.toList]
      · simp (decide := true) only [EVs, EVt, Array.toList]
        exact ⟨_, _, rfl, .inr ⟨_, rfl, rfl⟩⟩
      · rw [ho, take_snoc l j hlt, List.flatMap_append]; simp
    · have e1 : ltI (j : Int) (l.length : Int) = false := ltI_f (by omega)
      refine AWp.seq (AWp.seq (AWp.regionW T_ok rfl (WL.all (by simp (decide := true) only [EVs, EVt, Array.toList, q1, q5, e1] <;> exact rfl) ?_)))
      refine AWp.cond (t := false) rfl (AWp.exit ?_)
      refine AWp.seq (AWp.regionW T_ok rfl (WL.all (by simp (decide := true) only [EVs, EVt, Array.toList] <;> exact rfl) ?_))
      refine AWp.ret ⟨_, rfl, .inr ⟨1, _, rfl, ?_⟩⟩
      simp (decide := true) only [EVs, EVt, Array.toList]
      rw [List.take_of_length_le (by omega)] at ho
      have : out = b ++ puS l := by rw [ho]; simp [puS]
      rw [← this]
      exact hA
  · simp (decide := true) only [EVs, EVt, Array.toList]
  · simp (decide := true) only [EVs, EVt, Array.toList] <;> rfl
  · simp (decide := true) only [EVs, EVt, Array.toList]
    exact hA3
theorem sp_RPutRing (b : List Int) (r : List (List Int)) (hb : b.length ≤ 1000000000000) (hl : r.length ≤ 100000) (hr : ∀ x ∈ r, x.length ≤ 100000) : ACall Try.prog 97 [l8 b, lrg r] (f8 (b ++ puR r)) := by
  refine acall_of Try.func97 rfl rfl (Nat.le_of_ble_eq_true rfl) T_ok (fun base w0 => ?_)
  refine AWp.seq (AWp.regionW T_ok rfl (WL.all (by simp (decide := true) only [EVs, EVt, Array.toList] <;> exact rfl) ?_))
  refine AWp.seq (AWp.regionW T_ok rfl (WL.next 2 rfl rfl (by simp (decide := true) only [EVs, EVt, Array.toList] <;> exact rfl) ?_))
  refine WL.acc (e := 5) (xs := []) (ys := b.map u8) (sy := 1) (oy := .no) rfl rfl rfl rfl rfl rfl rfl T_u8s rfl T_u8 (by simp (decide := true) only [EVs, EVt, Array.toList]; exact ⟨_, _, rfl, .inl ⟨rfl, .inl rfl⟩⟩) (by simp (decide := true) only [EVs, EVt, Array.toList]) (.inl rfl) (by simp; omega) (by decide) (fun v1 L1 hA1 => ?_)
  refine (WL.next 4 rfl rfl (by simp (decide := true) only [EVs, EVt, Array.toList] <;> exact rfl) ?_)
  refine WL.acc (e := 5) (ys := [u8 (IntKind.u8.wrap r.length)]) (sy := 1) (oy := .full) rfl rfl rfl rfl rfl rfl rfl T_u8s rfl T_u8 (by simp (decide := true) only [EVs, EVt, Array.toList]; exact hA1) (by simp (decide := true) only [EVs, EVt, Array.toList]) (.inl rfl) (by simp; omega) (by decide) (fun v2 L2 hA2 => ?_)
  refine (WL.all (by simp (decide := true) only [EVs, EVt, Array.toList] <;> exact rfl) ?_)
  rw [List.nil_append] at hA2
  have hA3 : Acc L2 v2 1 ((b ++ [IntKind.u8.wrap r.length]).map u8) := by rw [List.map_append]; exact hA2
  refine AWp.seq (AWp.seq (AWp.regionW T_ok rfl (WL.all (by simp (decide := true) only [EVs, EVt, Array.toList] <;> exact rfl) ?_)))
  refine AWp.block (AWp.loop (fun n st => ∃ (j : Nat) (out : List Int) (q : Nat → AV) (B : Nat → Nat × List AV) (L : Nat → Nat), st = ⟨27, 0, q, B, L⟩ ∧ j ≤ r.length ∧ n = r.length - j ∧ q 1 = lrg r ∧ q 5 = i64 j ∧
    Acc L (q 0) 1 (out.map u8) ∧ 1 ≤ out.length ∧ out.length ≤ b.length + 1 + 100002 * j ∧ out = b ++ [IntKind.u8.wrap r.length] ++ (r.take j).flatMap puB) ?_ (n := r.length)
    ⟨0, b ++ [IntKind.u8.wrap r.length], _, _, _, rfl, by omega, rfl, ?_, ?_, ?_, by simp, by simp, by simp⟩)
  · rintro n st ⟨j, out, q, B, L, rfl, hj, rfl, q1, q5, hA, hl1, hlen, ho⟩
    by_cases hlt : j < r.length
    · have e1 : ltI (j : Int) (r.length : Int) = true := ltI_t (by omega)
      have e2 := lrg_get r j hlt
      have e7 := wup j (by omega)
      have hx := hr _ (List.getElem_mem hlt)
      have hp := puB_len r[j]
      obtain ⟨ow, sx, hv, hacc⟩ := hA
      have hsx : sx = 1 := by
        rcases hacc with ⟨_, h | h⟩ | ⟨_, _, h⟩
        · exfalso
          have := congrArg List.length h
          simp at this
          rw [this, List.length_nil] at hl1
          omega
        · exact h
        · exact h
      subst hsx
      refine AWp.seq (AWp.seq (AWp.regionW T_ok rfl (WL.all (by simp (decide := true) only [EVs, EVt, Array.toList, q1, q5, e1] <;> exact rfl) ?_)))
      refine AWp.cond (t := true) rfl (AWp.skip ?_)
      refine AWp.seq (AWp.block (AWp.regionW T_ok rfl (WL.next 5 rfl rfl (by simp (decide := true) only [EVs, EVt, Array.toList, q1, q5, e2, hv] <;> exact rfl) ?_)))
      refine WL.f rfl rfl rfl rfl (by simp (decide := true) only [EVs, EVt, Array.toList, calleeOf] <;> exact rfl) (by simp (decide := true) only [EVs, EVt, Array.toList, argsOf, frz] <;> exact rfl) (ACall.wkl (sp_RPutBytes out r[j] (by omega) (by omega)) (.cons (.list _ _ _ _ (.inl rfl)) (.cons (.refl _) .nil))) ?_
      refine (WL.all (by simp (decide := true) only [EVs, EVt, Array.toList] <;> exact rfl) ?_)
      refine (AWp.regionW T_ok rfl (WL.all (by simp (decide := true) only [EVs, EVt, Array.toList, q5, e7] <;> exact rfl) ?_))
      refine ⟨r.length - (j + 1), by omega, j + 1, out ++ puB r[j], _, _, _, rfl, by omega, rfl, ?_, ?_, ?_, by rw [List.length_append]; omega, by rw [List.length_append]; simp only [pb_len, puB_len]; omega, ?_⟩
      · simp (decide := true) only [EVs, EVt, Array.toList, q1]
      · simp (decide := true) only [EVs, EVt, Array.toList]
      · simp (decide := true) only [EVs, EVt, Array.toList]
        exact ⟨_, _, rfl, .inr ⟨_, rfl, rfl⟩⟩
      · rw [ho, take_snoc r j hlt, List.flatMap_append]; simp
    · have e1 : ltI (j : Int) (r.length : Int) = false := ltI_f (by omega)
      refine AWp.seq (AWp.seq (AWp.regionW T_ok rfl (WL.all (by simp (decide := true) only [EVs, EVt, Array.toList, q1, q5, e1] <;> exact rfl) ?_)))
      refine AWp.cond (t := false) rfl (AWp.exit ?_)
      refine AWp.seq (AWp.regionW T_ok rfl (WL.all (by simp (decide := true) only [EVs, EVt, Array.toList] <;> exact rfl) ?_))
      refine AWp.ret ⟨_, rfl, .inr ⟨1, _, rfl, ?_⟩⟩
      simp (decide := true) only [EVs, EVt, Array.toList]
      rw [List.take_of_length_le (by omega)] at ho
      have : out = b ++ puR r := by rw [ho]; simp [puR]
      rw [← this]
      exact hA
  · simp (decide := true) only [EVs, EVt, Array.toList]
  · simp (decide := true) only [EVs, EVt, Array.toList] <;> rfl
  · simp (decide := true) only [EVs, EVt, Array.toList]
    exact hA3
theorem sp_RPutSets (b s i o : List Int) (hb : b.length ≤ 1000000) (hs : s.length ≤ 1000000) (hi : i.length ≤ 1000000) (ho : o.length ≤ 1000000) : ACall Try.prog 79 [l8 b, sts s i o] (f8 (b ++ (puS s ++ puS i ++ puS o))) := by
  have n1 := puS_len s
  have n2 := puS_len i
  have f1 := sp_RPutSet b s (by omega) (by omega)
  have f2 := sp_RPutSet (b ++ puS s) i (by rw [List.length_append]; omega) (by omega)
  have f3 := sp_RPutSet (b ++ puS s ++ puS i) o (by rw [List.length_append, List.length_append]; omega) (by omega)
  refine acall_of Try.func79 rfl rfl (Nat.le_of_ble_eq_true rfl) T_ok (fun base w0 => ?_)
  refine AWp.seq (AWp.regionW T_ok rfl (WL.all (by simp (decide := true) only [EVs, EVt, Array.toList] <;> exact rfl) ?_))
  refine AWp.seq (AWp.drawnW T_ok mixed (by kernel_rfl) rfl ?_)
  (repeat (first | refine WL.c rfl rfl rfl (by simp (decide := true) only [EVs, EVt, Array.toList] <;> exact rfl) (by simp (decide := true) only [EVs, EVt, Array.toList, calleeOf] <;> exact rfl) (by simp (decide := true) only [EVs, EVt, Array.toList, argsOf, frz] <;> exact rfl) (by first | exact f1 | exact f2 | exact f3) rfl ?_ | refine WL.f rfl rfl rfl (by simp (decide := true) only [EVs, EVt, Array.toList] <;> exact rfl) (by simp (decide := true) only [EVs, EVt, Array.toList, calleeOf] <;> exact rfl) (by simp (decide := true) only [EVs, EVt, Array.toList, argsOf, frz] <;> exact rfl) (by first | exact f1 | exact f2 | exact f3) ?_ | refine WL.one (by simp (decide := true) only [EVs, EVt, Array.toList] <;> exact rfl) ?_)); refine WL.nil ?_
  refine AWp.ret ⟨_, rfl, .inr ⟨1, _, rfl, ?_⟩⟩
  rw [← List.append_assoc, ← List.append_assoc]
  exact ⟨_, _, rfl, .inr ⟨_, rfl, rfl⟩⟩
theorem sp_Rtail (c : List Int) (b : Ob) (hc : c.length ≤ 1000000) (hk : b.kind = 1 ∨ b.kind = 2 ∨ b.kind = 3 ∨ b.kind = 4) (hd : b.kind = 2 → b.dat.length ≤ 64) (hs : b.kind = 3 → b.cats.length ≤ 16) (hl : b.kind = 4 → b.ring.length ≤ 4 ∧ ∀ x ∈ b.ring, x.length ≤ 16) : ACall Try.prog 78 [l8 c, obj b] (f8 (c ++ tailO b)) := by
  have f1 := sp_RPut c (IntKind.u64.wrap b.q) 2 (by omega) (by omega)
  have f2 := sp_RPut (c ++ pb (IntKind.u64.wrap b.q) 2) (IntKind.u64.wrap b.u) 2 (by rw [List.length_append, pb_len]; omega) (by omega)
  have f3 := sp_RPut (c ++ pb (IntKind.u64.wrap b.q) 2 ++ pb (IntKind.u64.wrap b.u) 2) (IntKind.u64.wrap b.x) 2 (by rw [List.length_append, List.length_append, pb_len, pb_len]; omega) (by omega)
  refine acall_of Try.func78 rfl rfl (Nat.le_of_ble_eq_true rfl) T_ok (fun base w0 => ?_)
  refine AWp.seq (AWp.regionW T_ok rfl (WL.all (by simp (decide := true) only [EVs, EVt, Array.toList] <;> exact rfl) ?_))
  refine AWp.seq (AWp.seq (AWp.regionW T_ok rfl (WL.all (by simp (decide := true) only [EVs, EVt, Array.toList] <;> exact rfl) ?_)))
  by_cases k1 : b.kind = 1
  · have c1 : eqI b.kind 1 = true := eqI_t k1
    refine AWp.block (AWp.seq (AWp.regionW T_ok rfl (WL.all (by simp (decide := true) only [EVs, EVt, Array.toList, c1] <;> exact rfl) ?_)))
    refine AWp.cond (t := true) rfl (AWp.seq (AWp.drawnW T_ok mixed (by kernel_rfl) rfl ?_))
    (repeat (first | refine WL.c rfl rfl rfl (by simp (decide := true) only [EVs, EVt, Array.toList] <;> exact rfl) (by simp (decide := true) only [EVs, EVt, Array.toList, calleeOf] <;> exact rfl) (by simp (decide := true) only [EVs, EVt, Array.toList, argsOf, frz] <;> exact rfl) (by first | exact f1 | exact f2 | exact f3) rfl ?_ | refine WL.f rfl rfl rfl (by simp (decide := true) only [EVs, EVt, Array.toList] <;> exact rfl) (by simp (decide := true) only [EVs, EVt, Array.toList, calleeOf] <;> exact rfl) (by simp (decide := true) only [EVs, EVt, Array.toList, argsOf, frz] <;> exact rfl) (by first | exact f1 | exact f2 | exact f3) ?_ | refine WL.one (by simp (decide := true) only [EVs, EVt, Array.toList] <;> exact rfl) ?_)); refine WL.nil ?_
    refine AWp.ret ⟨_, rfl, .inr ⟨1, _, rfl, ?_⟩⟩
    rw [show tailO b = pb (IntKind.u64.wrap b.q) 2 ++ pb (IntKind.u64.wrap b.u) 2 ++ pb (IntKind.u64.wrap b.x) 2 by simp [tailO, k1], ← List.append_assoc, ← List.append_assoc]
    exact ⟨_, _, rfl, .inr ⟨_, rfl, rfl⟩⟩
  have c1 : eqI b.kind 1 = false := eqI_f k1
  by_cases k2 : b.kind = 2
  · have c2 : eqI b.kind 2 = true := eqI_t k2
    have hd' := hd k2
    have f4 := sp_RPutBytes c b.dat (by omega) (by omega)
    refine AWp.block (AWp.seq (AWp.regionW T_ok rfl (WL.all (by simp (decide := true) only [EVs, EVt, Array.toList, c1] <;> exact rfl) ?_)))
    refine AWp.cond (t := false) rfl (AWp.seq (AWp.regionW T_ok rfl (WL.all (by simp (decide := true) only [EVs, EVt, Array.toList, c2] <;> exact rfl) ?_)))
    refine AWp.cond (t := true) rfl (AWp.seq (AWp.regionW T_ok rfl ?_))
    (repeat (first | refine WL.c rfl rfl rfl (by simp (decide := true) only [EVs, EVt, Array.toList] <;> exact rfl) (by simp (decide := true) only [EVs, EVt, Array.toList, calleeOf] <;> exact rfl) (by simp (decide := true) only [EVs, EVt, Array.toList, argsOf, frz] <;> exact rfl) (by first | exact f4) rfl ?_ | refine WL.f rfl rfl rfl (by simp (decide := true) only [EVs, EVt, Array.toList] <;> exact rfl) (by simp (decide := true) only [EVs, EVt, Array.toList, calleeOf] <;> exact rfl) (by simp (decide := true) only [EVs, EVt, Array.toList, argsOf, frz] <;> exact rfl) (by first | exact f4) ?_ | refine WL.one (by simp (decide := true) only [EVs, EVt, Array.toList] <;> exact rfl) ?_)); refine WL.nil ?_
    refine AWp.ret ⟨_, rfl, .inr ⟨1, _, rfl, ?_⟩⟩
    rw [show tailO b = puB b.dat by simp [tailO, k2]]
    exact ⟨_, _, rfl, .inr ⟨_, rfl, rfl⟩⟩
  have c2 : eqI b.kind 2 = false := eqI_f k2
  by_cases k3 : b.kind = 3
  · have c3 : eqI b.kind 3 = true := eqI_t k3
    have hs' := hs k3
    have f5 := sp_RPutSet c b.cats (by omega) (by omega)
    refine AWp.block (AWp.seq (AWp.regionW T_ok rfl (WL.all (by simp (decide := true) only [EVs, EVt, Array.toList, c1] <;> exact rfl) ?_)))
    refine AWp.cond (t := false) rfl (AWp.seq (AWp.regionW T_ok rfl (WL.all (by simp (decide := true) only [EVs, EVt, Array.toList, c2] <;> exact rfl) ?_)))
    refine AWp.cond (t := false) rfl (AWp.seq (AWp.regionW T_ok rfl (WL.all (by simp (decide := true) only [EVs, EVt, Array.toList, c3] <;> exact rfl) ?_)))
    refine AWp.cond (t := true) rfl (AWp.seq (AWp.regionW T_ok rfl ?_))
    (repeat (first | refine WL.c rfl rfl rfl (by simp (decide := true) only [EVs, EVt, Array.toList] <;> exact rfl) (by simp (decide := true) only [EVs, EVt, Array.toList, calleeOf] <;> exact rfl) (by simp (decide := true) only [EVs, EVt, Array.toList, argsOf, frz] <;> exact rfl) (by first | exact f5) rfl ?_ | refine WL.f rfl rfl rfl (by simp (decide := true) only [EVs, EVt, Array.toList] <;> exact rfl) (by simp (decide := true) only [EVs, EVt, Array.toList, calleeOf] <;> exact rfl) (by simp (decide := true) only [EVs, EVt, Array.toList, argsOf, frz] <;> exact rfl) (by first | exact f5) ?_ | refine WL.one (by simp (decide := true) only [EVs, EVt, Array.toList] <;> exact rfl) ?_)); refine WL.nil ?_
    refine AWp.ret ⟨_, rfl, .inr ⟨1, _, rfl, ?_⟩⟩
    rw [show tailO b = puS b.cats by simp [tailO, k3]]
    exact ⟨_, _, rfl, .inr ⟨_, rfl, rfl⟩⟩
  have c3 : eqI b.kind 3 = false := eqI_f k3
  have hl' := hl (by omega)
  have f6 := sp_RPutRing c b.ring (by omega) (by omega) (fun x hx => by have := hl'.2 x hx; omega)
  refine AWp.block (AWp.seq (AWp.regionW T_ok rfl (WL.all (by simp (decide := true) only [EVs, EVt, Array.toList, c1] <;> exact rfl) ?_)))
  refine AWp.cond (t := false) rfl (AWp.seq (AWp.regionW T_ok rfl (WL.all (by simp (decide := true) only [EVs, EVt, Array.toList, c2] <;> exact rfl) ?_)))
  refine AWp.cond (t := false) rfl (AWp.seq (AWp.regionW T_ok rfl (WL.all (by simp (decide := true) only [EVs, EVt, Array.toList, c3] <;> exact rfl) ?_)))
  refine AWp.cond (t := false) rfl (AWp.skip ?_)
  refine AWp.seq (AWp.regionW T_ok rfl ?_)
  (repeat (first | refine WL.c rfl rfl rfl (by simp (decide := true) only [EVs, EVt, Array.toList] <;> exact rfl) (by simp (decide := true) only [EVs, EVt, Array.toList, calleeOf] <;> exact rfl) (by simp (decide := true) only [EVs, EVt, Array.toList, argsOf, frz] <;> exact rfl) (by first | exact f6) rfl ?_ | refine WL.f rfl rfl rfl (by simp (decide := true) only [EVs, EVt, Array.toList] <;> exact rfl) (by simp (decide := true) only [EVs, EVt, Array.toList, calleeOf] <;> exact rfl) (by simp (decide := true) only [EVs, EVt, Array.toList, argsOf, frz] <;> exact rfl) (by first | exact f6) ?_ | refine WL.one (by simp (decide := true) only [EVs, EVt, Array.toList] <;> exact rfl) ?_)); refine WL.nil ?_
  refine AWp.ret ⟨_, rfl, .inr ⟨1, _, rfl, ?_⟩⟩
  rw [show tailO b = puR b.ring by simp [tailO, k1, k2, k3]]
  exact ⟨_, _, rfl, .inr ⟨_, rfl, rfl⟩⟩
theorem sp_May2 (b : Ob) (hs : b.s.length ≤ 4096) (hi : b.i.length ≤ 4096) (ho : b.o.length ≤ 4096) (hc : b.cats.length ≤ 70368744175616) (hr : b.ring.length ≤ 140737488351232) (h : may2O b = true) : ACall Try.prog 77 [obj b] (bo true) := by
  simp only [may2O, Bool.and_eq_true, decide_eq_true_eq] at h
  obtain ⟨⟨h1, h2⟩, h3⟩ := h
  have f1 := sp_plain b hc hr
  have f2 := sp_May8 b.s b.i b.o (by omega) (by omega) (by omega)
  rw [h1] at f1
  rw [h2] at f2
  have hz := eqI_len b.o
  rw [decide_eq_true h3] at hz
  refine acall_of Try.func77 rfl rfl (Nat.le_of_ble_eq_true rfl) T_ok (fun base w0 => ?_)
  refine AWp.seq (AWp.regionW T_ok rfl (WL.all (by simp (decide := true) only [EVs, EVt, Array.toList] <;> exact rfl) ?_))
  refine AWp.seq (AWp.regionW T_ok rfl ?_)
  (repeat (first | refine WL.c rfl rfl rfl (by simp (decide := true) only [EVs, EVt, Array.toList, hz] <;> exact rfl) (by simp (decide := true) only [EVs, EVt, Array.toList, calleeOf, hz] <;> exact rfl) (by simp (decide := true) only [EVs, EVt, Array.toList, argsOf, frz, hz] <;> exact rfl) (by first | exact f1 | exact f2) rfl ?_ | refine WL.f rfl rfl rfl (by simp (decide := true) only [EVs, EVt, Array.toList, hz] <;> exact rfl) (by simp (decide := true) only [EVs, EVt, Array.toList, calleeOf, hz] <;> exact rfl) (by simp (decide := true) only [EVs, EVt, Array.toList, argsOf, frz, hz] <;> exact rfl) (by first | exact f1 | exact f2) ?_ | refine WL.one (by simp (decide := true) only [EVs, EVt, Array.toList, hz] <;> exact rfl) ?_)); refine WL.nil ?_
  exact AWp.ret ⟨_, rfl, .inl (.refl _)⟩
theorem sp_Put2 (b : Ob) (hs : b.s.length ≤ 4096) (hi : b.i.length ≤ 4096) (ho : b.o.length ≤ 4096) (hc : b.cats.length ≤ 70368744175616) (hr : b.ring.length ≤ 140737488351232) (h : may2O b = true) :
    ACall Try.prog 38 [obj b] (.tup [l8 (put2O b), i64 0]) := by
  have f1 := sp_May2 b hs hi ho hc hr h
  simp only [may2O, Bool.and_eq_true, decide_eq_true_eq] at h
  obtain ⟨k0, k2, k3, k4⟩ := plainO_spec h.1.1
  have f2 := sp_RPut [2, IntKind.u8.wrap b.kind] b.id 8 (by simp) (by omega)
  have n1 := puS_len b.s
  have n2 := puS_len b.i
  have n3 := puS_len b.o
  have f3 := sp_RPutSets ([2, IntKind.u8.wrap b.kind] ++ pb b.id 8) b.s b.i b.o (by simp [pb_len]) (by omega) (by omega) (by omega)
  have f4 := sp_Rtail ([2, IntKind.u8.wrap b.kind] ++ pb b.id 8 ++ (puS b.s ++ puS b.i ++ puS b.o)) b (by simp [pb_len]; omega) k0 k2 k3 k4
  refine acall_of Try.func38 rfl rfl (Nat.le_of_ble_eq_true rfl) T_ok (fun base w0 => ?_)
  refine AWp.seq (AWp.regionW T_ok rfl (WL.all (by simp (decide := true) only [EVs, EVt, Array.toList] <;> exact rfl) ?_))
  refine AWp.seq (AWp.seq (AWp.regionW T_ok rfl ?_))
  (repeat (first | refine WL.c rfl rfl rfl (by simp (decide := true) only [EVs, EVt, Array.toList] <;> exact rfl) (by simp (decide := true) only [EVs, EVt, Array.toList, calleeOf] <;> exact rfl) (by simp (decide := true) only [EVs, EVt, Array.toList, argsOf, frz] <;> exact rfl) (by first | exact f1) rfl ?_ | refine WL.f rfl rfl rfl (by simp (decide := true) only [EVs, EVt, Array.toList] <;> exact rfl) (by simp (decide := true) only [EVs, EVt, Array.toList, calleeOf] <;> exact rfl) (by simp (decide := true) only [EVs, EVt, Array.toList, argsOf, frz] <;> exact rfl) (by first | exact f1) ?_ | refine WL.one (by simp (decide := true) only [EVs, EVt, Array.toList] <;> exact rfl) ?_)); refine WL.nil ?_
  refine AWp.cond (t := false) rfl (AWp.skip ?_)
  refine AWp.seq (AWp.drawnW T_ok mixed (by kernel_rfl) rfl ?_)
  (repeat (first | refine WL.c rfl rfl rfl (by simp (decide := true) only [EVs, EVt, Array.toList] <;> exact rfl) (by simp (decide := true) only [EVs, EVt, Array.toList, calleeOf] <;> exact rfl) (by simp (decide := true) only [EVs, EVt, Array.toList, argsOf, frz] <;> exact rfl) (by first | exact ACall.wkl f2 (.cons (.list _ _ _ _ (.inl rfl)) (.cons (.refl _) (.cons (.refl _) .nil))) | exact f3 | exact f4) rfl ?_ | refine WL.f rfl rfl rfl (by simp (decide := true) only [EVs, EVt, Array.toList] <;> exact rfl) (by simp (decide := true) only [EVs, EVt, Array.toList, calleeOf] <;> exact rfl) (by simp (decide := true) only [EVs, EVt, Array.toList, argsOf, frz] <;> exact rfl) (by first | exact ACall.wkl f2 (.cons (.list _ _ _ _ (.inl rfl)) (.cons (.refl _) (.cons (.refl _) .nil))) | exact f3 | exact f4) ?_ | refine WL.one (by simp (decide := true) only [EVs, EVt, Array.toList] <;> exact rfl) ?_)); refine WL.nil ?_
  exact AWp.ret ⟨_, rfl, .inl (.refl _)⟩
theorem sp_Put1 (b : Ob) (hl : b.l.length ≤ 35184372087808) (hc : b.cats.length ≤ 70368744175616) (hr : b.ring.length ≤ 140737488351232) (h : may1O b = false) : ACall Try.prog 39 [obj b] (.tup [.any, i64 1]) := by
  have f1 := sp_May1 b hl hc hr
  rw [h] at f1
  refine acall_of Try.func39 rfl rfl (Nat.le_of_ble_eq_true rfl) T_ok (fun base w0 => ?_)
  refine AWp.seq (AWp.regionW T_ok rfl (WL.all (by simp (decide := true) only [EVs, EVt, Array.toList] <;> exact rfl) ?_))
  refine AWp.seq (AWp.seq (AWp.regionW T_ok rfl ?_))
  (repeat (first | refine WL.c rfl rfl rfl (by simp (decide := true) only [EVs, EVt, Array.toList] <;> exact rfl) (by simp (decide := true) only [EVs, EVt, Array.toList, calleeOf] <;> exact rfl) (by simp (decide := true) only [EVs, EVt, Array.toList, argsOf, frz] <;> exact rfl) (by first | exact f1) rfl ?_ | refine WL.f rfl rfl rfl (by simp (decide := true) only [EVs, EVt, Array.toList] <;> exact rfl) (by simp (decide := true) only [EVs, EVt, Array.toList, calleeOf] <;> exact rfl) (by simp (decide := true) only [EVs, EVt, Array.toList, argsOf, frz] <;> exact rfl) (by first | exact f1) ?_ | refine WL.one (by simp (decide := true) only [EVs, EVt, Array.toList] <;> exact rfl) ?_)); refine WL.nil ?_
  refine AWp.cond (t := true) rfl (AWp.seq (AWp.regionW T_ok rfl (WL.all (by simp (decide := true) only [EVs, EVt, Array.toList] <;> exact rfl) ?_)))
  exact AWp.ret ⟨_, rfl, .inl (.tup' (.cons (.any _) (.cons (.refl _) .nil)))⟩

theorem sp_MorphKeeps (b : Ob) (hb : ObW b) : ACall Try.prog 9 [obj b] (bo true) := by
  refine acall_of Try.func9 rfl rfl (Nat.le_of_ble_eq_true rfl) T_ok (fun base w0 => ?_)
  refine AWp.seq (AWp.regionW T_ok rfl (WL.all (by simp (decide := true) only [EVs, EVt, Array.toList] <;> exact rfl) ?_))
  refine AWp.seq (AWp.seq (AWp.regionW T_ok rfl ?_))
  (repeat (first | refine WL.c rfl rfl rfl (by simp (decide := true) only [EVs, EVt, Array.toList] <;> exact rfl) (by simp (decide := true) only [EVs, EVt, Array.toList, calleeOf] <;> exact rfl) (by simp (decide := true) only [EVs, EVt, Array.toList, argsOf, frz] <;> exact rfl) (by first | exact sp_begun27) rfl ?_ | refine WL.f rfl rfl rfl (by simp (decide := true) only [EVs, EVt, Array.toList] <;> exact rfl) (by simp (decide := true) only [EVs, EVt, Array.toList, calleeOf] <;> exact rfl) (by simp (decide := true) only [EVs, EVt, Array.toList, argsOf, frz] <;> exact rfl) (by first | exact sp_begun27) ?_ | refine WL.one (by simp (decide := true) only [EVs, EVt, Array.toList] <;> exact rfl) ?_)); refine WL.nil ?_
  refine AWp.cond (t := false) rfl (AWp.skip ?_)
  have g1 := sp_May1 b hb.l (by have := hb.cats; omega) (by have := hb.ring; omega)
  cases h1 : may1O b with
  | false =>
    rw [h1] at g1
    refine AWp.seq (AWp.seq (AWp.regionW T_ok rfl ?_))
    (repeat (first | refine WL.c rfl rfl rfl (by simp (decide := true) only [EVs, EVt, Array.toList] <;> exact rfl) (by simp (decide := true) only [EVs, EVt, Array.toList, calleeOf] <;> exact rfl) (by simp (decide := true) only [EVs, EVt, Array.toList, argsOf, frz] <;> exact rfl) (by first | exact g1) rfl ?_ | refine WL.f rfl rfl rfl (by simp (decide := true) only [EVs, EVt, Array.toList] <;> exact rfl) (by simp (decide := true) only [EVs, EVt, Array.toList, calleeOf] <;> exact rfl) (by simp (decide := true) only [EVs, EVt, Array.toList, argsOf, frz] <;> exact rfl) (by first | exact g1) ?_ | refine WL.one (by simp (decide := true) only [EVs, EVt, Array.toList] <;> exact rfl) ?_)); refine WL.nil ?_
    refine AWp.cond (t := true) rfl (AWp.seq (AWp.regionW T_ok rfl (WL.all (by simp (decide := true) only [EVs, EVt, Array.toList] <;> exact rfl) ?_)))
    exact AWp.ret ⟨_, rfl, .inl (.refl _)⟩
  | true =>
  rw [h1] at g1
  have h1' := h1
  simp only [may1O, Bool.and_eq_true, decide_eq_true_eq] at h1'
  obtain ⟨⟨hpl, m1⟩, hst⟩ := h1'
  have hK := labK m1 hb.lw
  have k16 := hK.len
  have bd := hb.dat
  have bc := hb.cats
  have br := hb.ring
  have f1 := sp_MoObject b (by omega) hK.lv hb.dat hb.cats hb.ring hb.rings
  refine AWp.seq (AWp.seq (AWp.regionW T_ok rfl ?_))
  (repeat (first | refine WL.c rfl rfl rfl (by simp (decide := true) only [EVs, EVt, Array.toList] <;> exact rfl) (by simp (decide := true) only [EVs, EVt, Array.toList, calleeOf] <;> exact rfl) (by simp (decide := true) only [EVs, EVt, Array.toList, argsOf, frz] <;> exact rfl) (by first | exact g1) rfl ?_ | refine WL.f rfl rfl rfl (by simp (decide := true) only [EVs, EVt, Array.toList] <;> exact rfl) (by simp (decide := true) only [EVs, EVt, Array.toList, calleeOf] <;> exact rfl) (by simp (decide := true) only [EVs, EVt, Array.toList, argsOf, frz] <;> exact rfl) (by first | exact g1) ?_ | refine WL.one (by simp (decide := true) only [EVs, EVt, Array.toList] <;> exact rfl) ?_)); refine WL.nil ?_
  refine AWp.cond (t := false) rfl (AWp.skip ?_)
  cases hk : okS b.d b.l with
  | false =>
    rw [splE_f hk, show moO b = ⟨0, 0, 0, [], [], [], [], 0, 0, 0, [], [], []⟩ by simp [moO, hk]] at f1
    have f2 := sp_RNames b.d b.l (by omega)
    rw [hK.nam, hk] at f2
    refine AWp.seq (AWp.regionW T_ok rfl ?_)
    (repeat (first | refine WL.c rfl rfl rfl (by simp (decide := true) only [EVs, EVt, Array.toList] <;> exact rfl) (by simp (decide := true) only [EVs, EVt, Array.toList, calleeOf] <;> exact rfl) (by simp (decide := true) only [EVs, EVt, Array.toList, argsOf, frz] <;> exact rfl) (by first | exact f1) rfl ?_ | refine WL.f rfl rfl rfl (by simp (decide := true) only [EVs, EVt, Array.toList] <;> exact rfl) (by simp (decide := true) only [EVs, EVt, Array.toList, calleeOf] <;> exact rfl) (by simp (decide := true) only [EVs, EVt, Array.toList, argsOf, frz] <;> exact rfl) (by first | exact f1) ?_ | refine WL.one (by simp (decide := true) only [EVs, EVt, Array.toList] <;> exact rfl) ?_)); refine WL.nil ?_
    refine AWp.seq (AWp.seq (AWp.regionW T_ok rfl (WL.all (by simp (decide := true) only [EVs, EVt, Array.toList, e14] <;> exact rfl) ?_)))
    refine AWp.cond (t := true) rfl (AWp.seq (AWp.regionW T_ok rfl ?_))
    (repeat (first | refine WL.c rfl rfl rfl (by simp (decide := true) only [EVs, EVt, Array.toList, eqI_self] <;> exact rfl) (by simp (decide := true) only [EVs, EVt, Array.toList, calleeOf, eqI_self] <;> exact rfl) (by simp (decide := true) only [EVs, EVt, Array.toList, argsOf, frz, eqI_self] <;> exact rfl) (by first | exact f2) rfl ?_ | refine WL.f rfl rfl rfl (by simp (decide := true) only [EVs, EVt, Array.toList, eqI_self] <;> exact rfl) (by simp (decide := true) only [EVs, EVt, Array.toList, calleeOf, eqI_self] <;> exact rfl) (by simp (decide := true) only [EVs, EVt, Array.toList, argsOf, frz, eqI_self] <;> exact rfl) (by first | exact f2) ?_ | refine WL.one (by simp (decide := true) only [EVs, EVt, Array.toList, eqI_self] <;> exact rfl) ?_)); refine WL.nil ?_
    exact AWp.ret ⟨_, rfl, .inl (.refl _)⟩
  | true =>
  have n4 := lvs_len b.l 4
  have n1 := lvs_len b.l 1
  have n0 := lvs_len b.l 0
  have e : moO b = { b with d := 0, l := [], s := lvs b.l 4, i := lvs b.l 1, o := lvs b.l 0 } := by simp [moO, hk]
  have hd2 := (okS_iff.1 hk).1
  have hk2 : okS 2 b.l = true := by rw [← hd2]; exact hk
  have m2 : may2O (moO b) = true := by
    have e1 := plainO_mo hk
    simp only [may2O, Bool.and_eq_true, decide_eq_true_eq]
    refine ⟨⟨e1.trans hpl, ?_⟩, ?_⟩
    · rw [e]; exact may8_lvs hK.asc k16
    · rw [e]; exact hst
  have m3 : may1O (moO b) = false := by
    rw [e]
    simp [may1O, mayL]
  have p1 := moO_len b
  have f2 := sp_Put2 (moO b) (by omega) (by omega) (by omega) (by omega) (by omega) m2
  have f3 := sp_Put1 (moO b) (by omega) (by omega) (by omega) m3
  have f4 := sp_R8Back (lvs b.l 4) (lvs b.l 1) (lvs b.l 0) (by omega) (by omega) (by omega)
  rw [bk_lvs hk2 hK.asc] at f4
  have f5 := sp_RSame 2 b.l 2 b.l (by omega) (by omega)
  rw [sameL_self] at f5
  have f5' : ACall Try.prog 40 [lab 2 b.l, lab b.d b.l] (bo true) := by rw [hd2]; exact f5
  have f6 := sp_SameSet b.cats b.cats (by omega) (by omega)
  rw [decide_eq_true rfl] at f6
  have f7 := sp_SameRing b.ring (by omega)
  rw [splE_t hk] at f1
  rw [e] at f1 f3
  have w1 : ((put2O (moO b)).map u8)[0]? = some (u8 2) := rfl
  have w2 : ltI 0 ((put2O (moO b)).length : Int) = true := ltI_t (by simp [put2O]; omega)
  generalize hP : put2O (moO b) = P at f2 w1 w2
  rw [e] at f2
  refine AWp.seq (AWp.regionW T_ok rfl ?_)
  (repeat (first | refine WL.c rfl rfl rfl (by simp (decide := true) only [EVs, EVt, Array.toList] <;> exact rfl) (by simp (decide := true) only [EVs, EVt, Array.toList, calleeOf] <;> exact rfl) (by simp (decide := true) only [EVs, EVt, Array.toList, argsOf, frz] <;> exact rfl) (by first | exact f1) rfl ?_ | refine WL.f rfl rfl rfl (by simp (decide := true) only [EVs, EVt, Array.toList] <;> exact rfl) (by simp (decide := true) only [EVs, EVt, Array.toList, calleeOf] <;> exact rfl) (by simp (decide := true) only [EVs, EVt, Array.toList, argsOf, frz] <;> exact rfl) (by first | exact f1) ?_ | refine WL.one (by simp (decide := true) only [EVs, EVt, Array.toList] <;> exact rfl) ?_)); refine WL.nil ?_
  refine AWp.seq (AWp.seq (AWp.regionW T_ok rfl (WL.all (by simp (decide := true) only [EVs, EVt, Array.toList, eqI_self] <;> exact rfl) ?_)))
  refine AWp.cond (t := false) rfl (AWp.skip ?_)
  refine AWp.seq (AWp.regionW T_ok rfl ?_)
  (repeat (first | refine WL.c rfl rfl rfl (by simp (decide := true) only [EVs, EVt, Array.toList] <;> exact rfl) (by simp (decide := true) only [EVs, EVt, Array.toList, calleeOf] <;> exact rfl) (by simp (decide := true) only [EVs, EVt, Array.toList, argsOf, frz] <;> exact rfl) (by first | exact f2) rfl ?_ | refine WL.f rfl rfl rfl (by simp (decide := true) only [EVs, EVt, Array.toList] <;> exact rfl) (by simp (decide := true) only [EVs, EVt, Array.toList, calleeOf] <;> exact rfl) (by simp (decide := true) only [EVs, EVt, Array.toList, argsOf, frz] <;> exact rfl) (by first | exact f2) ?_ | refine WL.one (by simp (decide := true) only [EVs, EVt, Array.toList] <;> exact rfl) ?_)); refine WL.nil ?_
  refine AWp.seq (AWp.regionW T_ok rfl ?_)
  (repeat (first | refine WL.c rfl rfl rfl (by simp (decide := true) only [EVs, EVt, Array.toList] <;> exact rfl) (by simp (decide := true) only [EVs, EVt, Array.toList, calleeOf] <;> exact rfl) (by simp (decide := true) only [EVs, EVt, Array.toList, argsOf, frz] <;> exact rfl) (by first | exact f3) rfl ?_ | refine WL.f rfl rfl rfl (by simp (decide := true) only [EVs, EVt, Array.toList] <;> exact rfl) (by simp (decide := true) only [EVs, EVt, Array.toList, calleeOf] <;> exact rfl) (by simp (decide := true) only [EVs, EVt, Array.toList, argsOf, frz] <;> exact rfl) (by first | exact f3) ?_ | refine WL.one (by simp (decide := true) only [EVs, EVt, Array.toList] <;> exact rfl) ?_)); refine WL.nil ?_
  refine AWp.seq (AWp.drawnW T_ok mixed (by kernel_rfl) rfl ?_)
  simp only [List.append_eq, List.cons_append, List.nil_append]
  (repeat (first | refine WL.c rfl rfl rfl (by simp (decide := true) only [EVs, EVt, Array.toList, eqI_self, w1, w2, mb8, abin_eqS, eqS_self] <;> exact rfl) (by simp (decide := true) only [EVs, EVt, Array.toList, calleeOf, eqI_self, w1, w2, mb8, abin_eqS, eqS_self] <;> exact rfl) (by simp (decide := true) only [EVs, EVt, Array.toList, argsOf, frz, eqI_self, w1, w2, mb8, abin_eqS, eqS_self] <;> exact rfl) (by first | exact f4 | exact f5' | exact f6 | exact f7) rfl ?_ | refine WL.f rfl rfl rfl (by simp (decide := true) only [EVs, EVt, Array.toList, eqI_self, w1, w2, mb8, abin_eqS, eqS_self] <;> exact rfl) (by simp (decide := true) only [EVs, EVt, Array.toList, calleeOf, eqI_self, w1, w2, mb8, abin_eqS, eqS_self] <;> exact rfl) (by simp (decide := true) only [EVs, EVt, Array.toList, argsOf, frz, eqI_self, w1, w2, mb8, abin_eqS, eqS_self] <;> exact rfl) (by first | exact f4 | exact f5' | exact f6 | exact f7) ?_ | refine WL.one (by simp (decide := true) only [EVs, EVt, Array.toList, eqI_self, w1, w2, mb8, abin_eqS, eqS_self] <;> exact rfl) ?_)); refine WL.nil ?_
  exact AWp.ret ⟨_, rfl, .inl (.refl _)⟩
end Go.Proofs.Ytfgndnackofenaa.E
