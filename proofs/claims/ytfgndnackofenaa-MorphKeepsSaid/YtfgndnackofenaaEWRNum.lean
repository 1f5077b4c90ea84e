/-
  Numbers as bytes, by the document, walked in abstract values. Conditions: lengths.
-/
import Derived.Test.YtfgndnackofenaaETab
import Derived.Test.YtfgndnackofenaaEM14
namespace Go.Proofs.Ytfgndnackofenaa.E
open Go Go.RowKit Go.Proofs.YtfgndnackofenaaW.E
set_option linter.unusedVariables false
set_option linter.unusedSimpArgs false
set_option maxRecDepth 100000
set_option maxHeartbeats 4000000


theorem sp_RPut (b : List Int) (v : Int) (n : Nat) (hb : b.length ≤ 140737488350000) (hn : n ≤ 8) : ACall Try.prog 80 [l8 b, u64 v, i64 n] (f8 (b ++ pb v n)) := by
  refine acall_of Try.func80 rfl rfl (Nat.le_of_ble_eq_true rfl) T_ok (fun base w0 => ?_)
  have c1 : ltI (n : Int) 0 = false := ltI_f (by omega)
  have c2 : ltI 8 (n : Int) = false := ltI_f (by omega)
  refine AWp.seq (AWp.regionW T_ok rfl (WL.all (by simp (decide := true) only [EVs, EVt, Array.toList] <;> exact rfl) ?_))
  refine AWp.seq (AWp.regionW T_ok rfl (WL.next 2 rfl rfl (by simp (decide := true) only [EVs, EVt, Array.toList] <;> exact rfl) ?_))
  refine WL.acc (e := 5) (xs := []) (ys := b.map u8) (sy := 1) (oy := .no) rfl rfl rfl rfl rfl rfl rfl T_u8s rfl T_u8 (by simp (decide := true) only [EVs, EVt, Array.toList]; exact ⟨_, _, rfl, .inl ⟨rfl, .inl rfl⟩⟩) (by simp (decide := true) only [EVs, EVt, Array.toList]) (.inl rfl) (by simp; omega) (by decide) (fun v1 L1 hA1 => ?_)
  refine (WL.all (by simp (decide := true) only [EVs, EVt, Array.toList] <;> exact rfl) ?_)
  refine AWp.seq (AWp.seq (AWp.regionW T_ok rfl (WL.all (by simp (decide := true) only [EVs, EVt, Array.toList, c1, c2] <;> exact rfl) ?_)))
  refine AWp.cond (t := false) rfl (AWp.skip ?_)
  refine AWp.seq (AWp.seq (AWp.regionW T_ok rfl (WL.all (by simp (decide := true) only [EVs, EVt, Array.toList] <;> exact rfl) ?_)))
  refine AWp.block (AWp.loop (fun m st => ∃ (j : Nat) (out : List Int) (s : Nat → AV) (B : Nat → Nat × List AV) (L : Nat → Nat), st = ⟨36, 0, s, B, L⟩ ∧ j ≤ n ∧ m = n - j ∧ s 1 = u64 v ∧ s 2 = i64 n ∧ Acc L (s 7) 1 (out.map u8) ∧ s 8 = i64 j ∧ out ++ pb v (n - j) = b ++ pb v n) ?_ (n := n)
    ⟨0, b, _, _, _, rfl, by omega, rfl, rfl, rfl, ?_, rfl, rfl⟩)
  · rintro m st ⟨j, out, s, B, L, rfl, hj, rfl, h1, h2, h7, h8, ho⟩
    by_cases hlt : j < n
    · have c1 : ltI (j : Int) (n : Int) = true := ltI_t (by omega)
      have c5 := wdn n (by omega) (by omega)
      have c6 : IntKind.i64.wrap (((n - 1 : Nat) : Int) - (j : Int)) = ((n - 1 - j : Nat) : Int) := by rw [IntWalk.i64_in _ (by omega)]; omega
      have c7 := wup j (by omega)
      have m1 : IntKind.i64.wrap (8 * ((n - 1 - j : Nat) : Int)) = ((8 * (n - 1 - j) : Nat) : Int) := by rw [IntWalk.i64_in _ (by omega)]; omega
      have m3 := fun (x y : Operand) => abin_shr (P := Try.prog) 36 x y .u64 .i64 v ((8 * (n - 1 - j) : Nat) : Int) (by omega)
      have hpb : pb v (n - j) = byteAt v (n - 1 - j) :: pb v (n - (j + 1)) := by
        rw [show n - j = (n - 1 - j) + 1 by omega, pb, show n - (j + 1) = n - 1 - j by omega]
      have hlen : out.length + (n - j) = b.length + n := by have := congrArg List.length ho; simpa [pb_len] using this
      refine AWp.seq (AWp.seq (AWp.regionW T_ok rfl (WL.all (by simp (decide := true) only [EVs, EVt, Array.toList, h2, h8, c1] <;> exact rfl) ?_)))
      refine AWp.cond (t := true) rfl (AWp.skip ?_)
      refine AWp.seq (AWp.block (AWp.regionW T_ok rfl (WL.next 10 rfl rfl (by simp (decide := true) only [EVs, EVt, Array.toList, h1, h2, h8, c5, c6, m1, m3] <;> exact rfl) ?_)))
      refine WL.acc (e := 5) (xs := out.map u8) (ys := [u8 (byteAt v (n - 1 - j))]) (sy := 1) (oy := .full) rfl rfl rfl rfl rfl rfl rfl T_u8s rfl T_u8 (by simp (decide := true) only [EVs, EVt, Array.toList]; exact h7) (by simp (decide := true) only [EVs, EVt, Array.toList]; rfl) (.inl rfl) (by simp; omega) (by decide) (fun v1 L1 hA1 => ?_)
      refine (WL.all (by simp (decide := true) only [EVs, EVt, Array.toList] <;> exact rfl) ?_)
      refine (AWp.regionW T_ok rfl (WL.all (by simp (decide := true) only [EVs, EVt, Array.toList, h8, c7] <;> exact rfl) ?_))
      refine ⟨n - (j + 1), by omega, j + 1, out ++ [byteAt v (n - 1 - j)], _, _, _, rfl, by omega, rfl, ?_, ?_, ?_, ?_, ?_⟩
      · simp (decide := true) only [EVs, EVt, Array.toList, h1]
      · simp (decide := true) only [EVs, EVt, Array.toList, h2]
      · simp (decide := true) only [EVs, EVt, Array.toList]
        rw [List.map_append]; exact hA1
      · simp (decide := true) only [EVs, EVt, Array.toList]
      · rw [← ho, hpb]; simp
    · have c1 : ltI (j : Int) (n : Int) = false := ltI_f (by omega)
      refine AWp.seq (AWp.seq (AWp.regionW T_ok rfl (WL.all (by simp (decide := true) only [EVs, EVt, Array.toList, h2, h8, c1] <;> exact rfl) ?_)))
      refine AWp.cond (t := false) rfl (AWp.exit ?_)
      refine AWp.seq (AWp.regionW T_ok rfl (WL.all (by simp (decide := true) only [EVs, EVt, Array.toList] <;> exact rfl) ?_))
      refine AWp.ret ⟨_, rfl, .inr ⟨1, _, rfl, ?_⟩⟩
      simp (decide := true) only [EVs, EVt, Array.toList]
      rw [← ho, show n - j = 0 by omega]
      simpa [pb] using h7
  · simp (decide := true) only [EVs, EVt, Array.toList]
    exact hA1
end Go.Proofs.Ytfgndnackofenaa.E
