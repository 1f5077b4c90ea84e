/-
  Labels put as bytes, by the document, walked in abstract values. Conditions: lengths.
-/
import Derived.Test.YtfgndnackofenaaEWRNum
import Derived.Test.YtfgndnackofenaaEM14
namespace Go.Proofs.Ytfgndnackofenaa.E
open Go Go.RowKit Go.Proofs.YtfgndnackofenaaW.E
set_option linter.unusedVariables false
set_option linter.unusedSimpArgs false
set_option maxRecDepth 100000
set_option maxHeartbeats 4000000

def enpR (p : Pr) : List Int := pb (IntKind.u64.wrap p.c) 2 ++ [p.l]
def encR (d : Int) (l : List Pr) : List Int := [d, IntKind.u8.wrap l.length] ++ l.flatMap enpR
theorem encRs_len : ∀ l : List Pr, (l.flatMap enpR).length = 3 * l.length
  | [] => rfl
  | p :: l => by rw [List.flatMap_cons, List.length_append, encRs_len l, List.length_cons]; simp [enpR, pb_len]; omega

theorem sp_RPutLabel (b : List Int) (d : Int) (l : List Pr) (hb : b.length ≤ 4096) (hl : l.length ≤ 4096) : ACall Try.prog 81 [l8 b, lab d l] (f8 (b ++ encR d l)) := by
  refine acall_of Try.func81 rfl rfl (Nat.le_of_ble_eq_true rfl) T_ok (fun base w0 => ?_)
  refine AWp.seq (AWp.regionW T_ok rfl (WL.all (by simp (decide := true) only [EVs, EVt, Array.toList] <;> exact rfl) ?_))
  refine AWp.seq (AWp.drawnW T_ok mixed (by kernel_rfl) rfl (WL.next 2 rfl rfl (by simp (decide := true) only [EVs, EVt, Array.toList] <;> exact rfl) ?_))
  refine WL.acc (e := 5) (xs := []) (ys := b.map u8) (sy := 1) (oy := .no) rfl rfl rfl rfl rfl rfl rfl T_u8s rfl T_u8 (by simp (decide := true) only [EVs, EVt, Array.toList]; exact ⟨_, _, rfl, .inl ⟨rfl, .inl rfl⟩⟩) (by simp (decide := true) only [EVs, EVt, Array.toList]) (.inl rfl) (by simp; omega) (by decide) (fun v1 L1 hA1 => ?_)
  refine (WL.next 7 rfl rfl (by simp (decide := true) only [EVs, EVt, Array.toList] <;> exact rfl) ?_)
  refine WL.acc (e := 5) (ys := [u8 d, u8 (IntKind.u8.wrap l.length)]) (sy := 1) (oy := .full) rfl rfl rfl rfl rfl rfl rfl T_u8s rfl T_u8 (by simp (decide := true) only [EVs, EVt, Array.toList]; exact hA1) (by simp (decide := true) only [EVs, EVt, Array.toList]) (.inl rfl) (by simp; omega) (by decide) (fun v2 L2 hA2 => ?_)
  refine (WL.all (by simp (decide := true) only [EVs, EVt, Array.toList] <;> exact rfl) ?_)
  rw [List.nil_append] at hA2
  have hA3 : Acc L2 v2 1 ((b ++ [d, IntKind.u8.wrap l.length]).map u8) := by rw [List.map_append]; exact hA2
  refine AWp.seq (AWp.seq (AWp.regionW T_ok rfl (WL.all (by simp (decide := true) only [EVs, EVt, Array.toList] <;> exact rfl) ?_)))
  refine AWp.block (AWp.loop (fun n st => ∃ (j : Nat) (out : List Int) (s : Nat → AV) (B : Nat → Nat × List AV) (L : Nat → Nat), st = ⟨42, 0, s, B, L⟩ ∧ j ≤ l.length ∧ n = l.length - j ∧ s 3 = .ptr 3 1 0 ∧ B 3 = (1, [u8 d, lps l]) ∧ s 5 = i64 j ∧
    Acc L (s 0) 1 (out.map u8) ∧ out = b ++ [d, IntKind.u8.wrap l.length] ++ (l.take j).flatMap enpR) ?_ (n := l.length)
    ⟨0, b ++ [d, IntKind.u8.wrap l.length], _, _, _, rfl, by omega, rfl, ?_, ?_, ?_, ?_, by simp⟩)
  · rintro n st ⟨j, out, s, B, L, rfl, hj, rfl, s3, hB, s5, hA, ho⟩
    by_cases hlt : j < l.length
    · have e1 : ltI (j : Int) (l.length : Int) = true := ltI_t (by omega)
      have e2 := get_mapi prA l j hlt
      have e7 := wup j (by omega)
      have hlen : out.length = b.length + 2 + 3 * j := by
        rw [ho]; simp only [List.length_append, encRs_len, List.length_take, List.length_cons, List.length_nil]; omega
      obtain ⟨ow, sx, hv, hacc⟩ := hA
      have hsx : sx = 1 := by
        rcases hacc with ⟨_, h | h⟩ | ⟨_, _, h⟩
        · exfalso
          have := congrArg List.length h
          simp at this
          rw [this, List.length_nil] at hlen
          omega
        · exact h
        · exact h
      subst hsx
      refine AWp.seq (AWp.seq (AWp.regionW T_ok rfl (WL.all (by simp (decide := true) only [EVs, EVt, Array.toList, s3, hB, s5, e1] <;> exact rfl) ?_)))
      refine AWp.cond (t := true) rfl (AWp.skip ?_)
      refine AWp.seq (AWp.block (AWp.drawnW T_ok mixed (by kernel_rfl) rfl (WL.next 8 rfl rfl (by simp (decide := true) only [EVs, EVt, Array.toList, s3, hB, s5, e2, hv] <;> exact rfl) ?_)))
      refine WL.f rfl rfl rfl rfl (by simp (decide := true) only [EVs, EVt, Array.toList, calleeOf] <;> exact rfl) (by simp (decide := true) only [EVs, EVt, Array.toList, argsOf, frz] <;> exact rfl) (ACall.wkl (sp_RPut out (IntKind.u64.wrap l[j].c) 2 (by omega) (by omega)) (.cons (.list _ _ _ _ (.inl rfl)) (.cons (.refl _) (.cons (.refl _) .nil)))) ?_
      refine (WL.next 7 rfl rfl (by simp (decide := true) only [EVs, EVt, Array.toList, s3, hB, s5, e2] <;> exact rfl) ?_)
      refine WL.acc (e := 5) (xs := (out ++ pb (IntKind.u64.wrap l[j].c) 2).map u8) (ys := [u8 l[j].l]) (sy := 1) (oy := .full) rfl rfl rfl rfl rfl rfl rfl T_u8s rfl T_u8 (by simp (decide := true) only [EVs, EVt, Array.toList]; exact ⟨_, _, rfl, .inr ⟨_, rfl, rfl⟩⟩) (by simp (decide := true) only [EVs, EVt, Array.toList]) (.inl rfl) (by simp [pb_len]; omega) (by decide) (fun v1 L1 hA1 => ?_)
      refine (WL.all (by simp (decide := true) only [EVs, EVt, Array.toList] <;> exact rfl) ?_)
      refine (AWp.regionW T_ok rfl (WL.all (by simp (decide := true) only [EVs, EVt, Array.toList, s5, e7] <;> exact rfl) ?_))
      refine ⟨l.length - (j + 1), by omega, j + 1, out ++ pb (IntKind.u64.wrap l[j].c) 2 ++ [l[j].l], _, _, _, rfl, by omega, rfl, ?_, ?_, ?_, ?_, ?_⟩
      · simp (decide := true) only [EVs, EVt, Array.toList, s3]
      · simp (decide := true) only [EVs, EVt, Array.toList, hB]
      · simp (decide := true) only [EVs, EVt, Array.toList]
      · simp (decide := true) only [EVs, EVt, Array.toList]
        rw [List.map_append]; exact hA1
      · rw [ho, take_snoc l j hlt, List.flatMap_append]; simp [enpR]
    · have e1 : ltI (j : Int) (l.length : Int) = false := ltI_f (by omega)
      refine AWp.seq (AWp.seq (AWp.regionW T_ok rfl (WL.all (by simp (decide := true) only [EVs, EVt, Array.toList, s3, hB, s5, e1] <;> exact rfl) ?_)))
      refine AWp.cond (t := false) rfl (AWp.exit ?_)
      refine AWp.seq (AWp.regionW T_ok rfl (WL.all (by simp (decide := true) only [EVs, EVt, Array.toList] <;> exact rfl) ?_))
      refine AWp.ret ⟨_, rfl, .inr ⟨1, _, rfl, ?_⟩⟩
      simp (decide := true) only [EVs, EVt, Array.toList]
      rw [List.take_of_length_le (by omega)] at ho
      have : out = b ++ encR d l := by rw [ho]; simp [encR]
      rw [← this]
      exact hA
  · simp (decide := true) only [EVs, EVt, Array.toList]
  · simp (decide := true) only [EVs, EVt, Array.toList]
  · simp (decide := true) only [EVs, EVt, Array.toList]; rfl
  · simp (decide := true) only [EVs, EVt, Array.toList]
    exact hA3
end Go.Proofs.Ytfgndnackofenaa.E
