/-
  TopMixed for every list of bytes and every number: by the list's length. No condition.
-/
import Derived.Test.YtmnpjaglgalobaaGreatEWTx0
import Derived.Test.YtmnpjaglgalobaaGreatEWTx1
import Derived.Test.YtmnpjaglgalobaaGreatEWTx2
import Derived.Test.YtmnpjaglgalobaaGreatEWTx3
import Derived.Test.YtmnpjaglgalobaaGreatEWTx4
import Derived.Test.YtmnpjaglgalobaaGreatEWTx5
import Derived.Test.YtmnpjaglgalobaaGreatEWTx6
import Derived.Test.YtmnpjaglgalobaaGreatEWTx7
import Derived.Test.YtmnpjaglgalobaaGreatEWTx8
import Derived.Test.YtmnpjaglgalobaaGreatEWTx9
import Derived.Test.YtmnpjaglgalobaaGreatEWTx10
import Derived.Test.YtmnpjaglgalobaaGreatEWXa
namespace Go.Proofs.YtmnpjaglgalobaaGreat.K
open Go Go.RowKit Go.Proofs.YtmnpjaglgalobaaGreatW.C Go.Proofs.YtmnpjaglgalobaaGreatW.D
set_option linter.unusedVariables false
theorem tx_run (n : Nat) (h1 : 0 < n) (h2 : n ≤ 20) : run 3 [.res .u8 1004 n, .res .u16 1001 100] = .yes := by
  match n, h1, h2 with
  | 1, _, _ => exact tx_1
  | 2, _, _ => exact tx_2
  | 3, _, _ => exact tx_3
  | 4, _, _ => exact tx_4
  | 5, _, _ => exact tx_5
  | 6, _, _ => exact tx_6
  | 7, _, _ => exact tx_7
  | 8, _, _ => exact tx_8
  | 9, _, _ => exact tx_9
  | 10, _, _ => exact tx_10
  | 11, _, _ => exact tx_11
  | 12, _, _ => exact tx_12
  | 13, _, _ => exact tx_13
  | 14, _, _ => exact tx_14
  | 15, _, _ => exact tx_15
  | 16, _, _ => exact tx_16
  | 17, _, _ => exact tx_17
  | 18, _, _ => exact tx_18
  | 19, _, _ => exact tx_19
  | 20, _, _ => exact tx_20
  | n + 21, _, h => exact absurd h (by omega)
theorem cell_sub {w : World} {a : Addr} {v : Value} (h : w.cell? a = some v) : a = ⟨a.block, a.off, none⟩ ∧ a.block < w.heap.size := by
  unfold World.cell? at h
  split at h
  · rename_i hb
    split at h
    · cases h
    · rename_i hn
      refine ⟨?_, (Array.getElem?_eq_some_iff.1 hb).1⟩
      obtain ⟨b, o, s⟩ := a
      cases s with
      | none => rfl
      | some x => simp at hn
  · cases h
theorem topMixed_calls {v : Value} {c : Int} {w : World} (hb : BytesAt w v) (h0 : 0 ≤ c) (h1 : c < 65536) : Calls Tryz.prog 3 #[v, .int .u16 c] w fun e w' => e = .returned (.bool true) ∧ Below w.heap.size w w' := by
  have hc : ∀ (l : List Nat) b off n, (∀ x ∈ l, x < 256) → l.length ≤ 100 → RV (env0 ⟨numOf l c.toNat, b, off, n⟩) (.res .u16 1001 100) (.int .u16 c) := fun l b off n hl hn => by
    refine .res _ _ _ _ (res_1001.2 ?_)
    show Value.int .u16 c = .int .u16 (((Src.mk (numOf l c.toNat) b off n).wide 100 : Nat) : Int)
    rw [(num_ok hl hn (by omega) b off n).2, show ((c.toNat : Nat) : Int) = c by omega]
  have two : ∀ (a : CV) (sr : Src), RV (env0 sr) a v → RV (env0 sr) (.res .u16 1001 100) (.int .u16 c) → ∀ (i : Nat) a' v', [a, .res .u16 1001 100][i]? = some a' → #[v, .int .u16 c][i]? = some v' → RV (env0 sr) a' v' := by
    intro a sr g1 g2
    rintro (_ | _ | _) a' v' e1 e2 <;> simp at e1 e2 <;> subst e1 <;> subst e2
    · exact g1
    · exact g2
  rcases hb with rfl | ⟨A, l, cap, rfl, hcap, hl, hat⟩
  · exact run_okS (sr := ⟨numOf [] c.toNat, 0, 0, 0⟩) (.inl rfl) tx_nil rfl (two _ _ (.val _) (hc [] 0 0 0 (by simp) (by simp)))
  · by_cases hn0 : l.length = 0
    · have hl0 := List.eq_nil_of_length_eq_zero hn0
      subst hl0
      exact run_okS (sr := ⟨numOf [] c.toNat, 0, 0, 0⟩) (.inl rfl) tx_emp rfl (two _ _ (.sle A cap) (hc [] 0 0 0 (by simp) (by simp)))
    · by_cases hn : l.length ≤ 20
      · have g0 := hat 0 l[0] (by simp [List.getElem?_eq_getElem (show 0 < l.length by omega)])
        have ea : A.add 0 = A := by simp [Addr.add]
        rw [ea] at g0
        obtain ⟨eA, hblk⟩ := cell_sub g0
        have hlN : l.length ≤ 100 := by omega
        refine run_okS (sr := ⟨numOf l c.toNat, A.block, A.off, l.length⟩) (.inr ⟨hblk, fun h => h, fun i hi => ?_⟩) (tx_run l.length (by omega) hn) rfl (two _ _ (.res _ _ _ _ (res_1004.2 ⟨cap, by show Value.slice (some A) l.length cap = .slice (some ⟨A.block, A.off, none⟩) l.length cap; rw [← eA], rfl, hcap⟩)) (hc l _ _ _ hl hlN))
        have hi' : i < l.length := hi
        have g1 := hat i l[i] (by simp)
        have e1 : A.add i = ⟨A.block, A.off + i, none⟩ := by
          unfold Addr.add
          split
          · rename_i hz; rw [hz]; exact eA
          · rfl
        rw [e1] at g1
        rw [(num_ok hl hlN (by omega) A.block A.off l.length).1 i l[i] (by simp)]
        exact g1
      · exact run_okS (sr := ⟨numOf [] c.toNat, 0, 0, 0⟩) (.inl rfl) tx_long rfl (two _ _ (.res _ _ _ _ (res_1005.2 ⟨A, l.length, cap, rfl, by omega⟩)) (hc [] 0 0 0 (by simp) (by simp)))
end Go.Proofs.YtmnpjaglgalobaaGreat.K
