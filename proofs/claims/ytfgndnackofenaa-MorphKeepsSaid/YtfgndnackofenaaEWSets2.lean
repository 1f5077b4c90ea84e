/-
  Packages sets and transomref8, walked in abstract values. Conditions: lengths.
-/
import Derived.Test.YtfgndnackofenaaEWCats
import Derived.Test.YtfgndnackofenaaEWRef
import Derived.Test.YtfgndnackofenaaEM14
namespace Go.Proofs.Ytfgndnackofenaa.E
open Go Go.RowKit Go.Proofs.YtfgndnackofenaaW.E
set_option linter.unusedVariables false
set_option linter.unusedSimpArgs false
set_option maxRecDepth 100000
set_option maxHeartbeats 4000000










theorem sp_ROr (a b : List Int) (ha : a.length ≤ 4096) (hb : b.length ≤ 4096) : ACall Try.prog 62 [l16 a, l16 b] (f16 (orr a b)) := by
  refine acall_of Try.func62 rfl rfl (Nat.le_of_ble_eq_true rfl) T_ok (fun base w0 => ?_)
  refine AWp.seq (AWp.regionW T_ok rfl (WL.all (by simp (decide := true) only [EVs, EVt, Array.toList] <;> exact rfl) ?_))
  refine AWp.seq (AWp.regionW T_ok rfl (WL.next 2 rfl rfl (by simp (decide := true) only [EVs, EVt, Array.toList] <;> exact rfl) ?_))
  refine WL.acc (e := 33) (xs := []) (ys := a.map u16) (sy := 1) (oy := .no) rfl rfl rfl rfl rfl rfl rfl T_u16s rfl T_u16 (by simp (decide := true) only [EVs, EVt, Array.toList]; exact ⟨_, _, rfl, .inl ⟨rfl, .inl rfl⟩⟩) (by simp (decide := true) only [EVs, EVt, Array.toList]) (.inl rfl) (by simp; omega) (by decide) (fun v L1 hA1 => ?_)
  refine (WL.next 1 rfl rfl (by simp (decide := true) only [EVs, EVt, Array.toList] <;> exact rfl) ?_)
  refine WL.acc (e := 33) (ys := b.map u16) (sy := 1) (oy := .no) rfl rfl rfl rfl rfl rfl rfl T_u16s rfl T_u16 (by simp (decide := true) only [EVs, EVt, Array.toList]; exact hA1) (by simp (decide := true) only [EVs, EVt, Array.toList]) (.inl rfl) (by simp; omega) (by decide) (fun v L2 hA2 => ?_)
  rw [List.nil_append, ← List.map_append] at hA2
  obtain ⟨ow, sx, hv, hacc⟩ := hA2
  have hsx : sx = 1 ∨ (a ++ b).map u16 = [] := by
    rcases hacc with ⟨_, h | h⟩ | ⟨_, _, h⟩
    · exact .inr h
    · exact .inl h
    · exact .inl h
  subst hv
  refine WL.f rfl rfl rfl rfl (by simp (decide := true) only [EVs, EVt, Array.toList, calleeOf] <;> exact rfl) (by simp (decide := true) only [EVs, EVt, Array.toList, argsOf, frz] <;> exact rfl) (ACall.wkl (sp_Make (a ++ b) (by simp; omega)) (.cons (.list _ _ _ _ hsx) .nil)) ?_
  refine (WL.all (by simp (decide := true) only [EVs, EVt, Array.toList] <;> exact rfl) ?_)
  exact AWp.ret ⟨_, rfl, .inr ⟨1, _, rfl, _, _, rfl, .inr ⟨_, rfl, rfl⟩⟩⟩

theorem sp_MayR (l : List Int) (hl : l.length * 2 ≤ 140737488351232) : ACall Try.prog 61 [l16 l] (bo (mayC l)) := sp_MaySet l hl

theorem sp_May8 (s i o : List Int) (hs : s.length * 2 ≤ 140737488351232) (hi : i.length * 2 ≤ 140737488351232) (ho : o.length * 2 ≤ 140737488351232) : ACall Try.prog 16 [sts s i o] (bo (may8 s i o)) := by
  refine acall_of Try.func16 rfl rfl (Nat.le_of_ble_eq_true rfl) T_ok (fun base w0 => ?_)
  refine AWp.seq (AWp.regionW T_ok rfl (WL.all (by simp (decide := true) only [EVs, EVt, Array.toList] <;> exact rfl) ?_))
  by_cases hall : mayC s = true ∧ mayC i = true ∧ mayC o = true
  · obtain ⟨h1, h2, h3⟩ := hall
    have r0 := mayC_len h1
    have r1 := mayC_len h2
    have r2 := mayC_len h3
    refine AWp.seq (AWp.seq (AWp.regionW T_ok rfl ?_))
    (repeat (first | refine WL.c rfl rfl rfl (by simp (decide := true) only [EVs, EVt, Array.toList, h1, h2, h3] <;> exact rfl) (by simp (decide := true) only [EVs, EVt, Array.toList, calleeOf, h1, h2, h3] <;> exact rfl) (by simp (decide := true) only [EVs, EVt, Array.toList, argsOf, frz, h1, h2, h3] <;> exact rfl) (by first | exact sp_MayR s hs | exact sp_MayR i hi | exact sp_MayR o ho) rfl ?_ | refine WL.f rfl rfl rfl (by simp (decide := true) only [EVs, EVt, Array.toList, h1, h2, h3] <;> exact rfl) (by simp (decide := true) only [EVs, EVt, Array.toList, calleeOf, h1, h2, h3] <;> exact rfl) (by simp (decide := true) only [EVs, EVt, Array.toList, argsOf, frz, h1, h2, h3] <;> exact rfl) (by first | exact sp_MayR s hs | exact sp_MayR i hi | exact sp_MayR o ho) ?_ | refine WL.one (by simp (decide := true) only [EVs, EVt, Array.toList, h1, h2, h3] <;> exact rfl) ?_)); refine WL.nil ?_
    refine AWp.cond (t := false) rfl (AWp.skip ?_)
    have hu1 := orr_len s i
    refine AWp.seq (AWp.drawnW T_ok mixed (by kernel_rfl) rfl ?_)
    (repeat (first | refine WL.c rfl rfl rfl (by simp (decide := true) only [EVs, EVt, Array.toList] <;> exact rfl) (by simp (decide := true) only [EVs, EVt, Array.toList, calleeOf] <;> exact rfl) (by simp (decide := true) only [EVs, EVt, Array.toList, argsOf, frz] <;> exact rfl) (by first | exact sp_ROr s i (by omega) (by omega) | exact sp_ROr (orr s i) o (by omega) (by omega)) rfl ?_ | refine WL.f rfl rfl rfl (by simp (decide := true) only [EVs, EVt, Array.toList] <;> exact rfl) (by simp (decide := true) only [EVs, EVt, Array.toList, calleeOf] <;> exact rfl) (by simp (decide := true) only [EVs, EVt, Array.toList, argsOf, frz] <;> exact rfl) (by first | exact sp_ROr s i (by omega) (by omega) | exact sp_ROr (orr s i) o (by omega) (by omega)) ?_ | refine WL.one (by simp (decide := true) only [EVs, EVt, Array.toList] <;> exact rfl) ?_)); refine WL.nil ?_
    have w1 : IntKind.i64.wrap ((s.length : Int) + (i.length : Int)) = ((s.length + i.length : Nat) : Int) := by rw [IntWalk.i64_in _ (by omega)]; omega
    have w2 : IntKind.i64.wrap (((s.length + i.length : Nat) : Int) + (o.length : Int)) = ((s.length + i.length + o.length : Nat) : Int) := by rw [IntWalk.i64_in _ (by omega)]; omega
    by_cases hE : (orr (orr s i) o).length = s.length + i.length + o.length
    · have c1 : eqI ((orr (orr s i) o).length : Int) ((s.length + i.length + o.length : Nat) : Int) = true := eqI_t (by omega)
      by_cases hF : (orr (orr s i) o).length ≤ 16
      · have c2 : leI ((orr (orr s i) o).length : Int) 16 = true := leI_t (by omega)
        refine AWp.seq (AWp.regionW T_ok rfl (WL.all (by simp (decide := true) only [EVs, EVt, Array.toList, w1, w2, c1, c2] <;> exact rfl) ?_))
        refine AWp.ret ⟨_, rfl, .inl ?_⟩
        have : may8 s i o = true := by simp only [may8, h1, h2, h3, decide_eq_true hE, decide_eq_true hF, Bool.and_self]
        rw [this]
        exact .refl _
      · have c2 : leI ((orr (orr s i) o).length : Int) 16 = false := leI_f (by omega)
        refine AWp.seq (AWp.regionW T_ok rfl (WL.all (by simp (decide := true) only [EVs, EVt, Array.toList, w1, w2, c1, c2] <;> exact rfl) ?_))
        refine AWp.ret ⟨_, rfl, .inl ?_⟩
        simp only [may8, hF, decide_false, Bool.and_false]
        exact .refl _
    · have c1 : eqI ((orr (orr s i) o).length : Int) ((s.length + i.length + o.length : Nat) : Int) = false := eqI_f (by omega)
      refine AWp.seq (AWp.regionW T_ok rfl (WL.all (by simp (decide := true) only [EVs, EVt, Array.toList, w1, w2, c1] <;> exact rfl) ?_))
      refine AWp.ret ⟨_, rfl, .inl ?_⟩
      simp only [may8, hE, decide_false, Bool.false_and, Bool.and_false]
      exact .refl _
  · have hf : may8 s i o = false := by
      cases h1 : mayC s <;> cases h2 : mayC i <;> cases h3 : mayC o <;> simp_all [may8]
    cases h1 : mayC s <;> cases h2 : mayC i <;> cases h3 : mayC o <;> first | (exfalso; simp [h1, h2, h3] at hall; done) | (clear hall; refine AWp.seq (AWp.seq (AWp.regionW T_ok rfl ?_)); (repeat (first | refine WL.c rfl rfl rfl (by simp (decide := true) only [EVs, EVt, Array.toList, h1, h2, h3] <;> exact rfl) (by simp (decide := true) only [EVs, EVt, Array.toList, calleeOf, h1, h2, h3] <;> exact rfl) (by simp (decide := true) only [EVs, EVt, Array.toList, argsOf, frz, h1, h2, h3] <;> exact rfl) (by first | exact sp_MayR s hs | exact sp_MayR i hi | exact sp_MayR o ho) rfl ?_ | refine WL.f rfl rfl rfl (by simp (decide := true) only [EVs, EVt, Array.toList, h1, h2, h3] <;> exact rfl) (by simp (decide := true) only [EVs, EVt, Array.toList, calleeOf, h1, h2, h3] <;> exact rfl) (by simp (decide := true) only [EVs, EVt, Array.toList, argsOf, frz, h1, h2, h3] <;> exact rfl) (by first | exact sp_MayR s hs | exact sp_MayR i hi | exact sp_MayR o ho) ?_ | refine WL.one (by simp (decide := true) only [EVs, EVt, Array.toList, h1, h2, h3] <;> exact rfl) ?_)); refine WL.nil ?_; refine AWp.cond (t := true) rfl (AWp.seq (AWp.regionW T_ok rfl (WL.all (by simp (decide := true) only [EVs, EVt, Array.toList] <;> exact rfl) ?_))); refine AWp.ret ⟨_, rfl, .inl ?_⟩; rw [hf]; exact .refl _)

theorem sp_RAdd (s i o : List Int) (c : Int) (a1 : s.length ≤ 4096) (a2 : i.length ≤ 4096) (a3 : o.length ≤ 4096) :
    ACall Try.prog 27 [sts s i o, u16 c] (sts (fil false s [c]) (fil false i [c]) (orr o [c])) := by
  refine acall_of Try.func27 rfl rfl (Nat.le_of_ble_eq_true rfl) T_ok (fun base w0 => ?_)
  refine AWp.seq (AWp.regionW T_ok rfl (WL.all (by simp (decide := true) only [EVs, EVt, Array.toList] <;> exact rfl) ?_))
  refine AWp.seq (AWp.regionW T_ok rfl (WL.all (by simp (decide := true) only [EVs, EVt, Array.toList] <;> exact rfl) ?_))
  refine AWp.seq (AWp.drawnW T_ok mixed (by kernel_rfl) rfl ?_)
  (repeat (first | refine WL.c rfl rfl rfl (by simp (decide := true) only [EVs, EVt, Array.toList] <;> exact rfl) (by simp (decide := true) only [EVs, EVt, Array.toList, calleeOf] <;> exact rfl) (by simp (decide := true) only [EVs, EVt, Array.toList, argsOf, frz] <;> exact rfl) (by first | exact ACall.wkl (sp_RLess s [c] (by omega) (by simp)) (.cons (.refl _) (.cons (.list _ _ _ _ (.inl rfl)) .nil)) | exact ACall.wkl (sp_RLess i [c] (by omega) (by simp)) (.cons (.refl _) (.cons (.list _ _ _ _ (.inl rfl)) .nil)) | exact ACall.wkl (sp_ROr o [c] (by omega) (by simp)) (.cons (.refl _) (.cons (.list _ _ _ _ (.inl rfl)) .nil))) rfl ?_ | refine WL.f rfl rfl rfl (by simp (decide := true) only [EVs, EVt, Array.toList] <;> exact rfl) (by simp (decide := true) only [EVs, EVt, Array.toList, calleeOf] <;> exact rfl) (by simp (decide := true) only [EVs, EVt, Array.toList, argsOf, frz] <;> exact rfl) (by first | exact ACall.wkl (sp_RLess s [c] (by omega) (by simp)) (.cons (.refl _) (.cons (.list _ _ _ _ (.inl rfl)) .nil)) | exact ACall.wkl (sp_RLess i [c] (by omega) (by simp)) (.cons (.refl _) (.cons (.list _ _ _ _ (.inl rfl)) .nil)) | exact ACall.wkl (sp_ROr o [c] (by omega) (by simp)) (.cons (.refl _) (.cons (.list _ _ _ _ (.inl rfl)) .nil))) ?_ | refine WL.one (by simp (decide := true) only [EVs, EVt, Array.toList] <;> exact rfl) ?_)); refine WL.nil ?_
  exact AWp.ret ⟨_, rfl, .inl (.refl _)⟩
end Go.Proofs.Ytfgndnackofenaa.E
