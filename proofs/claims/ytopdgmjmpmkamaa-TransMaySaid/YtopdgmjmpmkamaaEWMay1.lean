/-
  Who may, by levels (packages label, may1), walked in abstract values. Conditions: lengths, levels are bytes.
-/
import Derived.Test.YtopdgmjmpmkamaaEWMrg
import Derived.Test.YtopdgmjmpmkamaaEM14
namespace Go.Proofs.Ytopdgmjmpmkamaa.E
open Go Go.RowKit Go.Proofs.YtopdgmjmpmkamaaW.E
set_option linter.unusedVariables false
set_option linter.unusedSimpArgs false
set_option maxRecDepth 100000
set_option maxHeartbeats 4000000

/-- Where what is sought stands first; -1 if nowhere. -/
def fix (q : Pr → Bool) (l : List Pr) : Int := match l.findIdx? q with | some i => (i : Int) | none => -1
theorem fix_some {q : Pr → Bool} {l : List Pr} {j : Nat} (h : j < l.length) (h1 : q l[j] = true) (h2 : ∀ (i : Nat) (hi : i < j), q (l[i]'(by omega)) = false) : fix q l = (j : Int) := by
  have : l.findIdx? q = some j := List.findIdx?_eq_some_iff_getElem.2 ⟨h, h1, fun i hi => by rw [h2 i hi]; simp⟩
  simp [fix, this]
theorem fix_none {q : Pr → Bool} {l : List Pr} (h : ∀ p ∈ l, q p = false) : fix q l = -1 := by
  have : l.findIdx? q = none := List.findIdx?_eq_none_iff.2 h
  simp [fix, this]
theorem fix_any {q : Pr → Bool} {l : List Pr} : leI 0 (fix q l) = l.any q := by
  unfold fix
  cases h : l.findIdx? q with
  | none =>
    have := List.findIdx?_eq_none_iff.1 h
    have e : l.any q = false := by rw [List.any_eq_false]; intro x hx; rw [this x hx]; simp
    rw [e]; exact leI_f (by simp only; omega)
  | some i =>
    obtain ⟨h1, h2, _⟩ := List.findIdx?_eq_some_iff_getElem.1 h
    have e : l.any q = true := List.any_eq_true.2 ⟨_, List.getElem_mem h1, h2⟩
    rw [e]; exact leI_t (by simp only; omega)
theorem at_fix (d c : Int) : ∀ (l : List Pr), (∃ (i : Nat) (h : i < l.length), fix (fun p => eqI p.c c) l = (i : Int) ∧ at_ d l c = l[i].l) ∨ (fix (fun p => eqI p.c c) l = -1 ∧ at_ d l c = d)
  | [] => .inr ⟨rfl, rfl⟩
  | p :: l => by
    by_cases h : p.c = c
    · have h1 : eqI p.c c = true := eqI_t h
      exact .inl ⟨0, by simp, fix_some (by simp) (by simpa using h1) (fun i hi => by omega), by rw [at_, if_pos h]; rfl⟩
    · have h1 : eqI p.c c = false := eqI_f h
      have e : (p :: l).findIdx? (fun p => eqI p.c c) = (l.findIdx? fun p => eqI p.c c).map (· + 1) := by rw [List.findIdx?_cons]; simp [h1]
      rcases at_fix d c l with ⟨i, hi, h2, h3⟩ | ⟨h2, h3⟩
      · refine .inl ⟨i + 1, by simpa using hi, ?_, by rw [at_, if_neg h]; simpa using h3⟩
        unfold fix at h2 ⊢
        rw [e]
        cases hf : l.findIdx? fun p => eqI p.c c with
        | none => rw [hf] at h2; simp only at h2; omega
        | some k => rw [hf] at h2; simp only at h2; simp only [Option.map_some]; omega
      · refine .inr ⟨?_, by rw [at_, if_neg h]; exact h3⟩
        unfold fix at h2 ⊢
        rw [e]
        cases hf : l.findIdx? fun p => eqI p.c c with
        | none => rfl
        | some k => rw [hf] at h2; simp only at h2; omega

theorem sp_IndexF (g : FuncId) (caps : List AV) (q : Pr → Bool) (l : List Pr) (hl : l.length ≤ 35184372087808) (hc : ∀ B : Nat → Nat × List AV, caps.map (frz B 3) = caps) (hq : ∀ p ∈ l, ACall Try.prog g (prA p :: caps) (bo (q p))) :
    ACall Try.prog 78 [lps l, .fn g caps] (i64 (fix q l)) := by
  refine acall_of Try.func78 rfl rfl (Nat.le_of_ble_eq_true rfl) T_ok (fun base w0 => ?_)
  refine AWp.seq (AWp.regionW T_ok rfl (WL.all (by simp (decide := true) only [EVs, EVt, Array.toList] <;> exact rfl) ?_))
  refine AWp.seq (AWp.seq (AWp.regionW T_ok rfl (WL.all (by simp (decide := true) only [EVs, EVt, Array.toList] <;> exact rfl) ?_)))
  refine AWp.block (AWp.loop (fun n st => ∃ (j : Nat) (s : Nat → AV) (B : Nat → Nat × List AV) (L : Nat → Nat), st = ⟨19, 0, s, B, L⟩ ∧ n = l.length - j ∧ s 0 = lps l ∧ s 1 = .fn g caps ∧ s 7 = i64 l.length ∧ s 8 = i64 j ∧ ∀ (i : Nat) (hi : i < l.length), i < j → q l[i] = false) ?_ (n := l.length)
    ⟨0, _, _, _, rfl, rfl, rfl, rfl, rfl, rfl, fun i hi h => by omega⟩)
  rintro n st ⟨j, s, B, L, rfl, rfl, s0, s1, s7, s8, hk⟩
  by_cases hlt : j < l.length
  · have e1 : ltI (j : Int) (l.length : Int) = true := ltI_t (by omega)
    have e2 := get_mapi prA l j hlt
    have e7 := wup j (by omega)
    refine AWp.seq (AWp.regionW T_ok rfl (WL.all (by simp (decide := true) only [EVs, EVt, Array.toList, s7, s8, e1] <;> exact rfl) ?_))
    refine AWp.seq (AWp.cond (t := true) rfl (AWp.skip ?_))
    have hqj := hq _ (List.getElem_mem hlt)
    cases hb : q l[j] with
    | true =>
      rw [hb] at hqj
      refine AWp.seq (AWp.block (AWp.seq (AWp.regionW T_ok rfl (WL.all (by simp (decide := true) only [EVs, EVt, Array.toList, s8] <;> exact rfl) ?_))))
      refine AWp.seq (AWp.regionW T_ok rfl ?_)
      (repeat (first | refine WL.c rfl rfl rfl (by simp (decide := true) only [EVs, EVt, Array.toList, s0, s1, e2, hc] <;> exact rfl) (by simp (decide := true) only [EVs, EVt, Array.toList, calleeOf, s0, s1, e2, hc] <;> exact rfl) (by simp (decide := true) only [EVs, EVt, Array.toList, argsOf, frz, s0, s1, e2, hc] <;> exact rfl) (by first | exact hqj) rfl ?_ | refine WL.f rfl rfl rfl (by simp (decide := true) only [EVs, EVt, Array.toList, s0, s1, e2, hc] <;> exact rfl) (by simp (decide := true) only [EVs, EVt, Array.toList, calleeOf, s0, s1, e2, hc] <;> exact rfl) (by simp (decide := true) only [EVs, EVt, Array.toList, argsOf, frz, s0, s1, e2, hc] <;> exact rfl) (by first | exact hqj) ?_ | refine WL.one (by simp (decide := true) only [EVs, EVt, Array.toList, s0, s1, e2, hc] <;> exact rfl) ?_)); refine WL.nil ?_
      refine AWp.cond (t := true) rfl (AWp.seq (AWp.regionW T_ok rfl (WL.all (by simp (decide := true) only [EVs, EVt, Array.toList] <;> exact rfl) ?_)))
      refine AWp.ret ⟨_, rfl, .inl ?_⟩
      rw [fix_some hlt hb (fun i hi => hk i (by omega) hi)]
      exact .refl _
    | false =>
      rw [hb] at hqj
      refine AWp.seq (AWp.block (AWp.seq (AWp.regionW T_ok rfl (WL.all (by simp (decide := true) only [EVs, EVt, Array.toList, s8] <;> exact rfl) ?_))))
      refine AWp.seq (AWp.regionW T_ok rfl ?_)
      (repeat (first | refine WL.c rfl rfl rfl (by simp (decide := true) only [EVs, EVt, Array.toList, s0, s1, e2, hc] <;> exact rfl) (by simp (decide := true) only [EVs, EVt, Array.toList, calleeOf, s0, s1, e2, hc] <;> exact rfl) (by simp (decide := true) only [EVs, EVt, Array.toList, argsOf, frz, s0, s1, e2, hc] <;> exact rfl) (by first | exact hqj) rfl ?_ | refine WL.f rfl rfl rfl (by simp (decide := true) only [EVs, EVt, Array.toList, s0, s1, e2, hc] <;> exact rfl) (by simp (decide := true) only [EVs, EVt, Array.toList, calleeOf, s0, s1, e2, hc] <;> exact rfl) (by simp (decide := true) only [EVs, EVt, Array.toList, argsOf, frz, s0, s1, e2, hc] <;> exact rfl) (by first | exact hqj) ?_ | refine WL.one (by simp (decide := true) only [EVs, EVt, Array.toList, s0, s1, e2, hc] <;> exact rfl) ?_)); refine WL.nil ?_
      refine AWp.cond (t := false) rfl (AWp.skip ?_)
      refine (AWp.regionW T_ok rfl (WL.all (by simp (decide := true) only [EVs, EVt, Array.toList, s8, e7] <;> exact rfl) ?_))
      refine ⟨l.length - (j + 1), by omega, j + 1, _, _, _, rfl, rfl, ?_, ?_, ?_, ?_, fun i hi h => ?_⟩
      · simp (decide := true) only [EVs, EVt, Array.toList, s0]
      · simp (decide := true) only [EVs, EVt, Array.toList, s1]
      · simp (decide := true) only [EVs, EVt, Array.toList, s7]
      · simp (decide := true) only [EVs, EVt, Array.toList]
      · by_cases e : i = j
        · subst e; exact hb
        · exact hk i hi (by omega)
  · have e1 : ltI (j : Int) (l.length : Int) = false := ltI_f (by omega)
    refine AWp.seq (AWp.regionW T_ok rfl (WL.all (by simp (decide := true) only [EVs, EVt, Array.toList, s7, s8, e1] <;> exact rfl) ?_))
    refine AWp.seq (AWp.cond (t := false) rfl (AWp.exit ?_))
    refine AWp.seq (AWp.regionW T_ok rfl (WL.all (by simp (decide := true) only [EVs, EVt, Array.toList] <;> exact rfl) ?_))
    refine AWp.ret ⟨_, rfl, .inl ?_⟩
    rw [fix_none (fun p hp => by obtain ⟨i, hi, rfl⟩ := List.mem_iff_getElem.1 hp; exact hk i hi (by omega))]
    exact .refl _
theorem sp_ContF (g : FuncId) (caps : List AV) (q : Pr → Bool) (l : List Pr) (hl : l.length ≤ 35184372087808) (hc : ∀ B : Nat → Nat × List AV, caps.map (frz B 3) = caps) (hc2 : ∀ B : Nat → Nat × List AV, caps.map (frz B 2) = caps) (hq : ∀ p ∈ l, ACall Try.prog g (prA p :: caps) (bo (q p))) :
    ACall Try.prog 56 [lps l, .fn g caps] (bo (l.any q)) := by
  refine acall_of Try.func56 rfl rfl (Nat.le_of_ble_eq_true rfl) T_ok (fun base w0 => ?_)
  refine AWp.seq (AWp.regionW T_ok rfl (WL.all (by simp (decide := true) only [EVs, EVt, Array.toList] <;> exact rfl) ?_))
  have e := fix_any (q := q) (l := l)
  refine AWp.seq (AWp.regionW T_ok rfl ?_)
  (repeat (first | refine WL.c rfl rfl rfl (by simp (decide := true) only [EVs, EVt, Array.toList, hc2, e] <;> exact rfl) (by simp (decide := true) only [EVs, EVt, Array.toList, calleeOf, hc2, e] <;> exact rfl) (by simp (decide := true) only [EVs, EVt, Array.toList, argsOf, frz, hc2, e] <;> exact rfl) (by first | exact sp_IndexF g caps q l hl hc hq) rfl ?_ | refine WL.f rfl rfl rfl (by simp (decide := true) only [EVs, EVt, Array.toList, hc2, e] <;> exact rfl) (by simp (decide := true) only [EVs, EVt, Array.toList, calleeOf, hc2, e] <;> exact rfl) (by simp (decide := true) only [EVs, EVt, Array.toList, argsOf, frz, hc2, e] <;> exact rfl) (by first | exact sp_IndexF g caps q l hl hc hq) ?_ | refine WL.one (by simp (decide := true) only [EVs, EVt, Array.toList, hc2, e] <;> exact rfl) ?_)); refine WL.nil ?_
  exact AWp.ret ⟨_, rfl, .inl (.refl _)⟩
theorem sp_Names1 (p : Pr) : ACall Try.prog 57 [prA p] (bo (eqI p.l 3)) := by
  refine acall_of Try.func57 rfl rfl (Nat.le_of_ble_eq_true rfl) T_ok (fun base w0 => ?_)
  refine AWp.seq (AWp.regionW T_ok rfl (WL.all (by simp (decide := true) only [EVs, EVt, Array.toList] <;> exact rfl) ?_))
  refine AWp.seq (AWp.regionW T_ok rfl (WL.all (by simp (decide := true) only [EVs, EVt, Array.toList] <;> exact rfl) ?_))
  exact AWp.ret ⟨_, rfl, .inl (.refl _)⟩
theorem sp_Names (d : Int) (l : List Pr) (hl : l.length ≤ 35184372087808) : ACall Try.prog 27 [lab d l] (bo (nam d l)) := by
  have h := sp_ContF 57 [] (fun p => eqI p.l 3) l hl (fun _ => rfl) (fun _ => rfl) (fun p _ => sp_Names1 p)
  refine acall_of Try.func27 rfl rfl (Nat.le_of_ble_eq_true rfl) T_ok (fun base w0 => ?_)
  refine AWp.seq (AWp.regionW T_ok rfl (WL.all (by simp (decide := true) only [EVs, EVt, Array.toList] <;> exact rfl) ?_))
  by_cases hd : d = 2
  · have c1 : eqI d 2 = true := eqI_t hd
    have e : nam d l = !l.any fun p => eqI p.l 3 := by simp [nam, hd, eqI]
    rw [e]
    refine AWp.seq (AWp.regionW T_ok rfl ?_)
    (repeat (first | refine WL.c rfl rfl rfl (by simp (decide := true) only [EVs, EVt, Array.toList, c1] <;> exact rfl) (by simp (decide := true) only [EVs, EVt, Array.toList, calleeOf, c1] <;> exact rfl) (by simp (decide := true) only [EVs, EVt, Array.toList, argsOf, frz, c1] <;> exact rfl) (by first | exact h) rfl ?_ | refine WL.f rfl rfl rfl (by simp (decide := true) only [EVs, EVt, Array.toList, c1] <;> exact rfl) (by simp (decide := true) only [EVs, EVt, Array.toList, calleeOf, c1] <;> exact rfl) (by simp (decide := true) only [EVs, EVt, Array.toList, argsOf, frz, c1] <;> exact rfl) (by first | exact h) ?_ | refine WL.one (by simp (decide := true) only [EVs, EVt, Array.toList, c1] <;> exact rfl) ?_)); refine WL.nil ?_
    exact AWp.ret ⟨_, rfl, .inl (.refl _)⟩
  · have c1 : eqI d 2 = false := eqI_f hd
    have e : nam d l = false := by simp [nam, hd]
    rw [e]
    refine AWp.seq (AWp.regionW T_ok rfl ?_)
    (repeat (first | refine WL.c rfl rfl rfl (by simp (decide := true) only [EVs, EVt, Array.toList, c1] <;> exact rfl) (by simp (decide := true) only [EVs, EVt, Array.toList, calleeOf, c1] <;> exact rfl) (by simp (decide := true) only [EVs, EVt, Array.toList, argsOf, frz, c1] <;> exact rfl) (by first | exact h) rfl ?_ | refine WL.f rfl rfl rfl (by simp (decide := true) only [EVs, EVt, Array.toList, c1] <;> exact rfl) (by simp (decide := true) only [EVs, EVt, Array.toList, calleeOf, c1] <;> exact rfl) (by simp (decide := true) only [EVs, EVt, Array.toList, argsOf, frz, c1] <;> exact rfl) (by first | exact h) ?_ | refine WL.one (by simp (decide := true) only [EVs, EVt, Array.toList, c1] <;> exact rfl) ?_)); refine WL.nil ?_
    exact AWp.ret ⟨_, rfl, .inl (.refl _)⟩
theorem sp_at1 (p : Pr) (c : Int) : ACall Try.prog 81 [prA p, .pelt [u16 c]] (bo (eqI p.c c)) := by
  refine acall_of Try.func81 rfl rfl (Nat.le_of_ble_eq_true rfl) T_ok (fun base w0 => ?_)
  refine AWp.seq (AWp.regionW T_ok rfl (WL.all (by simp (decide := true) only [EVs, EVt, Array.toList] <;> exact rfl) ?_))
  refine AWp.seq (AWp.regionW T_ok rfl (WL.all (by simp (decide := true) only [EVs, EVt, Array.toList] <;> exact rfl) ?_))
  exact AWp.ret ⟨_, rfl, .inl (.refl _)⟩
theorem sp_at (l : List Pr) (c : Int) (hl : l.length ≤ 35184372087808) : ACall Try.prog 63 [lps l, u16 c] (i64 (fix (fun p => eqI p.c c) l)) := by
  have h := sp_IndexF 81 [.pelt [u16 c]] (fun p => eqI p.c c) l hl (fun _ => rfl) (fun p _ => sp_at1 p c)
  refine acall_of Try.func63 rfl rfl (Nat.le_of_ble_eq_true rfl) T_ok (fun base w0 => ?_)
  refine AWp.seq (AWp.regionW T_ok rfl (WL.all (by simp (decide := true) only [EVs, EVt, Array.toList] <;> exact rfl) ?_))
  refine AWp.seq (AWp.regionW T_ok rfl ?_)
  (repeat (first | refine WL.c rfl rfl rfl (by simp (decide := true) only [EVs, EVt, Array.toList] <;> exact rfl) (by simp (decide := true) only [EVs, EVt, Array.toList, calleeOf] <;> exact rfl) (by simp (decide := true) only [EVs, EVt, Array.toList, argsOf, frz] <;> exact rfl) (by first | exact h) rfl ?_ | refine WL.f rfl rfl rfl (by simp (decide := true) only [EVs, EVt, Array.toList] <;> exact rfl) (by simp (decide := true) only [EVs, EVt, Array.toList, calleeOf] <;> exact rfl) (by simp (decide := true) only [EVs, EVt, Array.toList, argsOf, frz] <;> exact rfl) (by first | exact h) ?_ | refine WL.one (by simp (decide := true) only [EVs, EVt, Array.toList] <;> exact rfl) ?_)); refine WL.nil ?_
  exact AWp.ret ⟨_, rfl, .inl (.refl _)⟩
theorem sp_LAt (d : Int) (l : List Pr) (c : Int) (hl : l.length ≤ 35184372087808) : ACall Try.prog 59 [lab d l, u16 c] (u8 (at_ d l c)) := by
  have h := sp_at l c hl
  refine acall_of Try.func59 rfl rfl (Nat.le_of_ble_eq_true rfl) T_ok (fun base w0 => ?_)
  refine AWp.seq (AWp.regionW T_ok rfl (WL.all (by simp (decide := true) only [EVs, EVt, Array.toList] <;> exact rfl) ?_))
  rcases at_fix d c l with ⟨i, hi, h1, h2⟩ | ⟨h1, h2⟩
  · rw [h1] at h
    rw [h2]
    have c1 : leI 0 (i : Int) = true := leI_t (by omega)
    have c2 := get_mapi prA l i hi
    refine AWp.seq (AWp.seq (AWp.regionW T_ok rfl ?_))
    (repeat (first | refine WL.c rfl rfl rfl (by simp (decide := true) only [EVs, EVt, Array.toList] <;> exact rfl) (by simp (decide := true) only [EVs, EVt, Array.toList, calleeOf] <;> exact rfl) (by simp (decide := true) only [EVs, EVt, Array.toList, argsOf, frz] <;> exact rfl) (by first | exact h) rfl ?_ | refine WL.f rfl rfl rfl (by simp (decide := true) only [EVs, EVt, Array.toList] <;> exact rfl) (by simp (decide := true) only [EVs, EVt, Array.toList, calleeOf] <;> exact rfl) (by simp (decide := true) only [EVs, EVt, Array.toList, argsOf, frz] <;> exact rfl) (by first | exact h) ?_ | refine WL.one (by simp (decide := true) only [EVs, EVt, Array.toList] <;> exact rfl) ?_)); refine WL.nil ?_
    refine AWp.seq (AWp.regionW T_ok rfl (WL.all (by simp (decide := true) only [EVs, EVt, Array.toList, c1] <;> exact rfl) ?_))
    refine AWp.cond (t := true) rfl (AWp.seq (AWp.regionW T_ok rfl (WL.all (by simp (decide := true) only [EVs, EVt, Array.toList, c2] <;> exact rfl) ?_)))
    exact AWp.ret ⟨_, rfl, .inl (.refl _)⟩
  · rw [h1] at h
    rw [h2]
    have c1 : leI 0 (-1) = false := leI_f (by omega)
    refine AWp.seq (AWp.seq (AWp.regionW T_ok rfl ?_))
    (repeat (first | refine WL.c rfl rfl rfl (by simp (decide := true) only [EVs, EVt, Array.toList] <;> exact rfl) (by simp (decide := true) only [EVs, EVt, Array.toList, calleeOf] <;> exact rfl) (by simp (decide := true) only [EVs, EVt, Array.toList, argsOf, frz] <;> exact rfl) (by first | exact h) rfl ?_ | refine WL.f rfl rfl rfl (by simp (decide := true) only [EVs, EVt, Array.toList] <;> exact rfl) (by simp (decide := true) only [EVs, EVt, Array.toList, calleeOf] <;> exact rfl) (by simp (decide := true) only [EVs, EVt, Array.toList, argsOf, frz] <;> exact rfl) (by first | exact h) ?_ | refine WL.one (by simp (decide := true) only [EVs, EVt, Array.toList] <;> exact rfl) ?_)); refine WL.nil ?_
    refine AWp.seq (AWp.regionW T_ok rfl (WL.all (by simp (decide := true) only [EVs, EVt, Array.toList, c1] <;> exact rfl) ?_))
    refine AWp.cond (t := false) rfl (AWp.skip ?_)
    refine AWp.seq (AWp.regionW T_ok rfl (WL.all (by simp (decide := true) only [EVs, EVt, Array.toList] <;> exact rfl) ?_))
    exact AWp.ret ⟨_, rfl, .inl (.refl _)⟩
theorem sp_Stars (d : Int) (l : List Pr) (hl : l.length ≤ 35184372087808) : ACall Try.prog 58 [lab d l] (f16 (lvs l 0)) := by
  refine acall_of Try.func58 rfl rfl (Nat.le_of_ble_eq_true rfl) T_ok (fun base w0 => ?_)
  refine AWp.seq (AWp.regionW T_ok rfl (WL.all (by simp (decide := true) only [EVs, EVt, Array.toList] <;> exact rfl) ?_))
  refine AWp.seq (AWp.regionW T_ok rfl (WL.all (by simp (decide := true) only [EVs, EVt, Array.toList] <;> exact rfl) ?_))
  refine AWp.seq (AWp.seq (AWp.regionW T_ok rfl (WL.all (by simp (decide := true) only [EVs, EVt, Array.toList] <;> exact rfl) ?_)))
  refine AWp.block (AWp.loop (fun n st => ∃ (j : Nat) (s : Nat → AV) (B : Nat → Nat × List AV) (L : Nat → Nat), st = ⟨23, 0, s, B, L⟩ ∧ n = l.length - j ∧ s 7 = lps l ∧ s 8 = i64 l.length ∧ s 9 = i64 j ∧
    Acc L (s 3) 1 ((lvs (l.take j) 0).map u16)) ?_ (n := l.length) ⟨0, _, _, _, rfl, rfl, rfl, rfl, rfl, ⟨_, _, rfl, .inl ⟨rfl, .inl rfl⟩⟩⟩)
  rintro n st ⟨j, s, B, L, rfl, rfl, s7, s8, s9, hA⟩
  by_cases hlt : j < l.length
  · have e1 : ltI (j : Int) (l.length : Int) = true := ltI_t (by omega)
    have e2 := get_mapi prA l j hlt
    have e7 := wup j (by omega)
    have hs := lvs_snoc (l.take j) l[j] 0
    rw [← take_snoc l j hlt] at hs
    have hle := lvs_len (l.take j) 0
    rw [List.length_take] at hle
    refine AWp.seq (AWp.regionW T_ok rfl (WL.all (by simp (decide := true) only [EVs, EVt, Array.toList, s8, s9, e1] <;> exact rfl) ?_))
    refine AWp.seq (AWp.cond (t := true) rfl (AWp.skip ?_))
    by_cases hz : l[j].l = 0
    · have c1 : eqI l[j].l 0 = true := eqI_t hz
      rw [if_pos hz] at hs
      refine AWp.seq (AWp.block (AWp.seq (AWp.regionW T_ok rfl (WL.all (by simp (decide := true) only [EVs, EVt, Array.toList, s7, s9, e2] <;> exact rfl) ?_))))
      refine AWp.seq (AWp.regionW T_ok rfl (WL.all (by simp (decide := true) only [EVs, EVt, Array.toList, c1] <;> exact rfl) ?_))
      refine AWp.cond (t := true) rfl (AWp.regionW T_ok rfl (WL.next 4 rfl rfl (by simp (decide := true) only [EVs, EVt, Array.toList] <;> exact rfl) ?_))
      refine WL.acc (e := 38) (xs := (lvs (l.take j) 0).map u16) (ys := [u16 l[j].c]) (sy := 1) (oy := .full) rfl rfl rfl rfl rfl rfl rfl T_u16s rfl T_u16 (by simp (decide := true) only [EVs, EVt, Array.toList]; exact hA) (by simp (decide := true) only [EVs, EVt, Array.toList]) (.inl rfl) (by simp; omega) (by decide) (fun v1 L1 hA1 => ?_)
      refine (WL.all (by simp (decide := true) only [EVs, EVt, Array.toList] <;> exact rfl) ?_)
      refine (AWp.regionW T_ok rfl (WL.all (by simp (decide := true) only [EVs, EVt, Array.toList, s9, e7] <;> exact rfl) ?_))
      refine ⟨l.length - (j + 1), by omega, j + 1, _, _, _, rfl, rfl, ?_, ?_, ?_, ?_⟩
      · simp (decide := true) only [EVs, EVt, Array.toList, s7]
      · simp (decide := true) only [EVs, EVt, Array.toList, s8]
      · simp (decide := true) only [EVs, EVt, Array.toList]
      · simp (decide := true) only [EVs, EVt, Array.toList]
        rw [hs, List.map_append]
        exact hA1
    · have c1 : eqI l[j].l 0 = false := eqI_f hz
      rw [if_neg hz, List.append_nil] at hs
      refine AWp.seq (AWp.block (AWp.seq (AWp.regionW T_ok rfl (WL.all (by simp (decide := true) only [EVs, EVt, Array.toList, s7, s9, e2] <;> exact rfl) ?_))))
      refine AWp.seq (AWp.regionW T_ok rfl (WL.all (by simp (decide := true) only [EVs, EVt, Array.toList, c1] <;> exact rfl) ?_))
      refine AWp.cond (t := false) rfl (AWp.skip ?_)
      refine (AWp.regionW T_ok rfl (WL.all (by simp (decide := true) only [EVs, EVt, Array.toList, s9, e7] <;> exact rfl) ?_))
      refine ⟨l.length - (j + 1), by omega, j + 1, _, _, _, rfl, rfl, ?_, ?_, ?_, ?_⟩
      · simp (decide := true) only [EVs, EVt, Array.toList, s7]
      · simp (decide := true) only [EVs, EVt, Array.toList, s8]
      · simp (decide := true) only [EVs, EVt, Array.toList]
      · simp (decide := true) only [EVs, EVt, Array.toList]
        rw [hs]
        exact hA
  · have e1 : ltI (j : Int) (l.length : Int) = false := ltI_f (by omega)
    refine AWp.seq (AWp.regionW T_ok rfl (WL.all (by simp (decide := true) only [EVs, EVt, Array.toList, s8, s9, e1] <;> exact rfl) ?_))
    refine AWp.seq (AWp.cond (t := false) rfl (AWp.exit ?_))
    refine AWp.seq (AWp.regionW T_ok rfl (WL.all (by simp (decide := true) only [EVs, EVt, Array.toList] <;> exact rfl) ?_))
    refine AWp.ret ⟨_, rfl, .inr ⟨1, _, rfl, ?_⟩⟩
    simp (decide := true) only [EVs, EVt, Array.toList]
    rw [List.take_of_length_le (by omega)] at hA
    exact hA

theorem sp_MSees (d : Int) (l : List Pr) (e : Int) (m : List Pr) (hl : l.length ≤ 200000) (hm : m.length ≤ 200000) (hd : 0 ≤ d) (he : 0 ≤ e) (ll : ∀ p ∈ l, 0 ≤ p.l) (lm : ∀ p ∈ m, 0 ≤ p.l) : ACall Try.prog 32 [lab d l, lab e m] (bo (sees d l e m)) := by
  have hq : ∀ p ∈ risL d l, 0 ≤ p.l := fun p hp => by
    obtain ⟨t, ht, hp⟩ := List.mem_filterMap.1 hp
    have := mrgL_lv (q := fun x => 0 ≤ x) hd hd ll ll t ht
    split at hp <;> cases hp
    show 0 ≤ rise t.x
    unfold rise; split <;> omega
  have hlen : (risL d l).length ≤ l.length + l.length := bthL_len
  have h2 := sp_LFlows e m (rise d) (risL d l) (by omega) (by omega) he (by unfold rise; split <;> omega) lm hq
  refine acall_of Try.func32 rfl rfl (Nat.le_of_ble_eq_true rfl) T_ok (fun base w0 => ?_)
  refine AWp.seq (AWp.regionW T_ok rfl (WL.all (by simp (decide := true) only [EVs, EVt, Array.toList] <;> exact rfl) ?_))
  refine AWp.seq (AWp.drawnW T_ok mixed (by kernel_rfl) rfl ?_)
  (repeat (first | refine WL.c rfl rfl rfl (by simp (decide := true) only [EVs, EVt, Array.toList] <;> exact rfl) (by simp (decide := true) only [EVs, EVt, Array.toList, calleeOf] <;> exact rfl) (by simp (decide := true) only [EVs, EVt, Array.toList, argsOf, frz] <;> exact rfl) (by first | exact sp_LRise d l (by omega) | exact h2) rfl ?_ | refine WL.f rfl rfl rfl (by simp (decide := true) only [EVs, EVt, Array.toList] <;> exact rfl) (by simp (decide := true) only [EVs, EVt, Array.toList, calleeOf] <;> exact rfl) (by simp (decide := true) only [EVs, EVt, Array.toList, argsOf, frz] <;> exact rfl) (by first | exact sp_LRise d l (by omega) | exact h2) ?_ | refine WL.one (by simp (decide := true) only [EVs, EVt, Array.toList] <;> exact rfl) ?_)); refine WL.nil ?_
  exact AWp.ret ⟨_, rfl, .inl (.refl _)⟩
theorem sp_MTurns (d : Int) (l : List Pr) (e : Int) (m : List Pr) (hl : l.length ≤ 200000) (hm : m.length ≤ 200000) (hd : 0 ≤ d) (he : 0 ≤ e) (ll : ∀ p ∈ l, 0 ≤ p.l) (lm : ∀ p ∈ m, 0 ≤ p.l) : ACall Try.prog 34 [lab d l, lab e m] (bo (flw d l e m)) := by
  refine acall_of Try.func34 rfl rfl (Nat.le_of_ble_eq_true rfl) T_ok (fun base w0 => ?_)
  refine AWp.seq (AWp.regionW T_ok rfl (WL.all (by simp (decide := true) only [EVs, EVt, Array.toList] <;> exact rfl) ?_))
  refine AWp.seq (AWp.regionW T_ok rfl ?_)
  (repeat (first | refine WL.c rfl rfl rfl (by simp (decide := true) only [EVs, EVt, Array.toList] <;> exact rfl) (by simp (decide := true) only [EVs, EVt, Array.toList, calleeOf] <;> exact rfl) (by simp (decide := true) only [EVs, EVt, Array.toList, argsOf, frz] <;> exact rfl) (by first | exact sp_LFlows d l e m (by omega) (by omega) hd he ll lm) rfl ?_ | refine WL.f rfl rfl rfl (by simp (decide := true) only [EVs, EVt, Array.toList] <;> exact rfl) (by simp (decide := true) only [EVs, EVt, Array.toList, calleeOf] <;> exact rfl) (by simp (decide := true) only [EVs, EVt, Array.toList, argsOf, frz] <;> exact rfl) (by first | exact sp_LFlows d l e m (by omega) (by omega) hd he ll lm) ?_ | refine WL.one (by simp (decide := true) only [EVs, EVt, Array.toList] <;> exact rfl) ?_)); refine WL.nil ?_
  exact AWp.ret ⟨_, rfl, .inl (.refl _)⟩
theorem sp_MRises (d : Int) (l : List Pr) (e : Int) (m : List Pr) (hl : l.length ≤ 200000) (hm : m.length ≤ 200000) (hd : 0 ≤ d) (he : 0 ≤ e) (ll : ∀ p ∈ l, 0 ≤ p.l) (lm : ∀ p ∈ m, 0 ≤ p.l) : ACall Try.prog 28 [lab d l, lab e m] (i64 (risE d l e m)) := by
  have hF := sp_LFlows d l e m (by omega) (by omega) hd he ll lm
  have hlen := lvs_len m 0
  refine acall_of Try.func28 rfl rfl (Nat.le_of_ble_eq_true rfl) T_ok (fun base w0 => ?_)
  refine AWp.seq (AWp.regionW T_ok rfl (WL.all (by simp (decide := true) only [EVs, EVt, Array.toList] <;> exact rfl) ?_))
  cases h1 : nam e m with
  | false =>
    have hr : risE d l e m = 4 := by simp [risE, h1]
    rw [hr]
    refine AWp.seq (AWp.seq (AWp.regionW T_ok rfl ?_))
    (repeat (first | refine WL.c rfl rfl rfl (by simp (decide := true) only [EVs, EVt, Array.toList, h1] <;> exact rfl) (by simp (decide := true) only [EVs, EVt, Array.toList, calleeOf, h1] <;> exact rfl) (by simp (decide := true) only [EVs, EVt, Array.toList, argsOf, frz, h1] <;> exact rfl) (by first | exact sp_Names e m (by omega)) rfl ?_ | refine WL.f rfl rfl rfl (by simp (decide := true) only [EVs, EVt, Array.toList, h1] <;> exact rfl) (by simp (decide := true) only [EVs, EVt, Array.toList, calleeOf, h1] <;> exact rfl) (by simp (decide := true) only [EVs, EVt, Array.toList, argsOf, frz, h1] <;> exact rfl) (by first | exact sp_Names e m (by omega)) ?_ | refine WL.one (by simp (decide := true) only [EVs, EVt, Array.toList, h1] <;> exact rfl) ?_)); refine WL.nil ?_
    refine AWp.cond (t := true) rfl (AWp.seq (AWp.regionW T_ok rfl (WL.all (by simp (decide := true) only [EVs, EVt, Array.toList] <;> exact rfl) ?_)))
    exact AWp.ret ⟨_, rfl, .inl (.refl _)⟩
  | true =>
    refine AWp.seq (AWp.seq (AWp.regionW T_ok rfl ?_))
    (repeat (first | refine WL.c rfl rfl rfl (by simp (decide := true) only [EVs, EVt, Array.toList, h1] <;> exact rfl) (by simp (decide := true) only [EVs, EVt, Array.toList, calleeOf, h1] <;> exact rfl) (by simp (decide := true) only [EVs, EVt, Array.toList, argsOf, frz, h1] <;> exact rfl) (by first | exact sp_Names e m (by omega)) rfl ?_ | refine WL.f rfl rfl rfl (by simp (decide := true) only [EVs, EVt, Array.toList, h1] <;> exact rfl) (by simp (decide := true) only [EVs, EVt, Array.toList, calleeOf, h1] <;> exact rfl) (by simp (decide := true) only [EVs, EVt, Array.toList, argsOf, frz, h1] <;> exact rfl) (by first | exact sp_Names e m (by omega)) ?_ | refine WL.one (by simp (decide := true) only [EVs, EVt, Array.toList, h1] <;> exact rfl) ?_)); refine WL.nil ?_
    refine AWp.cond (t := false) rfl (AWp.skip ?_)
    refine AWp.seq (AWp.seq (AWp.regionW T_ok rfl ?_))
    (repeat (first | refine WL.c rfl rfl rfl (by simp (decide := true) only [EVs, EVt, Array.toList] <;> exact rfl) (by simp (decide := true) only [EVs, EVt, Array.toList, calleeOf] <;> exact rfl) (by simp (decide := true) only [EVs, EVt, Array.toList, argsOf, frz] <;> exact rfl) (by first | exact sp_Stars e m (by omega)) rfl ?_ | refine WL.f rfl rfl rfl (by simp (decide := true) only [EVs, EVt, Array.toList] <;> exact rfl) (by simp (decide := true) only [EVs, EVt, Array.toList, calleeOf] <;> exact rfl) (by simp (decide := true) only [EVs, EVt, Array.toList, argsOf, frz] <;> exact rfl) (by first | exact sp_Stars e m (by omega)) ?_ | refine WL.one (by simp (decide := true) only [EVs, EVt, Array.toList] <;> exact rfl) ?_)); refine WL.nil ?_
    refine AWp.block (AWp.loop (fun n st => ∃ (j : Nat) (s : Nat → AV) (B : Nat → Nat × List AV) (L : Nat → Nat) (o : Own), st = ⟨26, 0, s, B, L⟩ ∧ n = (lvs m 0).length - j ∧ s 2 = .ptr 2 1 0 ∧ B 2 = (1, [u8 d, lps l]) ∧ s 3 = .ptr 3 1 0 ∧ B 3 = (1, [u8 e, lps m]) ∧
      s 11 = .list 1 ((lvs m 0).map u16) o ∧ s 12 = i64 (lvs m 0).length ∧ s 13 = i64 j ∧ ∀ (i : Nat) (hi : i < (lvs m 0).length), i < j → at_ d l (lvs m 0)[i] = 0) ?_ (n := (lvs m 0).length)
      ⟨0, _, _, _, _, rfl, rfl, rfl, rfl, rfl, rfl, rfl, rfl, rfl, fun i hi h => by omega⟩)
    rintro n st ⟨j, s, B, L, o, rfl, rfl, s2, B2, s3, B3, s11, s12, s13, hk⟩
    by_cases hlt : j < (lvs m 0).length
    · have e1 : ltI (j : Int) ((lvs m 0).length : Int) = true := ltI_t (by omega)
      have e2 := get_mapi u16 (lvs m 0) j hlt
      have e7 := wup j (by omega)
      have hA := sp_LAt d l (lvs m 0)[j] (by omega)
      refine AWp.seq (AWp.regionW T_ok rfl (WL.all (by simp (decide := true) only [EVs, EVt, Array.toList, s12, s13, e1] <;> exact rfl) ?_))
      refine AWp.seq (AWp.cond (t := true) rfl (AWp.skip ?_))
      by_cases hz : at_ d l (lvs m 0)[j] = 0
      · have c1 : eqI (at_ d l (lvs m 0)[j]) 0 = true := eqI_t hz
        refine AWp.seq (AWp.block (AWp.seq (AWp.regionW T_ok rfl (WL.all (by simp (decide := true) only [EVs, EVt, Array.toList, s11, s13, e2] <;> exact rfl) ?_))))
        refine AWp.seq (AWp.regionW T_ok rfl ?_)
        (repeat (first | refine WL.c rfl rfl rfl (by simp (decide := true) only [EVs, EVt, Array.toList, s2, B2, c1] <;> exact rfl) (by simp (decide := true) only [EVs, EVt, Array.toList, calleeOf, s2, B2, c1] <;> exact rfl) (by simp (decide := true) only [EVs, EVt, Array.toList, argsOf, frz, s2, B2, c1] <;> exact rfl) (by first | exact hA) rfl ?_ | refine WL.f rfl rfl rfl (by simp (decide := true) only [EVs, EVt, Array.toList, s2, B2, c1] <;> exact rfl) (by simp (decide := true) only [EVs, EVt, Array.toList, calleeOf, s2, B2, c1] <;> exact rfl) (by simp (decide := true) only [EVs, EVt, Array.toList, argsOf, frz, s2, B2, c1] <;> exact rfl) (by first | exact hA) ?_ | refine WL.one (by simp (decide := true) only [EVs, EVt, Array.toList, s2, B2, c1] <;> exact rfl) ?_)); refine WL.nil ?_
        refine AWp.cond (t := false) rfl (AWp.skip ?_)
        refine (AWp.regionW T_ok rfl (WL.all (by simp (decide := true) only [EVs, EVt, Array.toList, s13, e7] <;> exact rfl) ?_))
        refine ⟨(lvs m 0).length - (j + 1), by omega, j + 1, _, _, _, o, rfl, rfl, ?_, ?_, ?_, ?_, ?_, ?_, ?_, fun i hi h => ?_⟩
        · simp (decide := true) only [EVs, EVt, Array.toList, s2]
        · simp (decide := true) only [EVs, EVt, Array.toList, B2]
        · simp (decide := true) only [EVs, EVt, Array.toList, s3]
        · simp (decide := true) only [EVs, EVt, Array.toList, B3]
        · simp (decide := true) only [EVs, EVt, Array.toList, s11]
        · simp (decide := true) only [EVs, EVt, Array.toList, s12]
        · simp (decide := true) only [EVs, EVt, Array.toList]
        · by_cases ei : i = j
          · subst ei; exact hz
          · exact hk i hi (by omega)
      · have c1 : eqI (at_ d l (lvs m 0)[j]) 0 = false := eqI_f hz
        have hr : risE d l e m = 5 := by
          have : (lvs m 0).all (fun c => decide (at_ d l c = 0)) = false := by
            rw [List.all_eq_false]; exact ⟨_, List.getElem_mem hlt, by simpa using hz⟩
          simp [risE, h1, this]
        rw [hr]
        refine AWp.seq (AWp.block (AWp.seq (AWp.regionW T_ok rfl (WL.all (by simp (decide := true) only [EVs, EVt, Array.toList, s11, s13, e2] <;> exact rfl) ?_))))
        refine AWp.seq (AWp.regionW T_ok rfl ?_)
        (repeat (first | refine WL.c rfl rfl rfl (by simp (decide := true) only [EVs, EVt, Array.toList, s2, B2, c1] <;> exact rfl) (by simp (decide := true) only [EVs, EVt, Array.toList, calleeOf, s2, B2, c1] <;> exact rfl) (by simp (decide := true) only [EVs, EVt, Array.toList, argsOf, frz, s2, B2, c1] <;> exact rfl) (by first | exact hA) rfl ?_ | refine WL.f rfl rfl rfl (by simp (decide := true) only [EVs, EVt, Array.toList, s2, B2, c1] <;> exact rfl) (by simp (decide := true) only [EVs, EVt, Array.toList, calleeOf, s2, B2, c1] <;> exact rfl) (by simp (decide := true) only [EVs, EVt, Array.toList, argsOf, frz, s2, B2, c1] <;> exact rfl) (by first | exact hA) ?_ | refine WL.one (by simp (decide := true) only [EVs, EVt, Array.toList, s2, B2, c1] <;> exact rfl) ?_)); refine WL.nil ?_
        refine AWp.cond (t := true) rfl (AWp.seq (AWp.regionW T_ok rfl (WL.all (by simp (decide := true) only [EVs, EVt, Array.toList] <;> exact rfl) ?_)))
        exact AWp.ret ⟨_, rfl, .inl (.refl _)⟩
    · have e1 : ltI (j : Int) ((lvs m 0).length : Int) = false := ltI_f (by omega)
      have hall : (lvs m 0).all (fun c => decide (at_ d l c = 0)) = true := by
        rw [List.all_eq_true]
        intro c hc
        obtain ⟨i, hi, rfl⟩ := List.mem_iff_getElem.1 hc
        exact decide_eq_true (hk i hi (by omega))
      refine AWp.seq (AWp.regionW T_ok rfl (WL.all (by simp (decide := true) only [EVs, EVt, Array.toList, s12, s13, e1] <;> exact rfl) ?_))
      refine AWp.seq (AWp.cond (t := false) rfl (AWp.exit ?_))
      cases hf : flw d l e m with
      | false =>
        have hr : risE d l e m = 6 := by simp [risE, h1, hall, hf]
        rw [hr]
        refine AWp.seq (AWp.seq (AWp.regionW T_ok rfl ?_))
        (repeat (first | refine WL.c rfl rfl rfl (by simp (decide := true) only [EVs, EVt, Array.toList, s2, B2, s3, B3, hf] <;> exact rfl) (by simp (decide := true) only [EVs, EVt, Array.toList, calleeOf, s2, B2, s3, B3, hf] <;> exact rfl) (by simp (decide := true) only [EVs, EVt, Array.toList, argsOf, frz, s2, B2, s3, B3, hf] <;> exact rfl) (by first | exact hF) rfl ?_ | refine WL.f rfl rfl rfl (by simp (decide := true) only [EVs, EVt, Array.toList, s2, B2, s3, B3, hf] <;> exact rfl) (by simp (decide := true) only [EVs, EVt, Array.toList, calleeOf, s2, B2, s3, B3, hf] <;> exact rfl) (by simp (decide := true) only [EVs, EVt, Array.toList, argsOf, frz, s2, B2, s3, B3, hf] <;> exact rfl) (by first | exact hF) ?_ | refine WL.one (by simp (decide := true) only [EVs, EVt, Array.toList, s2, B2, s3, B3, hf] <;> exact rfl) ?_)); refine WL.nil ?_
        refine AWp.cond (t := true) rfl (AWp.seq (AWp.regionW T_ok rfl (WL.all (by simp (decide := true) only [EVs, EVt, Array.toList] <;> exact rfl) ?_)))
        exact AWp.ret ⟨_, rfl, .inl (.refl _)⟩
      | true =>
        have hr : risE d l e m = 0 := by simp [risE, h1, hall, hf]
        rw [hr]
        refine AWp.seq (AWp.seq (AWp.regionW T_ok rfl ?_))
        (repeat (first | refine WL.c rfl rfl rfl (by simp (decide := true) only [EVs, EVt, Array.toList, s2, B2, s3, B3, hf] <;> exact rfl) (by simp (decide := true) only [EVs, EVt, Array.toList, calleeOf, s2, B2, s3, B3, hf] <;> exact rfl) (by simp (decide := true) only [EVs, EVt, Array.toList, argsOf, frz, s2, B2, s3, B3, hf] <;> exact rfl) (by first | exact hF) rfl ?_ | refine WL.f rfl rfl rfl (by simp (decide := true) only [EVs, EVt, Array.toList, s2, B2, s3, B3, hf] <;> exact rfl) (by simp (decide := true) only [EVs, EVt, Array.toList, calleeOf, s2, B2, s3, B3, hf] <;> exact rfl) (by simp (decide := true) only [EVs, EVt, Array.toList, argsOf, frz, s2, B2, s3, B3, hf] <;> exact rfl) (by first | exact hF) ?_ | refine WL.one (by simp (decide := true) only [EVs, EVt, Array.toList, s2, B2, s3, B3, hf] <;> exact rfl) ?_)); refine WL.nil ?_
        refine AWp.cond (t := false) rfl (AWp.skip ?_)
        refine AWp.seq (AWp.regionW T_ok rfl (WL.all (by simp (decide := true) only [EVs, EVt, Array.toList] <;> exact rfl) ?_))
        exact AWp.ret ⟨_, rfl, .inl (.refl _)⟩
theorem sp_MMakes (d : Int) (l : List Pr) (e : Int) (m : List Pr) (hl : l.length ≤ 200000) (hm : m.length ≤ 200000) (hd : 0 ≤ d) (he : 0 ≤ e) (ll : ∀ p ∈ l, 0 ≤ p.l) (lm : ∀ p ∈ m, 0 ≤ p.l) : ACall Try.prog 30 [lab d l, lab e m] (i64 (makE d l e m)) := by
  have hF := sp_LFlows d l e m (by omega) (by omega) hd he ll lm
  have hlen := lvs_len m 0
  refine acall_of Try.func30 rfl rfl (Nat.le_of_ble_eq_true rfl) T_ok (fun base w0 => ?_)
  refine AWp.seq (AWp.regionW T_ok rfl (WL.all (by simp (decide := true) only [EVs, EVt, Array.toList] <;> exact rfl) ?_))
  cases h1 : nam e m with
  | false =>
    have hr : makE d l e m = 4 := by simp [makE, h1]
    rw [hr]
    refine AWp.seq (AWp.block (AWp.seq (AWp.regionW T_ok rfl ?_)))
    (repeat (first | refine WL.c rfl rfl rfl (by simp (decide := true) only [EVs, EVt, Array.toList, h1] <;> exact rfl) (by simp (decide := true) only [EVs, EVt, Array.toList, calleeOf, h1] <;> exact rfl) (by simp (decide := true) only [EVs, EVt, Array.toList, argsOf, frz, h1] <;> exact rfl) (by first | exact sp_Names e m (by omega)) rfl ?_ | refine WL.f rfl rfl rfl (by simp (decide := true) only [EVs, EVt, Array.toList, h1] <;> exact rfl) (by simp (decide := true) only [EVs, EVt, Array.toList, calleeOf, h1] <;> exact rfl) (by simp (decide := true) only [EVs, EVt, Array.toList, argsOf, frz, h1] <;> exact rfl) (by first | exact sp_Names e m (by omega)) ?_ | refine WL.one (by simp (decide := true) only [EVs, EVt, Array.toList, h1] <;> exact rfl) ?_)); refine WL.nil ?_
    refine AWp.cond (t := true) rfl (AWp.seq (AWp.regionW T_ok rfl (WL.all (by simp (decide := true) only [EVs, EVt, Array.toList] <;> exact rfl) ?_)))
    exact AWp.ret ⟨_, rfl, .inl (.refl _)⟩
  | true =>
    refine AWp.seq (AWp.block (AWp.seq (AWp.regionW T_ok rfl ?_)))
    (repeat (first | refine WL.c rfl rfl rfl (by simp (decide := true) only [EVs, EVt, Array.toList, h1] <;> exact rfl) (by simp (decide := true) only [EVs, EVt, Array.toList, calleeOf, h1] <;> exact rfl) (by simp (decide := true) only [EVs, EVt, Array.toList, argsOf, frz, h1] <;> exact rfl) (by first | exact sp_Names e m (by omega)) rfl ?_ | refine WL.f rfl rfl rfl (by simp (decide := true) only [EVs, EVt, Array.toList, h1] <;> exact rfl) (by simp (decide := true) only [EVs, EVt, Array.toList, calleeOf, h1] <;> exact rfl) (by simp (decide := true) only [EVs, EVt, Array.toList, argsOf, frz, h1] <;> exact rfl) (by first | exact sp_Names e m (by omega)) ?_ | refine WL.one (by simp (decide := true) only [EVs, EVt, Array.toList, h1] <;> exact rfl) ?_)); refine WL.nil ?_
    refine AWp.cond (t := false) rfl (AWp.seq (AWp.regionW T_ok rfl ?_))
    by_cases hs : lvs m 0 = []
    · have c1 : ltI 0 ((lvs m 0).length : Int) = false := by rw [hs]; rfl
      (repeat (first | refine WL.c rfl rfl rfl (by simp (decide := true) only [EVs, EVt, Array.toList, c1] <;> exact rfl) (by simp (decide := true) only [EVs, EVt, Array.toList, calleeOf, c1] <;> exact rfl) (by simp (decide := true) only [EVs, EVt, Array.toList, argsOf, frz, c1] <;> exact rfl) (by first | exact sp_Stars e m (by omega)) rfl ?_ | refine WL.f rfl rfl rfl (by simp (decide := true) only [EVs, EVt, Array.toList, c1] <;> exact rfl) (by simp (decide := true) only [EVs, EVt, Array.toList, calleeOf, c1] <;> exact rfl) (by simp (decide := true) only [EVs, EVt, Array.toList, argsOf, frz, c1] <;> exact rfl) (by first | exact sp_Stars e m (by omega)) ?_ | refine WL.one (by simp (decide := true) only [EVs, EVt, Array.toList, c1] <;> exact rfl) ?_)); refine WL.nil ?_
      refine AWp.cond (t := false) rfl (AWp.seq (AWp.regionW T_ok rfl ?_))
      cases hf : flw d l e m with
      | false =>
        have hr : makE d l e m = 6 := by simp [makE, h1, hs, hf]
        rw [hr]
        (repeat (first | refine WL.c rfl rfl rfl (by simp (decide := true) only [EVs, EVt, Array.toList, hf] <;> exact rfl) (by simp (decide := true) only [EVs, EVt, Array.toList, calleeOf, hf] <;> exact rfl) (by simp (decide := true) only [EVs, EVt, Array.toList, argsOf, frz, hf] <;> exact rfl) (by first | exact hF) rfl ?_ | refine WL.f rfl rfl rfl (by simp (decide := true) only [EVs, EVt, Array.toList, hf] <;> exact rfl) (by simp (decide := true) only [EVs, EVt, Array.toList, calleeOf, hf] <;> exact rfl) (by simp (decide := true) only [EVs, EVt, Array.toList, argsOf, frz, hf] <;> exact rfl) (by first | exact hF) ?_ | refine WL.one (by simp (decide := true) only [EVs, EVt, Array.toList, hf] <;> exact rfl) ?_)); refine WL.nil ?_
        refine AWp.cond (t := true) rfl (AWp.seq (AWp.regionW T_ok rfl (WL.all (by simp (decide := true) only [EVs, EVt, Array.toList] <;> exact rfl) ?_)))
        exact AWp.ret ⟨_, rfl, .inl (.refl _)⟩
      | true =>
        have hr : makE d l e m = 0 := by simp [makE, h1, hs, hf]
        rw [hr]
        (repeat (first | refine WL.c rfl rfl rfl (by simp (decide := true) only [EVs, EVt, Array.toList, hf] <;> exact rfl) (by simp (decide := true) only [EVs, EVt, Array.toList, calleeOf, hf] <;> exact rfl) (by simp (decide := true) only [EVs, EVt, Array.toList, argsOf, frz, hf] <;> exact rfl) (by first | exact hF) rfl ?_ | refine WL.f rfl rfl rfl (by simp (decide := true) only [EVs, EVt, Array.toList, hf] <;> exact rfl) (by simp (decide := true) only [EVs, EVt, Array.toList, calleeOf, hf] <;> exact rfl) (by simp (decide := true) only [EVs, EVt, Array.toList, argsOf, frz, hf] <;> exact rfl) (by first | exact hF) ?_ | refine WL.one (by simp (decide := true) only [EVs, EVt, Array.toList, hf] <;> exact rfl) ?_)); refine WL.nil ?_
        refine AWp.cond (t := false) rfl (AWp.skip ?_)
        refine AWp.seq (AWp.regionW T_ok rfl (WL.all (by simp (decide := true) only [EVs, EVt, Array.toList] <;> exact rfl) ?_))
        exact AWp.ret ⟨_, rfl, .inl (.refl _)⟩
    · have c1 : ltI 0 ((lvs m 0).length : Int) = true := ltI_t (by have := List.length_pos_iff.2 hs; omega)
      have hr : makE d l e m = 5 := by simp [makE, h1, hs]
      rw [hr]
      (repeat (first | refine WL.c rfl rfl rfl (by simp (decide := true) only [EVs, EVt, Array.toList, c1] <;> exact rfl) (by simp (decide := true) only [EVs, EVt, Array.toList, calleeOf, c1] <;> exact rfl) (by simp (decide := true) only [EVs, EVt, Array.toList, argsOf, frz, c1] <;> exact rfl) (by first | exact sp_Stars e m (by omega)) rfl ?_ | refine WL.f rfl rfl rfl (by simp (decide := true) only [EVs, EVt, Array.toList, c1] <;> exact rfl) (by simp (decide := true) only [EVs, EVt, Array.toList, calleeOf, c1] <;> exact rfl) (by simp (decide := true) only [EVs, EVt, Array.toList, argsOf, frz, c1] <;> exact rfl) (by first | exact sp_Stars e m (by omega)) ?_ | refine WL.one (by simp (decide := true) only [EVs, EVt, Array.toList, c1] <;> exact rfl) ?_)); refine WL.nil ?_
      refine AWp.cond (t := true) rfl (AWp.seq (AWp.regionW T_ok rfl (WL.all (by simp (decide := true) only [EVs, EVt, Array.toList] <;> exact rfl) ?_)))
      exact AWp.ret ⟨_, rfl, .inl (.refl _)⟩
end Go.Proofs.Ytopdgmjmpmkamaa.E
