/-
  The pairs of a label under way: sought, struck out, put in (slices.IndexFunc, Delete, BinarySearchFunc, Insert over a slice written to in place), walked in abstract values. Conditions: lengths, categories are 16 bits.
-/
import Derived.Test.YtopdgmjmpmkamaaE24
import Derived.Test.YtopdgmjmpmkamaaEM14
import Derived.Test.YtopdgmjmpmkamaaEWMay1
namespace Go.Proofs.Ytopdgmjmpmkamaa.E
open Go Go.RowKit Go.Proofs.YtopdgmjmpmkamaaW.E
set_option linter.unusedVariables false
set_option linter.unusedSimpArgs false
set_option maxRecDepth 100000
set_option maxHeartbeats 4000000

/-- These pairs, in a slice: none yet, or in the box k. -/
def Hold (B : Nat → Nat × List AV) (k : Nat) (x : AV) (l : List Pr) : Prop :=
  (x = .list 2 [] .full ∧ l = []) ∨ ∃ g c r, x = .bsl k g 0 l.length c ∧ B k = (g, fl l ++ r) ∧ (fl l ++ r).length = c * 2 ∧ 0 < c
theorem Hold.upd {B : Nat → Nat × List AV} {k : Nat} {x : AV} {l : List Pr} (h : Hold B k x l) {j : Nat} (hj : k ≠ j) (v : Nat × List AV) : Hold (upd B j v) k x l := by
  rcases h with h | ⟨g, c, r, h1, h2, h3⟩
  · exact .inl h
  · exact .inr ⟨g, c, r, h1, by rw [upd_ne _ _ hj]; exact h2, h3⟩
theorem Hold.same {B B' : Nat → Nat × List AV} {k : Nat} {x : AV} {l : List Pr} (h : Hold B k x l) (hk : B' k = B k) : Hold B' k x l := by
  rcases h with h | ⟨g, c, r, h1, h2, h3⟩
  · exact .inl h
  · exact .inr ⟨g, c, r, h1, by rw [hk]; exact h2, h3⟩
theorem some_bs {cs : List AV} {c : Nat} (h : cs.length = c * 2) (h0 : 0 < c) : cs.isEmpty = false := by
  cases cs with
  | nil => simp at h; omega
  | cons _ _ => rfl

theorem h_IndexF (g : FuncId) (caps capsF : List AV) (q : Pr → Bool) (l : List Pr) (hl : l.length ≤ 35184372087808) (B : Nat → Nat × List AV) (L : Nat → Nat) (k : Nat) (x : AV) (hx : Hold B k x l) (hc : caps.map (frz B 3) = capsF) (hq : ∀ p ∈ l, ACall Try.prog g (prA p :: capsF) (bo (q p))) :
    HCall Try.prog T 78 [x, .fn g caps] B L (fun r B' L' => r = i64 (fix q l) ∧ B' = B) := by
  refine hcall_of Try.func78 rfl rfl (Nat.le_of_ble_eq_true rfl) 0 (fun base w0 => ?_)
  rcases hx with ⟨rfl, rfl⟩ | ⟨gk, c, r, rfl, hB, hlen, h0⟩
  · have e1 : ltI 0 ((0 : Nat) : Int) = false := rfl
    refine AWp.seq (AWp.regionW T_ok rfl (WL.all (by simp (decide := true) only [EVs, EVt, Array.toList] <;> exact rfl) ?_))
    refine AWp.seq (AWp.seq (AWp.regionW T_ok rfl (WL.all (by simp (decide := true) only [EVs, EVt, Array.toList] <;> exact rfl) ?_)))
    refine AWp.block (AWp.loop (fun n st => ∃ s, st = ⟨19, 0, s, B, L⟩ ∧ s 7 = i64 ((0 : Nat) : Int) ∧ s 8 = i64 0) ?_ (n := 0) ⟨_, rfl, rfl, rfl⟩)
    rintro n st ⟨s, rfl, s7, s8⟩
    refine AWp.seq (AWp.regionW T_ok rfl (WL.all (by simp (decide := true) only [EVs, EVt, Array.toList, s7, s8, e1] <;> exact rfl) ?_))
    refine AWp.seq (AWp.cond (t := false) rfl (AWp.exit ?_))
    refine AWp.seq (AWp.regionW T_ok rfl (WL.all (by simp (decide := true) only [EVs, EVt, Array.toList] <;> exact rfl) ?_))
    exact AWp.ret ⟨_, rfl, rfl, rfl⟩
  · have hne := some_bs hlen h0
    refine AWp.seq (AWp.regionW T_ok rfl (WL.all (by simp (decide := true) only [EVs, EVt, Array.toList] <;> exact rfl) ?_))
    refine AWp.seq (AWp.seq (AWp.regionW T_ok rfl (WL.all (by simp (decide := true) only [EVs, EVt, Array.toList] <;> exact rfl) ?_)))
    refine AWp.block (AWp.loop (fun n st => ∃ (j : Nat) (s : Nat → AV), st = ⟨19, 0, s, B, L⟩ ∧ n = l.length - j ∧ s 0 = .bsl k gk 0 l.length c ∧ s 1 = .fn g caps ∧ s 7 = i64 l.length ∧ s 8 = i64 j ∧ ∀ (i : Nat) (hi : i < l.length), i < j → q l[i] = false) ?_ (n := l.length)
      ⟨0, _, rfl, rfl, rfl, rfl, rfl, rfl, fun i hi h => by omega⟩)
    rintro n st ⟨j, s, rfl, rfl, s0, s1, s7, s8, hk⟩
    by_cases hlt : j < l.length
    · have e1 : ltI (j : Int) (l.length : Int) = true := ltI_t (by omega)
      have e2 := fl_at l r j hlt
      have e7 := wup j (by omega)
      refine AWp.seq (AWp.regionW T_ok rfl (WL.all (by simp (decide := true) only [EVs, EVt, Array.toList, s7, s8, e1] <;> exact rfl) ?_))
      refine AWp.seq (AWp.cond (t := true) rfl (AWp.skip ?_))
      have hqj := hq _ (List.getElem_mem hlt)
      cases hb : q l[j] with
      | true =>
        rw [hb] at hqj
        refine AWp.seq (AWp.block (AWp.seq (AWp.regionW T_ok rfl (WL.all (by simp (decide := true) only [EVs, EVt, Array.toList, s8] <;> exact rfl) ?_))))
        refine AWp.seq (AWp.regionW T_ok rfl ?_)
        (repeat (first | refine WL.c rfl rfl rfl (by simp (decide := true) only [EVs, EVt, Array.toList, s0, s1, e2, hc, hB, hne, hlt] <;> exact rfl) (by simp (decide := true) only [EVs, EVt, Array.toList, calleeOf, s0, s1, e2, hc, hB, hne, hlt] <;> exact rfl) (by simp (decide := true) only [EVs, EVt, Array.toList, argsOf, frz, s0, s1, e2, hc, hB, hne, hlt] <;> exact rfl) (by first | exact hqj) rfl ?_ | refine WL.f rfl rfl rfl (by simp (decide := true) only [EVs, EVt, Array.toList, s0, s1, e2, hc, hB, hne, hlt] <;> exact rfl) (by simp (decide := true) only [EVs, EVt, Array.toList, calleeOf, s0, s1, e2, hc, hB, hne, hlt] <;> exact rfl) (by simp (decide := true) only [EVs, EVt, Array.toList, argsOf, frz, s0, s1, e2, hc, hB, hne, hlt] <;> exact rfl) (by first | exact hqj) ?_ | refine WL.one (by simp (decide := true) only [EVs, EVt, Array.toList, s0, s1, e2, hc, hB, hne, hlt] <;> exact rfl) ?_)); refine WL.nil ?_
        refine AWp.cond (t := true) rfl (AWp.seq (AWp.regionW T_ok rfl (WL.all (by simp (decide := true) only [EVs, EVt, Array.toList] <;> exact rfl) ?_)))
        refine AWp.ret ⟨_, rfl, ?_, rfl⟩
        rw [fix_some hlt hb (fun i hi => hk i (by omega) hi)]
        rfl
      | false =>
        rw [hb] at hqj
        refine AWp.seq (AWp.block (AWp.seq (AWp.regionW T_ok rfl (WL.all (by simp (decide := true) only [EVs, EVt, Array.toList, s8] <;> exact rfl) ?_))))
        refine AWp.seq (AWp.regionW T_ok rfl ?_)
        (repeat (first | refine WL.c rfl rfl rfl (by simp (decide := true) only [EVs, EVt, Array.toList, s0, s1, e2, hc, hB, hne, hlt] <;> exact rfl) (by simp (decide := true) only [EVs, EVt, Array.toList, calleeOf, s0, s1, e2, hc, hB, hne, hlt] <;> exact rfl) (by simp (decide := true) only [EVs, EVt, Array.toList, argsOf, frz, s0, s1, e2, hc, hB, hne, hlt] <;> exact rfl) (by first | exact hqj) rfl ?_ | refine WL.f rfl rfl rfl (by simp (decide := true) only [EVs, EVt, Array.toList, s0, s1, e2, hc, hB, hne, hlt] <;> exact rfl) (by simp (decide := true) only [EVs, EVt, Array.toList, calleeOf, s0, s1, e2, hc, hB, hne, hlt] <;> exact rfl) (by simp (decide := true) only [EVs, EVt, Array.toList, argsOf, frz, s0, s1, e2, hc, hB, hne, hlt] <;> exact rfl) (by first | exact hqj) ?_ | refine WL.one (by simp (decide := true) only [EVs, EVt, Array.toList, s0, s1, e2, hc, hB, hne, hlt] <;> exact rfl) ?_)); refine WL.nil ?_
        refine AWp.cond (t := false) rfl (AWp.skip ?_)
        refine (AWp.regionW T_ok rfl (WL.all (by simp (decide := true) only [EVs, EVt, Array.toList, s8, e7] <;> exact rfl) ?_))
        refine ⟨l.length - (j + 1), by omega, j + 1, _, rfl, rfl, ?_, ?_, ?_, ?_, fun i hi h => ?_⟩
        · simp (decide := true) only [EVs, EVt, Array.toList, s0]
        · simp (decide := true) only [EVs, EVt, Array.toList, s1]
        · simp (decide := true) only [EVs, EVt, Array.toList, s7]
        · simp (decide := true) only [EVs, EVt, Array.toList]
        · by_cases e : i = j
          · subst e; exact hb
          · exact hk i hi (by omega)
    · have e1 : ltI (j : Int) (l.length : Int) = false := ltI_f (by omega)
      refine AWp.seq (AWp.regionW T_ok rfl (WL.all (by simp (decide := true) only [EVs, EVt, Array.toList, s7, s8, e1] <;> exact rfl) ?_))
      refine AWp.seq (AWp.cond (t := false) rfl (AWp.exit ?_))
      refine AWp.seq (AWp.regionW T_ok rfl (WL.all (by simp (decide := true) only [EVs, EVt, Array.toList] <;> exact rfl) ?_))
      refine AWp.ret ⟨_, rfl, ?_, rfl⟩
      rw [fix_none (fun p hp => by obtain ⟨i, hi, rfl⟩ := List.mem_iff_getElem.1 hp; exact hk i hi (by omega))]
      rfl

theorem h_at (l : List Pr) (c : Int) (hl : l.length ≤ 35184372087808) (D : Nat) (B : Nat → Nat × List AV) (L : Nat → Nat) (k : Nat) (x : AV) (hx : Hold B k x l) (hk : k < D) :
    HCall Try.prog T 63 [x, u16 c] B L (fun r B' L' => r = i64 (fix (fun p => eqI p.c c) l) ∧ ∀ j < D, B' j = B j) := by
  refine hcall_of Try.func63 rfl rfl (Nat.le_of_ble_eq_true rfl) D (fun base w0 => ?_)
  have hx0 := hx
  refine AWp.seq (AWp.regionW T_ok rfl (WL.all (by simp (decide := true) only [EVs, EVt, Array.toList] <;> exact rfl) ?_))
  refine AWp.seq (AWp.regionH rfl (HL.next T_ok 2 rfl rfl (by simp (decide := true) only [EVs, EVt, Array.toList] <;> exact rfl) ?_))
  refine HL.h T_ok rfl rfl rfl (by simp (decide := true) only [EVs, EVt, Array.toList] <;> exact rfl) (by simp (decide := true) only [EVs, EVt, Array.toList, calleeOf] <;> exact rfl) (by simp (decide := true) only [EVs, EVt, Array.toList] <;> exact rfl) (h_IndexF 81 _ [.pelt [u16 c]] (fun p => eqI p.c c) l hl _ _ k x (hx.upd (by omega) _) (by simp (decide := true) only [EVs, EVt, Array.toList, frz] <;> rfl) (fun p _ => sp_at1 p c)) (fun r B' L' hR => ?_)
  obtain ⟨rfl, rfl⟩ := hR
  refine (HL.all T_ok (by simp (decide := true) only [EVs, EVt, Array.toList] <;> exact rfl) ?_)
  refine AWp.ret ⟨_, rfl, rfl, fun j hj => ?_⟩
  exact upd_ne _ _ (by omega)

theorem sp_cmp (p : Pr) (c : Int) (h1 : 0 ≤ p.c) (h2 : p.c < 65536) (h3 : 0 ≤ c) (h4 : c < 65536) : ACall Try.prog 66 [prA p, u16 c] (i64 (p.c - c)) := by
  have e1 : IntKind.i64.wrap p.c = p.c := IntWalk.i64_in _ (by omega)
  have e2 : IntKind.i64.wrap c = c := IntWalk.i64_in _ (by omega)
  have e3 : IntKind.i64.wrap (p.c - c) = p.c - c := IntWalk.i64_in _ (by omega)
  refine acall_of Try.func66 rfl rfl (Nat.le_of_ble_eq_true rfl) T_ok (fun base w0 => ?_)
  refine AWp.seq (AWp.regionW T_ok rfl (WL.all (by simp (decide := true) only [EVs, EVt, Array.toList] <;> exact rfl) ?_))
  refine AWp.seq (AWp.regionW T_ok rfl (WL.all (by simp (decide := true) only [EVs, EVt, Array.toList, e1, e2, e3] <;> exact rfl) ?_))
  exact AWp.ret ⟨_, rfl, .inl (.refl _)⟩

theorem ascP_lt {l : List Pr} (h : ascP l) {i j : Nat} (hi : i < l.length) (hj : j < l.length) (hij : i ≤ j) : l[i].c ≤ l[j].c := by
  induction l generalizing i j with
  | nil => simp at hi
  | cons p l ih =>
    cases i with
    | zero =>
      cases j with
      | zero => exact Int.le_refl _
      | succ j =>
        have hj' : j < l.length := by simpa using hj
        have := h.1 l[j] (List.getElem_mem hj')
        show p.c ≤ l[j].c
        omega
    | succ i =>
      cases j with
      | zero => omega
      | succ j => exact ih h.2 (by simpa using hi) (by simpa using hj) (by omega)
theorem half (a : Nat) : (a : Int).fdiv (2 ^ (min (1 : Int).toNat IntKind.u64.bits)) = ((a / 2 : Nat) : Int) := by
  have e : (2 : Int) ^ (min (1 : Int).toNat IntKind.u64.bits) = 2 := rfl
  rw [e, Int.fdiv_eq_ediv_of_nonneg _ (by omega)]
  omega
theorem h_bs (l : List Pr) (t : Int) (hl : l.length ≤ 35184372087808) (h0 : 0 ≤ t) (h1 : t < 65536) (hp : ∀ p ∈ l, 0 ≤ p.c ∧ p.c < 65536) (ha : ascP l) (B : Nat → Nat × List AV) (L : Nat → Nat) (k : Nat) (x : AV) (hx : Hold B k x l) :
    HCall Try.prog T 65 [x, u16 t, .fn 66 []] B L (fun r B' L' => B' = B ∧ ∃ (i : Nat) (b : Bool), r = .tup [i64 i, bo b] ∧ i ≤ l.length ∧ (∀ p ∈ l.take i, p.c < t) ∧ ∀ p ∈ l.drop i, t ≤ p.c) := by
  refine hcall_of Try.func65 rfl rfl (Nat.le_of_ble_eq_true rfl) 0 (fun base w0 => ?_)
  rcases hx with ⟨rfl, rfl⟩ | ⟨gk, c, r, rfl, hB, hlen, hc0⟩
  · have e1 : ltI 0 ((0 : Nat) : Int) = false := rfl
    refine AWp.seq (AWp.regionW T_ok rfl (WL.all (by simp (decide := true) only [EVs, EVt, Array.toList] <;> exact rfl) ?_))
    refine AWp.seq (AWp.regionW T_ok rfl (WL.all (by simp (decide := true) only [EVs, EVt, Array.toList] <;> exact rfl) ?_))
    refine AWp.seq (AWp.regionW T_ok rfl (WL.all (by simp (decide := true) only [EVs, EVt, Array.toList] <;> exact rfl) ?_))
    refine AWp.seq (AWp.block (AWp.loop (fun n st => ∃ s, st = ⟨49, 0, s, B, L⟩ ∧ s 2 = .fn 66 [] ∧ s 8 = i64 ((0 : Nat) : Int) ∧ s 9 = i64 0 ∧ s 10 = i64 ((0 : Nat) : Int)) ?_ (n := 0) ⟨_, rfl, rfl, rfl, rfl, rfl⟩))
    · rintro n st ⟨s, rfl, s2, s8, s9, s10⟩
      refine AWp.seq (AWp.seq (AWp.regionW T_ok rfl (WL.all (by simp (decide := true) only [EVs, EVt, Array.toList, s9, s10, e1] <;> exact rfl) ?_)))
      refine AWp.cond (t := false) rfl (AWp.exit ?_)
      refine AWp.seq (AWp.regionW T_ok rfl (WL.all (by simp (decide := true) only [EVs, EVt, Array.toList, s2, s8, s9, s10, e1] <;> exact rfl) ?_))
      exact AWp.ret ⟨_, rfl, rfl, 0, false, rfl, by simp, by simp, by simp⟩
  · have hne := some_bs hlen hc0
    refine AWp.seq (AWp.regionW T_ok rfl (WL.all (by simp (decide := true) only [EVs, EVt, Array.toList] <;> exact rfl) ?_))
    refine AWp.seq (AWp.regionW T_ok rfl (WL.all (by simp (decide := true) only [EVs, EVt, Array.toList] <;> exact rfl) ?_))
    refine AWp.seq (AWp.regionW T_ok rfl (WL.all (by simp (decide := true) only [EVs, EVt, Array.toList] <;> exact rfl) ?_))
    refine AWp.seq (AWp.block (AWp.loop (fun n st => ∃ (i j : Nat) (s : Nat → AV), st = ⟨49, 0, s, B, L⟩ ∧ n = j - i ∧ i ≤ j ∧ j ≤ l.length ∧ s 0 = .bsl k gk 0 l.length c ∧ s 1 = u16 t ∧ s 2 = .fn 66 [] ∧ s 8 = i64 l.length ∧ s 9 = i64 i ∧ s 10 = i64 j ∧
      (∀ (m : Nat) (hm : m < l.length), m < i → l[m].c < t) ∧ ∀ (m : Nat) (hm : m < l.length), j ≤ m → t ≤ l[m].c) ?_ (n := l.length)
      ⟨0, l.length, _, rfl, rfl, by omega, by omega, rfl, rfl, rfl, rfl, rfl, rfl, fun m hm h => by omega, fun m hm h => by omega⟩))
    rintro n st ⟨i, j, s, rfl, rfl, hij, hjl, s0, s1, s2, s8, s9, s10, lo, hi⟩
    by_cases hlt : i < j
    · have e1 : ltI (i : Int) (j : Int) = true := ltI_t (by omega)
      have f1 : IntKind.i64.wrap ((i : Int) + (j : Int)) = ((i + j : Nat) : Int) := by rw [IntWalk.i64_in _ (by omega)]; omega
      have f2 : IntKind.u64.wrap ((i + j : Nat) : Int) = ((i + j : Nat) : Int) := IntWalk.u64_in _ (by omega)
      have f3 : ∀ x y : Operand, abin Try.prog .shr 86 x y (.int .u64 ((i + j : Nat) : Int)) (.int .u64 1) = some (.int .u64 (((i + j) / 2 : Nat) : Int)) := fun x y => by rw [abin_shr _ _ _ _ _ _ _ (by omega), half]
      have hh : (i + j) / 2 < j := by omega
      have hhl : (i + j) / 2 < l.length := by omega
      generalize hm : (i + j) / 2 = m at f3 hh hhl
      have f4 : IntKind.i64.wrap ((m : Nat) : Int) = (m : Int) := IntWalk.i64_in _ (by omega)
      have e2 := fl_at l r m hhl
      obtain ⟨q1, q2⟩ := hp _ (List.getElem_mem hhl)
      have hcmp := sp_cmp l[m] t q1 q2 h0 h1
      have e7 := wup m (by omega)
      refine AWp.seq (AWp.seq (AWp.regionW T_ok rfl (WL.all (by simp (decide := true) only [EVs, EVt, Array.toList, s9, s10, e1] <;> exact rfl) ?_)))
      refine AWp.cond (t := true) rfl (AWp.skip ?_)
      refine AWp.block ?_
      refine AWp.seq (AWp.regionW T_ok rfl (WL.all (by simp (decide := true) only [EVs, EVt, Array.toList, s9, s10, f1, f2, f3, f4] <;> exact rfl) ?_))
      by_cases hcp : l[m].c < t
      · have c1 : ltI (l[m].c - t) 0 = true := ltI_t (by omega)
        refine AWp.seq (AWp.regionW T_ok rfl ?_)
        (repeat (first | refine WL.c rfl rfl rfl (by simp (decide := true) only [EVs, EVt, Array.toList, s0, s1, s2, e2, hB, hne, hhl, c1] <;> exact rfl) (by simp (decide := true) only [EVs, EVt, Array.toList, calleeOf, s0, s1, s2, e2, hB, hne, hhl, c1] <;> exact rfl) (by simp (decide := true) only [EVs, EVt, Array.toList, argsOf, frz, s0, s1, s2, e2, hB, hne, hhl, c1] <;> exact rfl) (by first | exact hcmp) rfl ?_ | refine WL.f rfl rfl rfl (by simp (decide := true) only [EVs, EVt, Array.toList, s0, s1, s2, e2, hB, hne, hhl, c1] <;> exact rfl) (by simp (decide := true) only [EVs, EVt, Array.toList, calleeOf, s0, s1, s2, e2, hB, hne, hhl, c1] <;> exact rfl) (by simp (decide := true) only [EVs, EVt, Array.toList, argsOf, frz, s0, s1, s2, e2, hB, hne, hhl, c1] <;> exact rfl) (by first | exact hcmp) ?_ | refine WL.one (by simp (decide := true) only [EVs, EVt, Array.toList, s0, s1, s2, e2, hB, hne, hhl, c1] <;> exact rfl) ?_)); refine WL.nil ?_
        refine AWp.cond (t := true) rfl (AWp.regionW T_ok rfl (WL.all (by simp (decide := true) only [EVs, EVt, Array.toList, e7] <;> exact rfl) ?_))
        refine ⟨j - (m + 1), by omega, m + 1, j, _, rfl, rfl, by omega, hjl, ?_, ?_, ?_, ?_, ?_, ?_, fun u hu hum => ?_, hi⟩
        · simp (decide := true) only [EVs, EVt, Array.toList, s0]
        · simp (decide := true) only [EVs, EVt, Array.toList, s1]
        · simp (decide := true) only [EVs, EVt, Array.toList, s2]
        · simp (decide := true) only [EVs, EVt, Array.toList, s8]
        · simp (decide := true) only [EVs, EVt, Array.toList]
        · simp (decide := true) only [EVs, EVt, Array.toList, s10]
        · have := ascP_lt ha hu hhl (by omega)
          omega
      · have c1 : ltI (l[m].c - t) 0 = false := ltI_f (by omega)
        refine AWp.seq (AWp.regionW T_ok rfl ?_)
        (repeat (first | refine WL.c rfl rfl rfl (by simp (decide := true) only [EVs, EVt, Array.toList, s0, s1, s2, e2, hB, hne, hhl, c1] <;> exact rfl) (by simp (decide := true) only [EVs, EVt, Array.toList, calleeOf, s0, s1, s2, e2, hB, hne, hhl, c1] <;> exact rfl) (by simp (decide := true) only [EVs, EVt, Array.toList, argsOf, frz, s0, s1, s2, e2, hB, hne, hhl, c1] <;> exact rfl) (by first | exact hcmp) rfl ?_ | refine WL.f rfl rfl rfl (by simp (decide := true) only [EVs, EVt, Array.toList, s0, s1, s2, e2, hB, hne, hhl, c1] <;> exact rfl) (by simp (decide := true) only [EVs, EVt, Array.toList, calleeOf, s0, s1, s2, e2, hB, hne, hhl, c1] <;> exact rfl) (by simp (decide := true) only [EVs, EVt, Array.toList, argsOf, frz, s0, s1, s2, e2, hB, hne, hhl, c1] <;> exact rfl) (by first | exact hcmp) ?_ | refine WL.one (by simp (decide := true) only [EVs, EVt, Array.toList, s0, s1, s2, e2, hB, hne, hhl, c1] <;> exact rfl) ?_)); refine WL.nil ?_
        refine AWp.cond (t := false) rfl (AWp.regionW T_ok rfl (WL.all (by simp (decide := true) only [EVs, EVt, Array.toList] <;> exact rfl) ?_))
        refine ⟨m - i, by omega, i, m, _, rfl, rfl, by omega, by omega, ?_, ?_, ?_, ?_, ?_, ?_, lo, fun u hu hum => ?_⟩
        · simp (decide := true) only [EVs, EVt, Array.toList, s0]
        · simp (decide := true) only [EVs, EVt, Array.toList, s1]
        · simp (decide := true) only [EVs, EVt, Array.toList, s2]
        · simp (decide := true) only [EVs, EVt, Array.toList, s8]
        · simp (decide := true) only [EVs, EVt, Array.toList, s9]
        · simp (decide := true) only [EVs, EVt, Array.toList]
        · have := ascP_lt ha hhl hu (by omega)
          omega
    · have e1 : ltI (i : Int) (j : Int) = false := ltI_f (by omega)
      have hij' : i = j := by omega
      subst hij'
      have k1 : ∀ p ∈ l.take i, p.c < t := fun p hp => by
        obtain ⟨m, hm, rfl⟩ := List.mem_iff_getElem.1 hp
        rw [List.length_take] at hm
        rw [List.getElem_take]
        exact lo m (by omega) (by omega)
      have k2 : ∀ p ∈ l.drop i, t ≤ p.c := fun p hp => by
        obtain ⟨m, hm, rfl⟩ := List.mem_iff_getElem.1 hp
        rw [List.length_drop] at hm
        rw [List.getElem_drop]
        exact hi (i + m) (by omega) (by omega)
      refine AWp.seq (AWp.seq (AWp.regionW T_ok rfl (WL.all (by simp (decide := true) only [EVs, EVt, Array.toList, s9, s10, e1] <;> exact rfl) ?_)))
      refine AWp.cond (t := false) rfl (AWp.exit ?_)
      by_cases hil : i < l.length
      · have e3 : ltI (i : Int) (l.length : Int) = true := ltI_t (by omega)
        have e2 := fl_at l r i hil
        obtain ⟨q1, q2⟩ := hp _ (List.getElem_mem hil)
        have hcmp := sp_cmp l[i] t q1 q2 h0 h1
        refine AWp.seq (AWp.regionW T_ok rfl ?_)
        (repeat (first | refine WL.c rfl rfl rfl (by simp (decide := true) only [EVs, EVt, Array.toList, s0, s1, s2, s8, s9, e2, e3, hB, hne, hil] <;> exact rfl) (by simp (decide := true) only [EVs, EVt, Array.toList, calleeOf, s0, s1, s2, s8, s9, e2, e3, hB, hne, hil] <;> exact rfl) (by simp (decide := true) only [EVs, EVt, Array.toList, argsOf, frz, s0, s1, s2, s8, s9, e2, e3, hB, hne, hil] <;> exact rfl) (by first | exact hcmp) rfl ?_ | refine WL.f rfl rfl rfl (by simp (decide := true) only [EVs, EVt, Array.toList, s0, s1, s2, s8, s9, e2, e3, hB, hne, hil] <;> exact rfl) (by simp (decide := true) only [EVs, EVt, Array.toList, calleeOf, s0, s1, s2, s8, s9, e2, e3, hB, hne, hil] <;> exact rfl) (by simp (decide := true) only [EVs, EVt, Array.toList, argsOf, frz, s0, s1, s2, s8, s9, e2, e3, hB, hne, hil] <;> exact rfl) (by first | exact hcmp) ?_ | refine WL.one (by simp (decide := true) only [EVs, EVt, Array.toList, s0, s1, s2, s8, s9, e2, e3, hB, hne, hil] <;> exact rfl) ?_)); refine WL.nil ?_
        exact AWp.ret ⟨_, rfl, rfl, i, _, rfl, hjl, k1, k2⟩
      · have e3 : ltI (i : Int) (l.length : Int) = false := ltI_f (by omega)
        refine AWp.seq (AWp.regionW T_ok rfl (WL.all (by simp (decide := true) only [EVs, EVt, Array.toList, s0, s1, s2, s8, s9, e3] <;> exact rfl) ?_))
        exact AWp.ret ⟨_, rfl, rfl, i, false, rfl, hjl, k1, k2⟩
end Go.Proofs.Ytopdgmjmpmkamaa.E
