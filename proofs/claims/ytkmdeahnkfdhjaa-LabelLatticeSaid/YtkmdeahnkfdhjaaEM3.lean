/-
  Rising lists as sets, in plain Lean. No condition.
-/
import Derived.Test.YtkmdeahnkfdhjaaEM2
namespace Go.Proofs.YtkmdeahnkfdhjaaW.E.PM
open Go Go.RowKit Go.Proofs.YtkmdeahnkfdhjaaW.E
set_option linter.unusedVariables false
set_option linter.unusedSimpArgs false

/-- Rising, as a relation of all. -/
theorem asc_iff : ∀ (l : List Int), asc l = true ↔ l.Pairwise (· < ·)
  | [] => by simp [asc]
  | [a] => by simp [asc]
  | a :: b :: t => by
    have ih := asc_iff (b :: t)
    rw [asc, Bool.and_eq_true, ih, List.pairwise_cons (a := a)]
    constructor
    · rintro ⟨h, hp⟩
      refine ⟨?_, hp⟩
      intro x hx
      rcases List.mem_cons.1 hx with rfl | hx
      · simpa using h
      · have h1 := (List.pairwise_cons.1 hp).1 x hx
        have h2 : a < b := by simpa using h
        show a < x
        omega
    · rintro ⟨h, hp⟩
      exact ⟨by simpa using h b (List.mem_cons_self ..), hp⟩
/-- Two rising lists of the same members are one. -/
theorem asc_ext : ∀ {l m : List Int}, l.Pairwise (· < ·) → m.Pairwise (· < ·) → (∀ x, x ∈ l ↔ x ∈ m) → l = m
  | [], [], _, _, _ => rfl
  | [], b :: m, _, _, h => by have := (h b).2 (List.mem_cons_self ..); cases this
  | a :: l, [], _, _, h => by have := (h a).1 (List.mem_cons_self ..); cases this
  | a :: l, b :: m, hl, hm, h => by
    have hl' := List.pairwise_cons.1 hl
    have hm' := List.pairwise_cons.1 hm
    have hab : a = b := by
      have h1 := (h a).1 (List.mem_cons_self ..)
      have h2 := (h b).2 (List.mem_cons_self ..)
      rcases List.mem_cons.1 h1 with h1 | h1
      · exact h1
      · rcases List.mem_cons.1 h2 with h2 | h2
        · exact h2.symm
        · have := hl'.1 b h2
          have := hm'.1 a h1
          omega
    subst hab
    rw [asc_ext hl'.2 hm'.2 (fun x => ?_)]
    constructor
    · intro hx
      rcases List.mem_cons.1 ((h x).1 (List.mem_cons_of_mem _ hx)) with rfl | h1
      · have := hl'.1 x hx; omega
      · exact h1
    · intro hx
      rcases List.mem_cons.1 ((h x).2 (List.mem_cons_of_mem _ hx)) with rfl | h1
      · have := hm'.1 x hx; omega
      · exact h1

/-- Two rising lists, walked side by side: kept is what the side says. -/
def mg (keep : Bool → Bool → Bool) : List Int → List Int → List Int
  | [], [] => []
  | x :: a, [] => if keep true false then x :: mg keep a [] else mg keep a []
  | [], y :: b => if keep false true then y :: mg keep [] b else mg keep [] b
  | x :: a, y :: b =>
    if x = y then (if keep true true then x :: mg keep a b else mg keep a b)
    else if x < y then (if keep true false then x :: mg keep a (y :: b) else mg keep a (y :: b))
    else (if keep false true then y :: mg keep (x :: a) b else mg keep (x :: a) b)
termination_by a b => a.length + b.length

theorem mg_len (keep : Bool → Bool → Bool) (a b : List Int) : (mg keep a b).length ≤ a.length + b.length := by
  fun_induction mg keep a b <;> simp_all <;> omega

theorem mg_mem (keep : Bool → Bool → Bool) (a b : List Int) (ha : a.Pairwise (· < ·)) (hb : b.Pairwise (· < ·)) (c : Int) :
    c ∈ mg keep a b ↔ (c ∈ a ∨ c ∈ b) ∧ keep (decide (c ∈ a)) (decide (c ∈ b)) = true := by
  fun_induction mg keep a b with
  | case1 => simp
  | case2 x a hk ih =>
    have ha' := List.pairwise_cons.1 ha
    have nx : x ∉ a := fun h => by have := ha'.1 x h; omega
    rw [List.mem_cons, ih ha'.2 hb]
    by_cases hc : c = x
    · subst hc; simp [hk]
    · simp [hc]
  | case3 x a hk ih =>
    have ha' := List.pairwise_cons.1 ha
    have nx : x ∉ a := fun h => by have := ha'.1 x h; omega
    rw [ih ha'.2 hb]
    by_cases hc : c = x
    · subst hc; simp [hk, nx]
    · simp [hc]
  | case4 y b hk ih =>
    have hb' := List.pairwise_cons.1 hb
    rw [List.mem_cons, ih ha hb'.2]
    by_cases hc : c = y
    · subst hc; simp [hk]
    · simp [hc]
  | case5 y b hk ih =>
    have hb' := List.pairwise_cons.1 hb
    have ny : y ∉ b := fun h => by have := hb'.1 y h; omega
    rw [ih ha hb'.2]
    by_cases hc : c = y
    · subst hc; simp [hk, ny]
    · simp [hc]
  | case6 a x b hk ih =>
    have ha' := List.pairwise_cons.1 ha
    have hb' := List.pairwise_cons.1 hb
    rw [List.mem_cons, ih ha'.2 hb'.2]
    by_cases hc : c = x
    · subst hc; simp [hk]
    · simp [hc]
  | case7 a x b hk ih =>
    have ha' := List.pairwise_cons.1 ha
    have hb' := List.pairwise_cons.1 hb
    have nx : x ∉ a := fun h => by have := ha'.1 x h; omega
    have ny : x ∉ b := fun h => by have := hb'.1 x h; omega
    rw [ih ha'.2 hb'.2]
    by_cases hc : c = x
    · subst hc; simp [hk, nx, ny]
    · simp [hc]
  | case8 x a y b hne hlt hk ih =>
    have ha' := List.pairwise_cons.1 ha
    have hb' := List.pairwise_cons.1 hb
    rw [List.mem_cons, ih ha'.2 hb]
    by_cases hc : c = x
    · subst hc
      have n1 : c ∉ b := fun h => by have := hb'.1 c h; omega
      simp [hk, hne, n1]
    · simp [hc]
  | case9 x a y b hne hlt hk ih =>
    have ha' := List.pairwise_cons.1 ha
    have hb' := List.pairwise_cons.1 hb
    rw [ih ha'.2 hb]
    by_cases hc : c = x
    · subst hc
      have n1 : c ∉ b := fun h => by have := hb'.1 c h; omega
      have n2 : c ∉ a := fun h => by have := ha'.1 c h; omega
      simp [hk, hne, n1, n2]
    · simp [hc]
  | case10 x a y b hne hlt hk ih =>
    have ha' := List.pairwise_cons.1 ha
    have hb' := List.pairwise_cons.1 hb
    rw [List.mem_cons, ih ha hb'.2]
    by_cases hc : c = y
    · subst hc
      have n1 : c ∉ a := fun h => by have := ha'.1 c h; omega
      have n2 : ¬ c = x := fun h => hne h.symm
      simp [hk, n1, n2]
    · simp [hc]
  | case11 x a y b hne hlt hk ih =>
    have ha' := List.pairwise_cons.1 ha
    have hb' := List.pairwise_cons.1 hb
    rw [ih ha hb'.2]
    by_cases hc : c = y
    · subst hc
      have n1 : c ∉ a := fun h => by have := ha'.1 c h; omega
      have n2 : ¬ c = x := fun h => hne h.symm
      have n3 : c ∉ b := fun h => by have := hb'.1 c h; omega
      simp [hk, n1, n2, n3]
    · simp [hc]

theorem mg_sub (keep : Bool → Bool → Bool) (a b : List Int) : ∀ c ∈ mg keep a b, c ∈ a ∨ c ∈ b := by
  fun_induction mg keep a b <;> simp_all <;> grind

theorem mg_asc (keep : Bool → Bool → Bool) (a b : List Int) (ha : a.Pairwise (· < ·)) (hb : b.Pairwise (· < ·)) : (mg keep a b).Pairwise (· < ·) := by
  fun_induction mg keep a b with
  | case1 => simp
  | case2 x a hk ih =>
    have ha' := List.pairwise_cons.1 ha
    refine List.pairwise_cons.2 ⟨fun c hc => ?_, ih ha'.2 hb⟩
    rcases mg_sub _ _ _ c hc with h | h
    · exact ha'.1 c h
    · cases h
  | case3 x a hk ih => exact ih (List.pairwise_cons.1 ha).2 hb
  | case4 y b hk ih =>
    have hb' := List.pairwise_cons.1 hb
    refine List.pairwise_cons.2 ⟨fun c hc => ?_, ih ha hb'.2⟩
    rcases mg_sub _ _ _ c hc with h | h
    · cases h
    · exact hb'.1 c h
  | case5 y b hk ih => exact ih ha (List.pairwise_cons.1 hb).2
  | case6 a x b hk ih =>
    have ha' := List.pairwise_cons.1 ha
    have hb' := List.pairwise_cons.1 hb
    refine List.pairwise_cons.2 ⟨fun c hc => ?_, ih ha'.2 hb'.2⟩
    rcases mg_sub _ _ _ c hc with h | h
    · exact ha'.1 c h
    · exact hb'.1 c h
  | case7 a x b hk ih => exact ih (List.pairwise_cons.1 ha).2 (List.pairwise_cons.1 hb).2
  | case8 x a y b hne hlt hk ih =>
    have ha' := List.pairwise_cons.1 ha
    have hb' := List.pairwise_cons.1 hb
    refine List.pairwise_cons.2 ⟨fun c hc => ?_, ih ha'.2 hb⟩
    rcases mg_sub _ _ _ c hc with h | h
    · exact ha'.1 c h
    · rcases List.mem_cons.1 h with rfl | h
      · exact hlt
      · have := hb'.1 c h; show x < c; omega
  | case9 x a y b hne hlt hk ih => exact ih (List.pairwise_cons.1 ha).2 hb
  | case10 x a y b hne hlt hk ih =>
    have ha' := List.pairwise_cons.1 ha
    have hb' := List.pairwise_cons.1 hb
    refine List.pairwise_cons.2 ⟨fun c hc => ?_, ih ha hb'.2⟩
    rcases mg_sub _ _ _ c hc with h | h
    · rcases List.mem_cons.1 h with rfl | h
      · show y < c; omega
      · have := ha'.1 c h; show y < c; omega
    · exact hb'.1 c h
  | case11 x a y b hne hlt hk ih => exact ih ha (List.pairwise_cons.1 hb).2

theorem mrg_mg (keep : Bool → Bool → Bool) (a b : List Int) : mrg keep a b = mg keep a b := by
  fun_induction mrg keep a b with
  | case1 => simp [mg]
  | case2 x a ih => rw [mg, ih]; split <;> simp
  | case3 y b ih => rw [mg, ih]; split <;> simp
  | case4 x a y b h ih => rw [mg, ih, if_neg (show ¬ x = y by omega), if_pos h]; split <;> simp
  | case5 x a y b h h2 ih => rw [mg, ih, if_neg (show ¬ x = y by omega), if_neg h]; split <;> simp
  | case6 x a y b h h2 ih =>
    obtain rfl : x = y := by omega
    rw [mg, ih, if_pos rfl]; split <;> simp
abbrev Asc (l : List Int) : Prop := l.Pairwise (· < ·)
theorem un_asc {a b : List Int} (ha : Asc a) (hb : Asc b) : Asc (un a b) := by rw [show un a b = mg kOr a b from mrg_mg ..]; exact mg_asc _ a b ha hb
theorem le_asc {a b : List Int} (ha : Asc a) (hb : Asc b) : Asc (less a b) := by rw [show less a b = mg kLess a b from mrg_mg ..]; exact mg_asc _ a b ha hb
theorem an_asc {a b : List Int} (ha : Asc a) (hb : Asc b) : Asc (inter a b) := by rw [show inter a b = mg kAnd a b from mrg_mg ..]; exact mg_asc _ a b ha hb
theorem un_mem {a b : List Int} (ha : Asc a) (hb : Asc b) (c : Int) : c ∈ un a b ↔ c ∈ a ∨ c ∈ b := by
  rw [show un a b = mg kOr a b from mrg_mg .., mg_mem _ a b ha hb]; simp [kOr]
theorem le_mem {a b : List Int} (ha : Asc a) (hb : Asc b) (c : Int) : c ∈ less a b ↔ c ∈ a ∧ c ∉ b := by
  rw [show less a b = mg kLess a b from mrg_mg .., mg_mem _ a b ha hb]; simp [kLess]; grind
theorem an_mem {a b : List Int} (ha : Asc a) (hb : Asc b) (c : Int) : c ∈ inter a b ↔ c ∈ a ∧ c ∈ b := by
  rw [show inter a b = mg kAnd a b from mrg_mg .., mg_mem _ a b ha hb]; simp [kAnd]; grind
theorem sub_iff {a b : List Int} (ha : Asc a) (hb : Asc b) : sub a b = true ↔ ∀ c ∈ a, c ∈ b := by
  unfold sub
  rw [decide_eq_true_eq, List.eq_nil_iff_forall_not_mem]
  constructor
  · intro h c hc
    have := h c
    rw [le_mem ha hb] at this
    grind
  · intro h c hc
    rw [le_mem ha hb] at hc
    grind
theorem flows_iff {S I S' I' : List Int} (h1 : Asc S) (h2 : Asc I) (h3 : Asc S') (h4 : Asc I') : flows2 S I S' I' = true ↔ (∀ c ∈ S, c ∈ S') ∧ (∀ c ∈ I', c ∈ I) := by
  unfold flows2
  rw [Bool.and_eq_true, sub_iff h1 h3, sub_iff h4 h2]
theorem mayC_asc {l : List Int} (h : mayC l = true) : Asc l := by
  simp only [mayC, Bool.and_eq_true, decide_eq_true_eq, asc_iff] at h
  exact h.1
theorem may8_R {S I O : List Int} (h : may8 S I O = true) : mayC S = true ∧ mayC I = true ∧ mayC O = true := by
  simp only [may8, Bool.and_eq_true] at h
  exact ⟨h.1.1.1, h.1.1.2, h.1.2⟩
end Go.Proofs.YtkmdeahnkfdhjaaW.E.PM
