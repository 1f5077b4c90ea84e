/-
  What a printed function comes to, with enough rounds. No condition. (Own words of this claim.)
-/
import Derived.RowKit
import Derived.IntWalk
namespace Go.Proofs.YtfbfgaaaegbihaaW.PJ
open Go Go.RowKit

/-- From some number of rounds on it comes to v. -/
def Cm {α : Type} (F : Nat → Option α) (v : α) : Prop := ∃ k0, ∀ k, k0 ≤ k → F k = some v
theorem Cm.here {α : Type} (v : α) : Cm (fun _ => some v) v := ⟨0, fun _ _ => rfl⟩
theorem Cm.eq {α : Type} {v w : α} (h : v = w) : Cm (fun _ => some v) w := h ▸ Cm.here v
theorem Cm.step {α : Type} {F G : Nat → Option α} {v : α} (h : ∀ k, F (k + 1) = G k) (e : Cm G v) : Cm F v := by
  obtain ⟨k0, hk⟩ := e
  refine ⟨k0 + 1, fun k hk' => ?_⟩
  obtain ⟨j, rfl⟩ : ∃ j, k = j + 1 := ⟨k - 1, by omega⟩
  rw [h, hk j (by omega)]
theorem Cm.bind {α β : Type} {F : Nat → Option α} {G : Nat → α → Option β} {a : α} {b : β} (h : Cm F a) (g : Cm (fun k => G k a) b) : Cm (fun k => (F k).bind (G k)) b := by
  obtain ⟨k0, hk⟩ := h
  obtain ⟨k1, hg⟩ := g
  refine ⟨max k0 k1, fun k hk' => ?_⟩
  show (F k).bind (G k) = some b
  rw [hk k (by omega)]
  exact hg k (by omega)
theorem Cm.pos {α : Type} {c : Prop} [Decidable c] {F G : Nat → Option α} {v : α} (hc : c) (h : Cm F v) : Cm (fun k => if c then F k else G k) v := by simpa only [if_pos hc] using h
theorem Cm.neg {α : Type} {c : Prop} [Decidable c] {F G : Nat → Option α} {v : α} (hc : ¬ c) (h : Cm G v) : Cm (fun k => if c then F k else G k) v := by simpa only [if_neg hc] using h
theorem Cm.ite {α : Type} {c : Prop} [Decidable c] {F G : Nat → Option α} {v : α} (h : c → Cm F v) (g : ¬ c → Cm G v) : Cm (fun k => if c then F k else G k) v := by
  by_cases hc : c
  · exact Cm.pos hc (h hc)
  · exact Cm.neg hc (g hc)
theorem Cm.ex {α : Type} {F : Nat → Option α} {v : α} (h : Cm F v) : ∃ k, F k = some v := ⟨h.choose, h.choose_spec _ (Nat.le_refl _)⟩
theorem Cm.of {α : Type} {F : Nat → Option α} {v w : α} (h : Cm F v) (e : v = w) : Cm F w := e ▸ h

/-- One more, in a rising list. -/
def ins (x : Int) : List Int → List Int
  | [] => [x]
  | y :: t => if y < x then y :: ins x t else if y = x then y :: t else x :: y :: t
theorem ins_len (x : Int) : ∀ l : List Int, (ins x l).length ≤ l.length + 1
  | [] => by simp [ins]
  | y :: t => by
    have := ins_len x t
    simp only [ins]
    split
    · simp; omega
    · split <;> simp
theorem ins_mem (x c : Int) : ∀ l : List Int, c ∈ ins x l ↔ c = x ∨ c ∈ l
  | [] => by simp [ins]
  | y :: t => by
    have ih := ins_mem x c t
    simp only [ins]
    split
    · simp only [List.mem_cons, ih]; grind
    · split
      · next h => subst h; simp
      · simp
theorem ins_asc (x : Int) : ∀ l : List Int, l.Pairwise (· < ·) → (ins x l).Pairwise (· < ·)
  | [], _ => by simp [ins]
  | y :: t, h => by
    have h' := List.pairwise_cons.1 h
    have ih := ins_asc x t h'.2
    simp only [ins]
    split
    · next hlt =>
      refine List.pairwise_cons.2 ⟨fun c hc => ?_, ih⟩
      rcases (ins_mem x c t).1 hc with rfl | hc
      · exact hlt
      · exact h'.1 c hc
    · next hge =>
      split
      · exact h
      · next hne =>
        refine List.pairwise_cons.2 ⟨fun c hc => ?_, h⟩
        rcases List.mem_cons.1 hc with rfl | hc
        · show x < c; omega
        · have := h'.1 c hc; show x < c; omega
/-- All of a list, one by one. -/
def mk (l : List Int) (out : List Int) : List Int := l.foldl (fun o x => ins x o) out
theorem mk_len (l : List Int) : ∀ out : List Int, (mk l out).length ≤ out.length + l.length := by
  induction l with
  | nil => intro out; simp [mk]
  | cons x t ih =>
    intro out
    have h1 := ih (ins x out)
    have h2 := ins_len x out
    simp only [mk, List.foldl_cons, List.length_cons] at h1 ⊢
    omega
theorem mk_mem (c : Int) (l : List Int) : ∀ out : List Int, c ∈ mk l out ↔ c ∈ out ∨ c ∈ l := by
  induction l with
  | nil => intro out; simp [mk]
  | cons x t ih =>
    intro out
    have h1 := ih (ins x out)
    simp only [mk, List.foldl_cons] at h1 ⊢
    rw [h1, ins_mem, List.mem_cons]
    grind
theorem mk_asc (l : List Int) : ∀ out : List Int, out.Pairwise (· < ·) → (mk l out).Pairwise (· < ·) := by
  induction l with
  | nil => intro out h; exact h
  | cons x t ih => intro out h; exact ih _ (ins_asc x out h)

/-- The lists that rise. -/
def asc : List Int → Bool
  | a :: b :: t => decide (a < b) && asc (b :: t)
  | _ => true
/-- Rising, as a relation of all. -/
theorem asc_iff : ∀ (l : List Int), asc l = true ↔ l.Pairwise (· < ·)
  | [] => by simp [asc]
  | [a] => by simp [asc]
  | a :: b :: t => by
    have ih := asc_iff (b :: t)
    rw [asc, Bool.and_eq_true, ih, List.pairwise_cons (a := a)]
    constructor
    · rintro ⟨h, hp⟩
      refine ⟨?_, hp⟩
      intro x hx
      rcases List.mem_cons.1 hx with rfl | hx
      · simpa using h
      · have h1 := (List.pairwise_cons.1 hp).1 x hx
        have h2 : a < b := by simpa using h
        show a < x
        omega
    · rintro ⟨h, hp⟩
      exact ⟨by simpa using h b (List.mem_cons_self ..), hp⟩
/-- Two rising lists of the same members are one. -/
theorem asc_ext : ∀ {l m : List Int}, l.Pairwise (· < ·) → m.Pairwise (· < ·) → (∀ x, x ∈ l ↔ x ∈ m) → l = m
  | [], [], _, _, _ => rfl
  | [], b :: m, _, _, h => by have := (h b).2 (List.mem_cons_self ..); cases this
  | a :: l, [], _, _, h => by have := (h a).1 (List.mem_cons_self ..); cases this
  | a :: l, b :: m, hl, hm, h => by
    have hl' := List.pairwise_cons.1 hl
    have hm' := List.pairwise_cons.1 hm
    have hab : a = b := by
      have h1 := (h a).1 (List.mem_cons_self ..)
      have h2 := (h b).2 (List.mem_cons_self ..)
      rcases List.mem_cons.1 h1 with h1 | h1
      · exact h1
      · rcases List.mem_cons.1 h2 with h2 | h2
        · exact h2.symm
        · have := hl'.1 b h2
          have := hm'.1 a h1
          omega
    subst hab
    rw [asc_ext hl'.2 hm'.2 (fun x => ?_)]
    constructor
    · intro hx
      rcases List.mem_cons.1 ((h x).1 (List.mem_cons_of_mem _ hx)) with rfl | h1
      · have := hl'.1 x hx; omega
      · exact h1
    · intro hx
      rcases List.mem_cons.1 ((h x).2 (List.mem_cons_of_mem _ hx)) with rfl | h1
      · have := hm'.1 x hx; omega
      · exact h1

/-- Two rising lists, walked side by side: kept is what the side says. -/
def mg (keep : Bool → Bool → Bool) : List Int → List Int → List Int
  | [], [] => []
  | x :: a, [] => if keep true false then x :: mg keep a [] else mg keep a []
  | [], y :: b => if keep false true then y :: mg keep [] b else mg keep [] b
  | x :: a, y :: b =>
    if x = y then (if keep true true then x :: mg keep a b else mg keep a b)
    else if x < y then (if keep true false then x :: mg keep a (y :: b) else mg keep a (y :: b))
    else (if keep false true then y :: mg keep (x :: a) b else mg keep (x :: a) b)
termination_by a b => a.length + b.length

theorem mg_len (keep : Bool → Bool → Bool) (a b : List Int) : (mg keep a b).length ≤ a.length + b.length := by
  fun_induction mg keep a b <;> simp_all <;> omega

theorem mg_mem (keep : Bool → Bool → Bool) (a b : List Int) (ha : a.Pairwise (· < ·)) (hb : b.Pairwise (· < ·)) (c : Int) :
    c ∈ mg keep a b ↔ (c ∈ a ∨ c ∈ b) ∧ keep (decide (c ∈ a)) (decide (c ∈ b)) = true := by
  fun_induction mg keep a b with
  | case1 => simp
  | case2 x a hk ih =>
    have ha' := List.pairwise_cons.1 ha
    have nx : x ∉ a := fun h => by have := ha'.1 x h; omega
    rw [List.mem_cons, ih ha'.2 hb]
    by_cases hc : c = x
    · subst hc; simp [hk]
    · simp [hc]
  | case3 x a hk ih =>
    have ha' := List.pairwise_cons.1 ha
    have nx : x ∉ a := fun h => by have := ha'.1 x h; omega
    rw [ih ha'.2 hb]
    by_cases hc : c = x
    · subst hc; simp [hk, nx]
    · simp [hc]
  | case4 y b hk ih =>
    have hb' := List.pairwise_cons.1 hb
    rw [List.mem_cons, ih ha hb'.2]
    by_cases hc : c = y
    · subst hc; simp [hk]
    · simp [hc]
  | case5 y b hk ih =>
    have hb' := List.pairwise_cons.1 hb
    have ny : y ∉ b := fun h => by have := hb'.1 y h; omega
    rw [ih ha hb'.2]
    by_cases hc : c = y
    · subst hc; simp [hk, ny]
    · simp [hc]
  | case6 a x b hk ih =>
    have ha' := List.pairwise_cons.1 ha
    have hb' := List.pairwise_cons.1 hb
    rw [List.mem_cons, ih ha'.2 hb'.2]
    by_cases hc : c = x
    · subst hc; simp [hk]
    · simp [hc]
  | case7 a x b hk ih =>
    have ha' := List.pairwise_cons.1 ha
    have hb' := List.pairwise_cons.1 hb
    have nx : x ∉ a := fun h => by have := ha'.1 x h; omega
    have ny : x ∉ b := fun h => by have := hb'.1 x h; omega
    rw [ih ha'.2 hb'.2]
    by_cases hc : c = x
    · subst hc; simp [hk, nx, ny]
    · simp [hc]
  | case8 x a y b hne hlt hk ih =>
    have ha' := List.pairwise_cons.1 ha
    have hb' := List.pairwise_cons.1 hb
    rw [List.mem_cons, ih ha'.2 hb]
    by_cases hc : c = x
    · subst hc
      have n1 : c ∉ b := fun h => by have := hb'.1 c h; omega
      simp [hk, hne, n1]
    · simp [hc]
  | case9 x a y b hne hlt hk ih =>
    have ha' := List.pairwise_cons.1 ha
    have hb' := List.pairwise_cons.1 hb
    rw [ih ha'.2 hb]
    by_cases hc : c = x
    · subst hc
      have n1 : c ∉ b := fun h => by have := hb'.1 c h; omega
      have n2 : c ∉ a := fun h => by have := ha'.1 c h; omega
      simp [hk, hne, n1, n2]
    · simp [hc]
  | case10 x a y b hne hlt hk ih =>
    have ha' := List.pairwise_cons.1 ha
    have hb' := List.pairwise_cons.1 hb
    rw [List.mem_cons, ih ha hb'.2]
    by_cases hc : c = y
    · subst hc
      have n1 : c ∉ a := fun h => by have := ha'.1 c h; omega
      have n2 : ¬ c = x := fun h => hne h.symm
      simp [hk, n1, n2]
    · simp [hc]
  | case11 x a y b hne hlt hk ih =>
    have ha' := List.pairwise_cons.1 ha
    have hb' := List.pairwise_cons.1 hb
    rw [ih ha hb'.2]
    by_cases hc : c = y
    · subst hc
      have n1 : c ∉ a := fun h => by have := ha'.1 c h; omega
      have n2 : ¬ c = x := fun h => hne h.symm
      have n3 : c ∉ b := fun h => by have := hb'.1 c h; omega
      simp [hk, n1, n2, n3]
    · simp [hc]

theorem mg_sub (keep : Bool → Bool → Bool) (a b : List Int) : ∀ c ∈ mg keep a b, c ∈ a ∨ c ∈ b := by
  fun_induction mg keep a b <;> simp_all <;> grind

theorem mg_asc (keep : Bool → Bool → Bool) (a b : List Int) (ha : a.Pairwise (· < ·)) (hb : b.Pairwise (· < ·)) : (mg keep a b).Pairwise (· < ·) := by
  fun_induction mg keep a b with
  | case1 => simp
  | case2 x a hk ih =>
    have ha' := List.pairwise_cons.1 ha
    refine List.pairwise_cons.2 ⟨fun c hc => ?_, ih ha'.2 hb⟩
    rcases mg_sub _ _ _ c hc with h | h
    · exact ha'.1 c h
    · cases h
  | case3 x a hk ih => exact ih (List.pairwise_cons.1 ha).2 hb
  | case4 y b hk ih =>
    have hb' := List.pairwise_cons.1 hb
    refine List.pairwise_cons.2 ⟨fun c hc => ?_, ih ha hb'.2⟩
    rcases mg_sub _ _ _ c hc with h | h
    · cases h
    · exact hb'.1 c h
  | case5 y b hk ih => exact ih ha (List.pairwise_cons.1 hb).2
  | case6 a x b hk ih =>
    have ha' := List.pairwise_cons.1 ha
    have hb' := List.pairwise_cons.1 hb
    refine List.pairwise_cons.2 ⟨fun c hc => ?_, ih ha'.2 hb'.2⟩
    rcases mg_sub _ _ _ c hc with h | h
    · exact ha'.1 c h
    · exact hb'.1 c h
  | case7 a x b hk ih => exact ih (List.pairwise_cons.1 ha).2 (List.pairwise_cons.1 hb).2
  | case8 x a y b hne hlt hk ih =>
    have ha' := List.pairwise_cons.1 ha
    have hb' := List.pairwise_cons.1 hb
    refine List.pairwise_cons.2 ⟨fun c hc => ?_, ih ha'.2 hb⟩
    rcases mg_sub _ _ _ c hc with h | h
    · exact ha'.1 c h
    · rcases List.mem_cons.1 h with rfl | h
      · exact hlt
      · have := hb'.1 c h; show x < c; omega
  | case9 x a y b hne hlt hk ih => exact ih (List.pairwise_cons.1 ha).2 hb
  | case10 x a y b hne hlt hk ih =>
    have ha' := List.pairwise_cons.1 ha
    have hb' := List.pairwise_cons.1 hb
    refine List.pairwise_cons.2 ⟨fun c hc => ?_, ih ha hb'.2⟩
    rcases mg_sub _ _ _ c hc with h | h
    · rcases List.mem_cons.1 h with rfl | h
      · show y < c; omega
      · have := ha'.1 c h; show y < c; omega
    · exact hb'.1 c h
  | case11 x a y b hne hlt hk ih => exact ih ha (List.pairwise_cons.1 hb).2

end Go.Proofs.YtfbfgaaaegbihaaW.PJ
