/-
  Owned secrets' sets, in plain Lean. No condition.
-/
import Derived.Test.YtfgndnackofenaaEM1
namespace Go.Proofs.YtfgndnackofenaaW.E
open Go Go.RowKit
set_option linter.unusedVariables false
set_option linter.unusedSimpArgs false

def eqL (a b : List Int) : Bool := decide (a = b)
def mayC (l : List Int) : Bool := asc l && decide (l.length ≤ 16)
theorem mayC_len {l : List Int} (h : mayC l = true) : l.length ≤ 16 := by
  simp only [mayC, Bool.and_eq_true, decide_eq_true_eq] at h
  exact h.2
def orr (a b : List Int) : List Int := mk (a ++ b)
theorem orr_len (a b : List Int) : (orr a b).length ≤ a.length + b.length := by
  have := mk_len (a ++ b)
  simpa [orr] using this
def may8 (s i o : List Int) : Bool := mayC s && mayC i && mayC o && (decide ((orr (orr s i) o).length = s.length + i.length + o.length) && decide ((orr (orr s i) o).length ≤ 16))
def maySets (s i o : List Int) : Bool := mayC s && mayC i && mayC o && (decide (s.length + i.length + o.length ≤ 16) && decide ((un s (un i o)).length = s.length + i.length + o.length))
def same3 (s i o s' i' o' : List Int) : Bool := eqL s s' && eqL i i' && eqL o o'
def flows2 (s i s' i' : List Int) : Bool := sub s s' && sub i' i
end Go.Proofs.YtfgndnackofenaaW.E

/-
  Rising lists as sets, in plain Lean. No condition.
-/
namespace Go.Proofs.YtfgndnackofenaaW.E.PM
open Go Go.RowKit Go.Proofs.YtfgndnackofenaaW.E
set_option linter.unusedVariables false
set_option linter.unusedSimpArgs false

/-- Rising, as a relation of all. -/
theorem asc_iff : ∀ (l : List Int), asc l = true ↔ l.Pairwise (· < ·)
  | [] => by simp [asc]
  | [a] => by simp [asc]
  | a :: b :: t => by
    have ih := asc_iff (b :: t)
    rw [asc, Bool.and_eq_true, ih, List.pairwise_cons (a := a)]
    constructor
    · rintro ⟨h, hp⟩
      refine ⟨?_, hp⟩
      intro x hx
      rcases List.mem_cons.1 hx with rfl | hx
      · simpa using h
      · have h1 := (List.pairwise_cons.1 hp).1 x hx
        have h2 : a < b := by simpa using h
        show a < x
        omega
    · rintro ⟨h, hp⟩
      exact ⟨by simpa using h b (List.mem_cons_self ..), hp⟩
/-- Two rising lists of the same members are one. -/
theorem asc_ext : ∀ {l m : List Int}, l.Pairwise (· < ·) → m.Pairwise (· < ·) → (∀ x, x ∈ l ↔ x ∈ m) → l = m
  | [], [], _, _, _ => rfl
  | [], b :: m, _, _, h => by have := (h b).2 (List.mem_cons_self ..); cases this
  | a :: l, [], _, _, h => by have := (h a).1 (List.mem_cons_self ..); cases this
  | a :: l, b :: m, hl, hm, h => by
    have hl' := List.pairwise_cons.1 hl
    have hm' := List.pairwise_cons.1 hm
    have hab : a = b := by
      have h1 := (h a).1 (List.mem_cons_self ..)
      have h2 := (h b).2 (List.mem_cons_self ..)
      rcases List.mem_cons.1 h1 with h1 | h1
      · exact h1
      · rcases List.mem_cons.1 h2 with h2 | h2
        · exact h2.symm
        · have := hl'.1 b h2
          have := hm'.1 a h1
          omega
    subst hab
    rw [asc_ext hl'.2 hm'.2 (fun x => ?_)]
    constructor
    · intro hx
      rcases List.mem_cons.1 ((h x).1 (List.mem_cons_of_mem _ hx)) with rfl | h1
      · have := hl'.1 x hx; omega
      · exact h1
    · intro hx
      rcases List.mem_cons.1 ((h x).2 (List.mem_cons_of_mem _ hx)) with rfl | h1
      · have := hm'.1 x hx; omega
      · exact h1

/-- Two rising lists, walked side by side: kept is what the side says. -/
def mg (keep : Bool → Bool → Bool) : List Int → List Int → List Int
  | [], [] => []
  | x :: a, [] => if keep true false then x :: mg keep a [] else mg keep a []
  | [], y :: b => if keep false true then y :: mg keep [] b else mg keep [] b
  | x :: a, y :: b =>
    if x = y then (if keep true true then x :: mg keep a b else mg keep a b)
    else if x < y then (if keep true false then x :: mg keep a (y :: b) else mg keep a (y :: b))
    else (if keep false true then y :: mg keep (x :: a) b else mg keep (x :: a) b)
termination_by a b => a.length + b.length

theorem mg_len (keep : Bool → Bool → Bool) (a b : List Int) : (mg keep a b).length ≤ a.length + b.length := by
  fun_induction mg keep a b <;> simp_all <;> omega

theorem mg_mem (keep : Bool → Bool → Bool) (a b : List Int) (ha : a.Pairwise (· < ·)) (hb : b.Pairwise (· < ·)) (c : Int) :
    c ∈ mg keep a b ↔ (c ∈ a ∨ c ∈ b) ∧ keep (decide (c ∈ a)) (decide (c ∈ b)) = true := by
  fun_induction mg keep a b with
  | case1 => simp
  | case2 x a hk ih =>
    have ha' := List.pairwise_cons.1 ha
    have nx : x ∉ a := fun h => by have := ha'.1 x h; omega
    rw [List.mem_cons, ih ha'.2 hb]
    by_cases hc : c = x
    · subst hc; simp [hk]
    · simp [hc]
  | case3 x a hk ih =>
    have ha' := List.pairwise_cons.1 ha
    have nx : x ∉ a := fun h => by have := ha'.1 x h; omega
    rw [ih ha'.2 hb]
    by_cases hc : c = x
    · subst hc; simp [hk, nx]
    · simp [hc]
  | case4 y b hk ih =>
    have hb' := List.pairwise_cons.1 hb
    rw [List.mem_cons, ih ha hb'.2]
    by_cases hc : c = y
    · subst hc; simp [hk]
    · simp [hc]
  | case5 y b hk ih =>
    have hb' := List.pairwise_cons.1 hb
    have ny : y ∉ b := fun h => by have := hb'.1 y h; omega
    rw [ih ha hb'.2]
    by_cases hc : c = y
    · subst hc; simp [hk, ny]
    · simp [hc]
  | case6 a x b hk ih =>
    have ha' := List.pairwise_cons.1 ha
    have hb' := List.pairwise_cons.1 hb
    rw [List.mem_cons, ih ha'.2 hb'.2]
    by_cases hc : c = x
    · subst hc; simp [hk]
    · simp [hc]
  | case7 a x b hk ih =>
    have ha' := List.pairwise_cons.1 ha
    have hb' := List.pairwise_cons.1 hb
    have nx : x ∉ a := fun h => by have := ha'.1 x h; omega
    have ny : x ∉ b := fun h => by have := hb'.1 x h; omega
    rw [ih ha'.2 hb'.2]
    by_cases hc : c = x
    · subst hc; simp [hk, nx, ny]
    · simp [hc]
  | case8 x a y b hne hlt hk ih =>
    have ha' := List.pairwise_cons.1 ha
    have hb' := List.pairwise_cons.1 hb
    rw [List.mem_cons, ih ha'.2 hb]
    by_cases hc : c = x
    · subst hc
      have n1 : c ∉ b := fun h => by have := hb'.1 c h; omega
      simp [hk, hne, n1]
    · simp [hc]
  | case9 x a y b hne hlt hk ih =>
    have ha' := List.pairwise_cons.1 ha
    have hb' := List.pairwise_cons.1 hb
    rw [ih ha'.2 hb]
    by_cases hc : c = x
    · subst hc
      have n1 : c ∉ b := fun h => by have := hb'.1 c h; omega
      have n2 : c ∉ a := fun h => by have := ha'.1 c h; omega
      simp [hk, hne, n1, n2]
    · simp [hc]
  | case10 x a y b hne hlt hk ih =>
    have ha' := List.pairwise_cons.1 ha
    have hb' := List.pairwise_cons.1 hb
    rw [List.mem_cons, ih ha hb'.2]
    by_cases hc : c = y
    · subst hc
      have n1 : c ∉ a := fun h => by have := ha'.1 c h; omega
      have n2 : ¬ c = x := fun h => hne h.symm
      simp [hk, n1, n2]
    · simp [hc]
  | case11 x a y b hne hlt hk ih =>
    have ha' := List.pairwise_cons.1 ha
    have hb' := List.pairwise_cons.1 hb
    rw [ih ha hb'.2]
    by_cases hc : c = y
    · subst hc
      have n1 : c ∉ a := fun h => by have := ha'.1 c h; omega
      have n2 : ¬ c = x := fun h => hne h.symm
      have n3 : c ∉ b := fun h => by have := hb'.1 c h; omega
      simp [hk, n1, n2, n3]
    · simp [hc]

theorem mg_sub (keep : Bool → Bool → Bool) (a b : List Int) : ∀ c ∈ mg keep a b, c ∈ a ∨ c ∈ b := by
  fun_induction mg keep a b <;> simp_all <;> grind

theorem mg_asc (keep : Bool → Bool → Bool) (a b : List Int) (ha : a.Pairwise (· < ·)) (hb : b.Pairwise (· < ·)) : (mg keep a b).Pairwise (· < ·) := by
  fun_induction mg keep a b with
  | case1 => simp
  | case2 x a hk ih =>
    have ha' := List.pairwise_cons.1 ha
    refine List.pairwise_cons.2 ⟨fun c hc => ?_, ih ha'.2 hb⟩
    rcases mg_sub _ _ _ c hc with h | h
    · exact ha'.1 c h
    · cases h
  | case3 x a hk ih => exact ih (List.pairwise_cons.1 ha).2 hb
  | case4 y b hk ih =>
    have hb' := List.pairwise_cons.1 hb
    refine List.pairwise_cons.2 ⟨fun c hc => ?_, ih ha hb'.2⟩
    rcases mg_sub _ _ _ c hc with h | h
    · cases h
    · exact hb'.1 c h
  | case5 y b hk ih => exact ih ha (List.pairwise_cons.1 hb).2
  | case6 a x b hk ih =>
    have ha' := List.pairwise_cons.1 ha
    have hb' := List.pairwise_cons.1 hb
    refine List.pairwise_cons.2 ⟨fun c hc => ?_, ih ha'.2 hb'.2⟩
    rcases mg_sub _ _ _ c hc with h | h
    · exact ha'.1 c h
    · exact hb'.1 c h
  | case7 a x b hk ih => exact ih (List.pairwise_cons.1 ha).2 (List.pairwise_cons.1 hb).2
  | case8 x a y b hne hlt hk ih =>
    have ha' := List.pairwise_cons.1 ha
    have hb' := List.pairwise_cons.1 hb
    refine List.pairwise_cons.2 ⟨fun c hc => ?_, ih ha'.2 hb⟩
    rcases mg_sub _ _ _ c hc with h | h
    · exact ha'.1 c h
    · rcases List.mem_cons.1 h with rfl | h
      · exact hlt
      · have := hb'.1 c h; show x < c; omega
  | case9 x a y b hne hlt hk ih => exact ih (List.pairwise_cons.1 ha).2 hb
  | case10 x a y b hne hlt hk ih =>
    have ha' := List.pairwise_cons.1 ha
    have hb' := List.pairwise_cons.1 hb
    refine List.pairwise_cons.2 ⟨fun c hc => ?_, ih ha hb'.2⟩
    rcases mg_sub _ _ _ c hc with h | h
    · rcases List.mem_cons.1 h with rfl | h
      · show y < c; omega
      · have := ha'.1 c h; show y < c; omega
    · exact hb'.1 c h
  | case11 x a y b hne hlt hk ih => exact ih ha (List.pairwise_cons.1 hb).2

theorem mrg_mg (keep : Bool → Bool → Bool) (a b : List Int) : mrg keep a b = mg keep a b := by
  fun_induction mrg keep a b with
  | case1 => simp [mg]
  | case2 x a ih => rw [mg, ih]; split <;> simp
  | case3 y b ih => rw [mg, ih]; split <;> simp
  | case4 x a y b h ih => rw [mg, ih, if_neg (show ¬ x = y by omega), if_pos h]; split <;> simp
  | case5 x a y b h h2 ih => rw [mg, ih, if_neg (show ¬ x = y by omega), if_neg h]; split <;> simp
  | case6 x a y b h h2 ih =>
    obtain rfl : x = y := by omega
    rw [mg, ih, if_pos rfl]; split <;> simp
abbrev Asc (l : List Int) : Prop := l.Pairwise (· < ·)
theorem un_asc {a b : List Int} (ha : Asc a) (hb : Asc b) : Asc (un a b) := by rw [show un a b = mg kOr a b from mrg_mg ..]; exact mg_asc _ a b ha hb
theorem le_asc {a b : List Int} (ha : Asc a) (hb : Asc b) : Asc (less a b) := by rw [show less a b = mg kLess a b from mrg_mg ..]; exact mg_asc _ a b ha hb
theorem an_asc {a b : List Int} (ha : Asc a) (hb : Asc b) : Asc (inter a b) := by rw [show inter a b = mg kAnd a b from mrg_mg ..]; exact mg_asc _ a b ha hb
theorem un_mem {a b : List Int} (ha : Asc a) (hb : Asc b) (c : Int) : c ∈ un a b ↔ c ∈ a ∨ c ∈ b := by
  rw [show un a b = mg kOr a b from mrg_mg .., mg_mem _ a b ha hb]; simp [kOr]
theorem le_mem {a b : List Int} (ha : Asc a) (hb : Asc b) (c : Int) : c ∈ less a b ↔ c ∈ a ∧ c ∉ b := by
  rw [show less a b = mg kLess a b from mrg_mg .., mg_mem _ a b ha hb]; simp [kLess]; grind
theorem an_mem {a b : List Int} (ha : Asc a) (hb : Asc b) (c : Int) : c ∈ inter a b ↔ c ∈ a ∧ c ∈ b := by
  rw [show inter a b = mg kAnd a b from mrg_mg .., mg_mem _ a b ha hb]; simp [kAnd]; grind
theorem sub_iff {a b : List Int} (ha : Asc a) (hb : Asc b) : sub a b = true ↔ ∀ c ∈ a, c ∈ b := by
  unfold sub
  rw [decide_eq_true_eq, List.eq_nil_iff_forall_not_mem]
  constructor
  · intro h c hc
    have := h c
    rw [le_mem ha hb] at this
    grind
  · intro h c hc
    rw [le_mem ha hb] at hc
    grind
theorem flows_iff {S I S' I' : List Int} (h1 : Asc S) (h2 : Asc I) (h3 : Asc S') (h4 : Asc I') : flows2 S I S' I' = true ↔ (∀ c ∈ S, c ∈ S') ∧ (∀ c ∈ I', c ∈ I) := by
  unfold flows2
  rw [Bool.and_eq_true, sub_iff h1 h3, sub_iff h4 h2]
theorem mayC_asc {l : List Int} (h : mayC l = true) : Asc l := by
  simp only [mayC, Bool.and_eq_true, decide_eq_true_eq, asc_iff] at h
  exact h.1
theorem may8_R {S I O : List Int} (h : may8 S I O = true) : mayC S = true ∧ mayC I = true ∧ mayC O = true := by
  simp only [may8, Bool.and_eq_true] at h
  exact ⟨h.1.1.1, h.1.1.2, h.1.2⟩
end Go.Proofs.YtfgndnackofenaaW.E.PM

/-
  Sets made one by one; owners of secrets. In plain Lean. No condition.
-/
namespace Go.Proofs.YtfgndnackofenaaW.E.PM
open Go Go.RowKit Go.Proofs.YtfgndnackofenaaW.E
set_option linter.unusedVariables false
set_option linter.unusedSimpArgs false
set_option linter.unusedSectionVars false

def ins (x : Int) : List Int → List Int
  | [] => [x]
  | y :: t => if y < x then y :: ins x t else if y = x then y :: t else x :: y :: t
theorem ins_len (x : Int) : ∀ l : List Int, (ins x l).length ≤ l.length + 1
  | [] => by simp [ins]
  | y :: t => by
    have := ins_len x t
    simp only [ins]
    split
    · simp; omega
    · split <;> simp
theorem ins_mem (x c : Int) : ∀ l : List Int, c ∈ ins x l ↔ c = x ∨ c ∈ l
  | [] => by simp [ins]
  | y :: t => by
    have ih := ins_mem x c t
    simp only [ins]
    split
    · simp only [List.mem_cons, ih]; grind
    · split
      · next h => subst h; simp
      · simp
theorem ins_asc (x : Int) : ∀ l : List Int, l.Pairwise (· < ·) → (ins x l).Pairwise (· < ·)
  | [], _ => by simp [ins]
  | y :: t, h => by
    have h' := List.pairwise_cons.1 h
    have ih := ins_asc x t h'.2
    simp only [ins]
    split
    · next hlt =>
      refine List.pairwise_cons.2 ⟨fun c hc => ?_, ih⟩
      rcases (ins_mem x c t).1 hc with rfl | hc
      · exact hlt
      · exact h'.1 c hc
    · next hge =>
      split
      · exact h
      · next hne =>
        refine List.pairwise_cons.2 ⟨fun c hc => ?_, h⟩
        rcases List.mem_cons.1 hc with rfl | hc
        · show x < c; omega
        · have := h'.1 c hc; show x < c; omega
/-- All of a list, one by one. -/
def mk (l : List Int) (out : List Int) : List Int := l.foldl (fun o x => ins x o) out
theorem mk_len (l : List Int) : ∀ out : List Int, (mk l out).length ≤ out.length + l.length := by
  induction l with
  | nil => intro out; simp [mk]
  | cons x t ih =>
    intro out
    have h1 := ih (ins x out)
    have h2 := ins_len x out
    simp only [mk, List.foldl_cons, List.length_cons] at h1 ⊢
    omega
theorem mk_mem (c : Int) (l : List Int) : ∀ out : List Int, c ∈ mk l out ↔ c ∈ out ∨ c ∈ l := by
  induction l with
  | nil => intro out; simp [mk]
  | cons x t ih =>
    intro out
    have h1 := ih (ins x out)
    simp only [mk, List.foldl_cons] at h1 ⊢
    rw [h1, ins_mem, List.mem_cons]
    grind
theorem mk_asc (l : List Int) : ∀ out : List Int, out.Pairwise (· < ·) → (mk l out).Pairwise (· < ·) := by
  induction l with
  | nil => intro out h; exact h
  | cons x t ih => intro out h; exact ih _ (ins_asc x out h)

theorem ins_eq (c : Int) : ∀ out : List Int, E.ins out c = ins c out
  | [] => by simp [E.ins, kpos, ins]
  | y :: t => by
    have ih := ins_eq c t
    by_cases h : y < c
    · have hk : kpos (y :: t) c = kpos t c + 1 := by simp [kpos, List.takeWhile_cons, h]
      simp only [ins, if_pos h]
      rw [← ih]
      unfold E.ins
      rw [hk]
      by_cases hc : kpos t c = t.length ∨ t[kpos t c]? ≠ some c
      · rw [if_pos hc, if_pos (by simpa using hc)]; simp
      · rw [if_neg hc, if_neg (by simpa using hc)]
    · have hk : kpos (y :: t) c = 0 := by simp [kpos, List.takeWhile_cons, h]
      simp only [ins, if_neg h]
      unfold E.ins
      rw [hk]
      by_cases hy : y = c
      · subst hy; simp
      · simp [hy]
theorem mk_eq (l : List Int) : ∀ out : List Int, l.foldl E.ins out = mk l out := by
  induction l with
  | nil => intro out; rfl
  | cons x t ih =>
    intro out
    rw [List.foldl_cons, ih, ins_eq]; rfl
theorem orr_mem (a b : List Int) (c : Int) : c ∈ orr a b ↔ c ∈ a ∨ c ∈ b := by
  have : orr a b = mk (a ++ b) [] := mk_eq _ _
  rw [this, mk_mem]; simp
theorem orr_asc (a b : List Int) : Asc (orr a b) := by
  have : orr a b = mk (a ++ b) [] := mk_eq _ _
  rw [this]; exact mk_asc _ _ List.Pairwise.nil
theorem fil_mem (a : List Int) (c x : Int) : x ∈ fil false a [c] ↔ x ∈ a ∧ x ≠ c := by
  simp [fil]
theorem fil_asc {a : List Int} (q : Bool) (b : List Int) (h : Asc a) : Asc (fil q a b) := h.filter _

def turns2 (s i o s' i' : List Int) : Bool := sub s s' && sub i' (un i o)
def sees2 (s i o s' i' : List Int) : Bool := sub s' (un s o) && sub i i'
def rises2 (s i o s' i' o' : List Int) : Int := if sub o' o = false then 5 else if turns2 s i o s' i' = false then 6 else 0
def makes2 (s i o s' i' o' : List Int) : Int := if 0 < o'.length then 5 else if turns2 s i o s' i' = false then 6 else 0
theorem sees2_iff {s i o s' i' : List Int} (h1 : Asc s) (h2 : Asc i) (h3 : Asc o) (h4 : Asc s') (h5 : Asc i') : sees2 s i o s' i' = true ↔ (∀ c ∈ s', c ∈ s ∨ c ∈ o) ∧ (∀ c ∈ i, c ∈ i') := by
  unfold sees2
  rw [Bool.and_eq_true, sub_iff h4 (un_asc h1 h3), sub_iff h2 h5]
  simp only [un_mem h1 h3]
theorem turns2_iff {s i o s' i' : List Int} (h1 : Asc s) (h2 : Asc i) (h3 : Asc o) (h4 : Asc s') (h5 : Asc i') : turns2 s i o s' i' = true ↔ (∀ c ∈ s, c ∈ s') ∧ (∀ c ∈ i', c ∈ i ∨ c ∈ o) := by
  unfold turns2
  rw [Bool.and_eq_true, sub_iff h1 h4, sub_iff h5 (un_asc h2 h3)]
  simp only [un_mem h2 h3]
section
variable {s i o s' i' : List Int} (c : Int) (h1 : Asc s) (h2 : Asc i) (h3 : Asc o) (h4 : Asc s') (h5 : Asc i')
include h1 h2 h3 h4 h5
theorem own_sees : sees2 (fil false s [c]) (fil false i [c]) (orr o [c]) (fil false s' [c]) (fil false i' [c]) = sees2 (fil false s [c]) (fil false i [c]) (orr o [c]) s' i' := by
  rw [Bool.eq_iff_iff, sees2_iff (fil_asc _ _ h1) (fil_asc _ _ h2) (orr_asc ..) (fil_asc _ _ h4) (fil_asc _ _ h5), sees2_iff (fil_asc _ _ h1) (fil_asc _ _ h2) (orr_asc ..) h4 h5]
  simp only [fil_mem, orr_mem, List.mem_singleton]
  grind
theorem own_turns : turns2 (fil false s [c]) (fil false i [c]) (orr o [c]) (fil false s' [c]) (fil false i' [c]) = turns2 (fil false s [c]) (fil false i [c]) (orr o [c]) s' i' := by
  rw [Bool.eq_iff_iff, turns2_iff (fil_asc _ _ h1) (fil_asc _ _ h2) (orr_asc ..) (fil_asc _ _ h4) (fil_asc _ _ h5), turns2_iff (fil_asc _ _ h1) (fil_asc _ _ h2) (orr_asc ..) h4 h5]
  simp only [fil_mem, orr_mem, List.mem_singleton]
  grind
theorem sees_own (h : sees2 s i o s' i' = true) : sees2 (fil false s [c]) (fil false i [c]) (orr o [c]) s' i' = true := by
  rw [sees2_iff h1 h2 h3 h4 h5] at h
  rw [sees2_iff (fil_asc _ _ h1) (fil_asc _ _ h2) (orr_asc ..) h4 h5]
  simp only [fil_mem, orr_mem, List.mem_singleton]
  grind
theorem turns_own (h : turns2 s i o s' i' = true) : turns2 (fil false s [c]) (fil false i [c]) (orr o [c]) s' i' = true := by
  rw [turns2_iff h1 h2 h3 h4 h5] at h
  rw [turns2_iff (fil_asc _ _ h1) (fil_asc _ _ h2) (orr_asc ..) h4 h5]
  simp only [fil_mem, orr_mem, List.mem_singleton]
  grind
end
end Go.Proofs.YtfgndnackofenaaW.E.PM

/-
  Bytes and numbers, in plain Lean. No condition.
-/
namespace Go.Proofs.YtfgndnackofenaaW.E
open Go Go.RowKit
set_option linter.unusedVariables false
set_option linter.unusedSimpArgs false

@[reducible] def l8 (l : List Int) : AV := .list 1 (l.map u8) .no
@[reducible] def f8 (l : List Int) : AV := .list 1 (l.map u8) fresh
@[reducible] def u64 (c : Int) : AV := .val (.int .u64 c)
/-- A number out of the first bytes. -/
def tkv (b : List Int) : Nat → Int
  | 0 => 0
  | j + 1 => IntKind.u64.wrap ((BitVec.ofInt IntKind.u64.bits (IntKind.u64.wrap (tkv b j * 2 ^ (min (8 : Int).toNat IntKind.u64.bits)))) ||| BitVec.ofInt IntKind.u64.bits (IntKind.u64.wrap (b.getD j 0))).toNat
/-- A number's bytes, the highest first. -/
def byteAt (v : Int) (j : Nat) : Int := IntKind.u8.wrap (v.fdiv (2 ^ (min (8 * j) IntKind.u64.bits)))
def pb (v : Int) : Nat → List Int
  | 0 => []
  | j + 1 => byteAt v j :: pb v j
theorem pb_len (v : Int) : ∀ n, (pb v n).length = n
  | 0 => rfl
  | n + 1 => by simp [pb, pb_len v n]
theorem u64_nat {n : Nat} (h : n < 9223372036854775807) : IntKind.u64.wrap (n : Int) = n := by
  simp [IntKind.wrap, IntKind.bits]; omega
end Go.Proofs.YtfgndnackofenaaW.E

/-
  Labels as lists of pairs, in plain Lean. No condition.
-/
namespace Go.Proofs.YtfgndnackofenaaW.E
open Go Go.RowKit
set_option linter.unusedVariables false
set_option linter.unusedSimpArgs false

@[reducible] def lps (l : List Pr) : AV := .list 2 (l.map prA) .no
/-- The i-th pair stands well: its level is at most m and not the default; the categories rise. -/
def okAt (d m : Int) (l : List Pr) (i : Nat) : Bool :=
  match l[i]? with
  | some p => decide (p.l ≤ m) && !decide (p.l = d) && (decide (i = 0) || decide ((l.getD (i - 1) ⟨0, 0⟩).c < p.c))
  | none => true
def okN (d m : Int) (l : List Pr) (n : Nat) : Bool := (List.range n).all (okAt d m l)
theorem okN_succ (d m : Int) (l : List Pr) (n : Nat) : okN d m l (n + 1) = (okN d m l n && okAt d m l n) := by
  simp [okN, List.range_succ]
theorem okN_false (d m : Int) (l : List Pr) : ∀ (n k : Nat), n ≤ k → okN d m l n = false → okN d m l k = false := fun n k h h2 => by
  induction k with
  | zero => have : n = 0 := by omega
            subst this; exact h2
  | succ k ih =>
    rw [okN_succ]
    by_cases e : n = k + 1
    · subst e; rw [← okN_succ]; exact h2
    · rw [ih (by omega)]; rfl
theorem okAt_lt {d m : Int} {l : List Pr} {i : Nat} (h : i < l.length) : okAt d m l i = (decide (l[i].l ≤ m) && !decide (l[i].l = d) && (decide (i = 0) || decide ((l[i - 1]'(by omega)).c < l[i].c))) := by
  unfold okAt
  rw [List.getElem?_eq_getElem h]
  simp [List.getD_eq_getElem?_getD, show i - 1 < l.length by omega]
def mayL (d : Int) (l : List Pr) : Bool := decide (1 ≤ d) && decide (d ≤ 4) && decide (l.length ≤ 16) && okN d 4 l l.length
end Go.Proofs.YtfgndnackofenaaW.E

/-
  Labels as lists of pairs: the document's answer. In plain Lean. No condition.
-/
namespace Go.Proofs.YtfgndnackofenaaW.E
open Go Go.RowKit
set_option linter.unusedVariables false
set_option linter.unusedSimpArgs false

theorem okN_iff (d m : Int) (l : List Pr) : ∀ n, okN d m l n = true ↔ ∀ i, i < n → okAt d m l i = true
  | 0 => by simp [okN]
  | n + 1 => by
    rw [okN_succ, Bool.and_eq_true, okN_iff d m l n]
    constructor
    · rintro ⟨h1, h2⟩ i hi
      by_cases e : i = n
      · subst e; exact h2
      · exact h1 i (by omega)
    · exact fun h => ⟨fun i hi => h i (by omega), h n (by omega)⟩
/-- The levels of the first n are at most 4. -/
def lv4 (l : List Pr) (n : Nat) : Bool := (l.take n).all fun p => decide (p.l ≤ 4)
theorem lv4_succ (l : List Pr) (n : Nat) (h : n < l.length) : lv4 l (n + 1) = (lv4 l n && decide (l[n].l ≤ 4)) := by
  unfold lv4; rw [take_snoc l n h, List.all_append]; simp only [List.all_cons, List.all_nil, Bool.and_true]
theorem lv4_false (l : List Pr) (n : Nat) (h : lv4 l n = false) : lv4 l l.length = false := by
  unfold lv4 at h ⊢
  rw [List.take_length]
  rw [List.all_eq_false] at h ⊢
  obtain ⟨x, hx, h⟩ := h
  exact ⟨x, List.mem_of_mem_take hx, h⟩
def canon (d : Int) (l : List Pr) : Bool := decide (d ≤ 5) && okN d 5 l l.length
theorem mayL_canon (d : Int) (l : List Pr) : mayL d l = (canon d l && decide (1 ≤ d) && decide (d ≤ 4) && decide (l.length ≤ 16) && lv4 l l.length) := by
  rw [Bool.eq_iff_iff]
  simp only [mayL, canon, Bool.and_eq_true, decide_eq_true_eq, okN_iff, lv4, List.take_length, List.all_eq_true]
  constructor
  · rintro ⟨⟨⟨h1, h2⟩, h3⟩, h4⟩
    refine ⟨⟨⟨⟨⟨by omega, fun i hi => ?_⟩, h1⟩, h2⟩, h3⟩, fun p hp => ?_⟩
    · have := h4 i hi
      rw [okAt_lt hi] at this ⊢
      simp only [Bool.and_eq_true, decide_eq_true_eq] at this ⊢
      exact ⟨⟨by omega, this.1.2⟩, this.2⟩
    · obtain ⟨i, hi, rfl⟩ := List.mem_iff_getElem.1 hp
      have := h4 i hi
      rw [okAt_lt hi] at this
      simp only [Bool.and_eq_true, decide_eq_true_eq] at this
      exact this.1.1
  · rintro ⟨⟨⟨⟨⟨_, h4⟩, h1⟩, h2⟩, h3⟩, h5⟩
    refine ⟨⟨⟨h1, h2⟩, h3⟩, fun i hi => ?_⟩
    have := h4 i hi
    have h6 := h5 _ (List.getElem_mem hi)
    rw [okAt_lt hi] at this ⊢
    simp only [Bool.and_eq_true, decide_eq_true_eq] at this ⊢
    exact ⟨⟨h6, this.1.2⟩, this.2⟩
end Go.Proofs.YtfgndnackofenaaW.E

/-
  Labels as bytes, in plain Lean. No condition.
-/
namespace Go.Proofs.YtfgndnackofenaaW.E
open Go Go.RowKit
set_option linter.unusedVariables false
set_option linter.unusedSimpArgs false

/-- A pair's bytes; a label's. -/
def enp (p : Pr) : List Int := pb (IntKind.u64.wrap p.c) 2 ++ pb (IntKind.u64.wrap p.l) 1
def enc (d : Int) (l : List Pr) : List Int := pb (IntKind.u64.wrap d) 1 ++ pb (IntKind.u64.wrap l.length) 1 ++ l.flatMap enp
theorem enp_len (p : Pr) : (enp p).length = 3 := by simp [enp, pb_len]
theorem encs_len : ∀ l : List Pr, (l.flatMap enp).length = 3 * l.length
  | [] => rfl
  | p :: l => by rw [List.flatMap_cons, List.length_append, enp_len, encs_len l, List.length_cons]; omega
theorem enc_len (d : Int) (l : List Pr) : (enc d l).length = 2 + 3 * l.length := by
  simp only [enc, List.length_append, pb_len, encs_len]
end Go.Proofs.YtfgndnackofenaaW.E

/-
  Labels out of bytes, in plain Lean. No condition.
-/
namespace Go.Proofs.YtfgndnackofenaaW.E
open Go Go.RowKit
set_option linter.unusedVariables false
set_option linter.unusedSimpArgs false

def isB (x : Int) : Prop := 0 ≤ x ∧ x < 256
/-- The j-th pair that the bytes say. -/
def prB (b : List Int) (j : Nat) : Pr := ⟨IntKind.u16.wrap (tkv (b.drop (2 + 3 * j)) 2), b.getD (4 + 3 * j) 0⟩
def tps (b : List Int) (n : Nat) : List Pr := (List.range n).map (prB b)
theorem tps_succ (b : List Int) (n : Nat) : tps b (n + 1) = tps b n ++ [prB b n] := by simp [tps, List.range_succ]
theorem tps_len (b : List Int) (n : Nat) : (tps b n).length = n := by simp [tps]
def kB (b : List Int) : Nat := (b.getD 1 0).toNat
def longB (b : List Int) : Bool := decide (2 ≤ b.length) && decide (2 + 3 * kB b ≤ b.length)
def goodB (b : List Int) : Bool := longB b && mayL (b.getD 0 0) (tps b (kB b))
def tkD (b : List Int) : Int := if goodB b then b.getD 0 0 else 0
def tkL (b : List Int) : List Pr := if goodB b then tps b (kB b) else []
def tkN (b : List Int) : Int := if goodB b then ((2 + 3 * kB b : Nat) : Int) else 0
def tkE (b : List Int) : Int := if goodB b then 0 else if longB b then 2 else 3

theorem wrap64 {x : Int} (h : 0 ≤ x) (h2 : x < 9223372036854775808) : IntKind.u64.wrap x = x := by simp [IntKind.wrap, IntKind.bits]; omega
theorem wrap16 {x : Int} (h : 0 ≤ x) (h2 : x < 65536) : IntKind.u16.wrap x = x := by simp [IntKind.wrap, IntKind.bits, IntKind.signed]; omega
theorem wrap8 {x : Int} (h : isB x) : IntKind.u8.wrap x = x := by obtain ⟨h, h2⟩ := h; simp [IntKind.wrap, IntKind.bits, IntKind.signed]; omega
theorem or_lo (x y : Nat) (hx : x < 256) (hy : y < 256) : (BitVec.ofInt 64 ((x * 256 : Nat) : Int) ||| BitVec.ofInt 64 ((y : Nat) : Int)).toNat = x * 256 + y := by
  rw [BitVec.toNat_or, BitVec.ofInt_natCast, BitVec.ofInt_natCast, BitVec.toNat_ofNat, BitVec.toNat_ofNat, Nat.mod_eq_of_lt (by omega), Nat.mod_eq_of_lt (by omega)]
  have := Nat.shiftLeft_add_eq_or_of_lt (b := y) (i := 8) (by omega) x
  rw [Nat.shiftLeft_eq] at this
  exact this.symm
theorem tkv2 (x y : Int) (l : List Int) (hx : isB x) (hy : isB y) : tkv (x :: y :: l) 2 = x * 256 + y := by
  obtain ⟨hx1, hx2⟩ := hx
  obtain ⟨hy1, hy2⟩ := hy
  obtain ⟨a, rfl⟩ : ∃ n : Nat, x = n := ⟨x.toNat, by omega⟩
  obtain ⟨c, rfl⟩ : ∃ n : Nat, y = n := ⟨y.toNat, by omega⟩
  have e1 : tkv ((a : Int) :: (c : Int) :: l) 1 = a := by
    simp only [tkv, List.getD_cons_zero]
    have h0 : IntKind.u64.wrap (0 * 2 ^ min (8 : Int).toNat IntKind.u64.bits) = ((0 * 256 : Nat) : Int) := by rw [Int.zero_mul]; rfl
    rw [h0, wrap64 (x := (a : Int)) (by omega) (by omega)]
    show IntKind.u64.wrap ((BitVec.ofInt 64 ((0 * 256 : Nat) : Int) ||| BitVec.ofInt 64 (a : Int)).toNat : Int) = a
    rw [or_lo 0 a (by omega) (by omega), wrap64 (by omega) (by omega)]; omega
  rw [show (2 : Nat) = 1 + 1 from rfl, tkv, e1]
  simp only [List.getD_cons_succ, List.getD_cons_zero]
  have h0 : IntKind.u64.wrap ((a : Int) * 2 ^ min (8 : Int).toNat IntKind.u64.bits) = ((a * 256 : Nat) : Int) := by
    have : (2 : Int) ^ min (8 : Int).toNat IntKind.u64.bits = 256 := by decide
    rw [this, wrap64 (by omega) (by omega)]; omega
  rw [h0, wrap64 (x := (c : Int)) (by omega) (by omega)]
  show IntKind.u64.wrap ((BitVec.ofInt 64 ((a * 256 : Nat) : Int) ||| BitVec.ofInt 64 (c : Int)).toNat : Int) = a * 256 + c
  rw [or_lo a c (by omega) (by omega), wrap64 (by omega) (by omega)]; omega

/-- A pair's bytes, plainly. -/
def enS (p : Pr) : List Int := [p.c / 256, p.c % 256, p.l]
def encS (d : Int) (l : List Pr) : List Int := [d, (l.length : Int)] ++ l.flatMap enS
def wfP (p : Pr) : Prop := 0 ≤ p.c ∧ p.c < 65536 ∧ isB p.l
theorem pb1 {x : Int} (h : isB x) : pb (IntKind.u64.wrap x) 1 = [x] := by
  have h' := h
  obtain ⟨h1, h2⟩ := h'
  rw [wrap64 h1 (by omega)]
  simp only [pb, byteAt]
  have : (2 : Int) ^ min (8 * 0) IntKind.u64.bits = 1 := by decide
  rw [this, Int.fdiv_one, wrap8 h]
theorem pb2 {x : Int} (h1 : 0 ≤ x) (h2 : x < 65536) : pb (IntKind.u64.wrap x) 2 = [x / 256, x % 256] := by
  rw [wrap64 h1 (by omega)]
  simp only [pb, byteAt]
  have e1 : (2 : Int) ^ min (8 * 0) IntKind.u64.bits = 1 := by decide
  have e2 : (2 : Int) ^ min (8 * 1) IntKind.u64.bits = 256 := by decide
  rw [e1, e2, Int.fdiv_one, Int.fdiv_eq_ediv_of_nonneg _ (by omega)]
  rw [wrap8 (x := x / 256) ⟨by omega, by omega⟩]
  have e3 : IntKind.u8.wrap x = x % 256 := by simp [IntKind.wrap, IntKind.bits, IntKind.signed]
  rw [e3]
theorem enp_S {p : Pr} (h : wfP p) : enp p = enS p := by
  obtain ⟨h1, h2, h3⟩ := h
  simp [enp, pb2 h1 h2, pb1 h3, enS]
theorem fm_congr {f g : Pr → List Int} : ∀ {l : List Pr}, (∀ p ∈ l, f p = g p) → l.flatMap f = l.flatMap g
  | [], _ => rfl
  | p :: l, h => by rw [List.flatMap_cons, List.flatMap_cons, h p List.mem_cons_self, fm_congr fun q hq => h q (List.mem_cons_of_mem _ hq)]
theorem enc_S {d : Int} {l : List Pr} (hd : isB d) (hl : l.length < 256) (h : ∀ p ∈ l, wfP p) : enc d l = encS d l := by
  unfold enc encS
  rw [pb1 hd, pb1 ⟨by omega, by omega⟩, fm_congr fun p hp => enp_S (h p hp)]
  rfl
theorem enS_len (p : Pr) : (enS p).length = 3 := rfl
theorem fmS_len : ∀ l : List Pr, (l.flatMap enS).length = 3 * l.length
  | [] => rfl
  | p :: l => by rw [List.flatMap_cons, List.length_append, fmS_len l, List.length_cons, enS_len]; omega
theorem encS_len (d : Int) (l : List Pr) : (encS d l).length = 2 + 3 * l.length := by
  unfold encS; rw [List.length_append, fmS_len]; rfl
/-- The bytes from the j-th pair on. -/
theorem fmS_drop (m : List Int) : ∀ (l : List Pr) (j : Nat) (h : j < l.length), (l.flatMap enS ++ m).drop (3 * j) = enS l[j] ++ ((l.drop (j + 1)).flatMap enS ++ m)
  | p :: l, 0, _ => by simp
  | p :: l, j + 1, h => by
    have ih := fmS_drop m l j (by simpa using h)
    rw [List.flatMap_cons, List.append_assoc, show 3 * (j + 1) = 3 + 3 * j by omega, ← List.drop_drop, List.drop_left' (by rfl), ih]
    simp
theorem encS_drop (d : Int) (l : List Pr) (m : List Int) (j : Nat) (h : j < l.length) : (encS d l ++ m).drop (2 + 3 * j) = enS l[j] ++ ((l.drop (j + 1)).flatMap enS ++ m) := by
  unfold encS
  rw [List.append_assoc, ← List.drop_drop]
  exact fmS_drop m l j h
theorem getD_drop (b : List Int) (n i : Nat) : b.getD (n + i) 0 = (b.drop n).getD i 0 := by simp [List.getD_eq_getElem?_getD, List.getElem?_drop]
theorem prB_enc (d : Int) (l : List Pr) (m : List Int) (j : Nat) (h : j < l.length) (hw : wfP l[j]) : prB (encS d l ++ m) j = l[j] := by
  have e := encS_drop d l m j h
  obtain ⟨h1, h2, h3⟩ := hw
  unfold prB
  rw [show 4 + 3 * j = (2 + 3 * j) + 2 by omega, getD_drop, e]
  have : tkv (enS l[j] ++ ((l.drop (j + 1)).flatMap enS ++ m)) 2 = l[j].c := by
    simp only [enS, List.cons_append]
    rw [tkv2 _ _ _ ⟨by omega, by omega⟩ ⟨by omega, by omega⟩]; omega
  rw [this]
  have e2 : IntKind.u16.wrap l[j].c = l[j].c := by simp [IntKind.wrap, IntKind.bits, IntKind.signed]; omega
  rw [e2]
  rfl
theorem tps_enc (d : Int) (l : List Pr) (m : List Int) (hw : ∀ p ∈ l, wfP p) : tps (encS d l ++ m) l.length = l := by
  apply List.ext_getElem?
  intro j
  unfold tps
  by_cases h : j < l.length
  · rw [List.getElem?_map, List.getElem?_range h]
    simp only [Option.map_some, prB_enc d l m j h (hw _ (List.getElem_mem h)), h, List.getElem?_eq_getElem]
  · simp [h]
/-- What is put is taken. -/
theorem take_enc (d : Int) (l : List Pr) (m : List Int) (hw : ∀ p ∈ l, wfP p) (hm : mayL d l = true) : let b := encS d l ++ m
    goodB b = true ∧ tkD b = d ∧ tkL b = l ∧ tkN b = ((2 + 3 * l.length : Nat) : Int) ∧ tkE b = 0 := by
  have k : kB (encS d l ++ m) = l.length := by simp [kB, encS]
  have d0 : (encS d l ++ m).getD 0 0 = d := by simp [encS]
  have t := tps_enc d l m hw
  have hl : (encS d l ++ m).length = 2 + 3 * l.length + m.length := by rw [List.length_append, encS_len]
  have hg : goodB (encS d l ++ m) = true := by
    simp only [goodB, longB, k, t, d0, hm, Bool.and_true, Bool.and_eq_true, decide_eq_true_eq]; omega
  refine ⟨hg, ?_, ?_, ?_, ?_⟩
  · simp only [tkD, hg, if_true, d0]
  · simp only [tkL, hg, if_true, k, t]
  · simp only [tkN, hg, if_true, k]
  · simp only [tkE, hg, if_true]
/-- What is cut off is short. -/
theorem take_cut (d : Int) (l : List Pr) (n : Nat) (h : n < 2 + 3 * l.length) : tkE ((encS d l).take n) = 3 := by
  have hl := encS_len d l
  have hlong : longB ((encS d l).take n) = false := by
    unfold longB
    rw [List.length_take]
    by_cases h2 : 2 ≤ n
    · have k : kB ((encS d l).take n) = l.length := by
        unfold kB
        rw [List.getD_eq_getElem?_getD, List.getElem?_take_of_lt (by omega)]
        simp [encS]
      rw [k]
      simp; omega
    · simp; omega
  simp [tkE, goodB, hlong]
/-- What is taken is put as it was. -/
theorem enc_take (b : List Int) (hb : ∀ x ∈ b, isB x) (h : goodB b = true) : encS (tkD b) (tkL b) = b.take (2 + 3 * kB b) := by
  have h' := h
  simp only [goodB, longB, Bool.and_eq_true, decide_eq_true_eq] at h'
  obtain ⟨⟨h1, h2⟩, _⟩ := h'
  have hB : ∀ j, j < b.length → isB (b.getD j 0) := fun j hj => by
    rw [List.getD_eq_getElem?_getD, List.getElem?_eq_getElem hj]; exact hb _ (List.getElem_mem hj)
  have hk := hB 1 (by omega)
  have hk' : ((kB b : Nat) : Int) = b.getD 1 0 := by unfold kB; have := hk.1; omega
  simp only [tkD, tkL, h, if_true]
  have key : ∀ n, 2 + 3 * n ≤ b.length → [b.getD 0 0, b.getD 1 0] ++ (tps b n).flatMap enS = b.take (2 + 3 * n) := by
    intro n
    induction n with
    | zero =>
      intro _
      match b, h1 with
      | x :: y :: b, _ => simp [tps]
    | succ n ih =>
      intro hn
      have hsplit : b.take (2 + 3 * (n + 1)) = b.take (2 + 3 * n) ++ [b.getD (2 + 3 * n) 0, b.getD (2 + 3 * n + 1) 0, b.getD (2 + 3 * n + 2) 0] := by
        rw [show 2 + 3 * (n + 1) = 2 + 3 * n + 1 + 1 + 1 by omega]
        rw [take_snoc b (2 + 3 * n + 1 + 1) (by omega), take_snoc b (2 + 3 * n + 1) (by omega), take_snoc b (2 + 3 * n) (by omega)]
        simp only [List.append_assoc, List.cons_append, List.nil_append]
        simp [List.getD_eq_getElem?_getD, show 2 + 3 * n < b.length by omega, show 2 + 3 * n + 1 < b.length by omega, show 2 + 3 * n + 2 < b.length by omega]
      rw [tps_succ, List.flatMap_append, ← List.append_assoc, ih (by omega), hsplit]
      congr 1
      simp only [List.flatMap_cons, List.flatMap_nil, List.append_nil]
      have ha := hB (2 + 3 * n) (by omega)
      have hc := hB (2 + 3 * n + 1) (by omega)
      have hd : b.drop (2 + 3 * n) = b.getD (2 + 3 * n) 0 :: b.getD (2 + 3 * n + 1) 0 :: b.drop (2 + 3 * n + 2) := by
        rw [List.drop_eq_getElem_cons (by omega), List.drop_eq_getElem_cons (by omega)]
        simp [List.getD_eq_getElem?_getD, show 2 + 3 * n < b.length by omega, show 2 + 3 * n + 1 < b.length by omega]
      unfold enS prB
      rw [hd, tkv2 _ _ _ ha hc, show 4 + 3 * n = 2 + 3 * n + 2 by omega]
      obtain ⟨a1, a2⟩ := ha
      obtain ⟨c1, c2⟩ := hc
      have e : IntKind.u16.wrap (b.getD (2 + 3 * n) 0 * 256 + b.getD (2 + 3 * n + 1) 0) = b.getD (2 + 3 * n) 0 * 256 + b.getD (2 + 3 * n + 1) 0 := wrap16 (by omega) (by omega)
      simp only [e]
      congr 1
      · omega
      · congr 1
        omega
  have := key (kB b) h2
  unfold encS
  rw [tps_len, hk']
  exact this
/-- Two labels with one text are one. -/
theorem encS_inj {d d' : Int} {l l' : List Pr} (hw : ∀ p ∈ l, wfP p) (hw' : ∀ p ∈ l', wfP p) (h : encS d l = encS d' l') : d = d' ∧ l = l' := by
  have h0 : d = d' := by have := congrArg (fun x => x.getD 0 0) h; simpa [encS] using this
  have h1 : l.length = l'.length := by have := congrArg List.length h; rw [encS_len, encS_len] at this; omega
  have e1 := tps_enc d l [] hw
  have e2 := tps_enc d' l' [] hw'
  rw [h, h1, e2] at e1
  exact ⟨h0, e1.symm⟩
theorem mem_take_enc {d : Int} {l : List Pr} (hd : isB d) (hl : l.length < 256) (hw : ∀ p ∈ l, wfP p) : ∀ x ∈ encS d l, isB x := by
  intro x hx
  unfold encS at hx
  simp only [List.mem_append, List.mem_cons, List.not_mem_nil, or_false, List.mem_flatMap] at hx
  rcases hx with (rfl | rfl) | ⟨p, hp, hx⟩
  · exact hd
  · exact ⟨by omega, by omega⟩
  · obtain ⟨a1, a2, a3⟩ := hw p hp
    simp only [enS, List.mem_cons, List.not_mem_nil, or_false] at hx
    rcases hx with rfl | rfl | rfl
    · exact ⟨by omega, by omega⟩
    · exact ⟨by omega, by omega⟩
    · exact a3
/-- Bytes as a string. -/
theorem bcat_data (ns : List Int) (hb : ∀ x ∈ ns, isB x) : (bcat ns).data.toList.map (fun x => (x.toNat : Int)) = ns := by
  have key : ∀ (ns : List Int) (r : ByteArray), (∀ x ∈ ns, isB x) → (ns.foldl (fun r n => r.push (UInt8.ofNat n.toNat)) r).data.toList.map (fun x => (x.toNat : Int)) = r.data.toList.map (fun x => (x.toNat : Int)) ++ ns := by
    intro ns
    induction ns with
    | nil => intro r _; simp
    | cons n ns ih =>
      intro r h
      rw [List.foldl_cons, ih _ (fun x hx => h x (List.mem_cons_of_mem _ hx))]
      obtain ⟨h1, h2⟩ := h n List.mem_cons_self
      have : ((UInt8.ofNat n.toNat).toNat : Int) = n := by
        rw [UInt8.toNat_ofNat']; omega
      simp only [ByteArray.push, Array.toList_push, List.map_append, List.map_cons, List.map_nil, this, List.append_assoc, List.cons_append, List.nil_append]
  have := key ns ByteArray.empty hb
  simpa [bcat] using this
theorem bcat_inj {a b : List Int} (ha : ∀ x ∈ a, isB x) (hb : ∀ x ∈ b, isB x) (h : bcat a = bcat b) : a = b := by
  rw [← bcat_data a ha, ← bcat_data b hb, h]
end Go.Proofs.YtfgndnackofenaaW.E

/-
  Labels: what stands at a category; two labels walked through together; flows. In plain Lean. No condition.
-/
namespace Go.Proofs.YtfgndnackofenaaW.E
open Go Go.RowKit
set_option linter.unusedVariables false
set_option linter.unusedSimpArgs false

def at_ (d : Int) : List Pr → Int → Int
  | [], _ => d
  | p :: l, c => if p.c = c then p.l else at_ d l c
def cs (l : List Pr) : List Int := l.map fun p => p.c
theorem at_not {d : Int} : ∀ {l : List Pr} {c : Int}, c ∉ cs l → at_ d l c = d
  | [], _, _ => rfl
  | p :: l, c, h => by
    simp only [cs, List.map_cons, List.mem_cons, not_or] at h
    rw [at_, if_neg (fun e => h.1 e.symm)]
    exact at_not h.2
/-- Categories rise. -/
def ascP : List Pr → Prop
  | [] => True
  | p :: l => (∀ q ∈ l, p.c < q.c) ∧ ascP l
theorem ascP_get : ∀ {l : List Pr}, (∀ i, i + 1 < l.length → (l.getD i ⟨0, 0⟩).c < (l.getD (i + 1) ⟨0, 0⟩).c) → ascP l
  | [], _ => trivial
  | [p], _ => ⟨by simp, trivial⟩
  | p :: q :: l, h => by
    have ih : ascP (q :: l) := ascP_get (fun i hi => by have := h (i + 1) (by simp at hi ⊢; omega); simpa using this)
    have h0 : p.c < q.c := by have := h 0 (by simp); simpa using this
    refine ⟨fun r hr => ?_, ih⟩
    rcases List.mem_cons.1 hr with rfl | hr
    · exact h0
    · have := ih.1 r hr; omega
theorem canon_spec {d : Int} {l : List Pr} (h : canon d l = true) : d ≤ 5 ∧ ascP l ∧ ∀ p ∈ l, p.l ≤ 5 ∧ p.l ≠ d := by
  simp only [canon, Bool.and_eq_true, decide_eq_true_eq, okN_iff] at h
  obtain ⟨h1, h2⟩ := h
  refine ⟨h1, ascP_get fun i hi => ?_, fun p hp => ?_⟩
  · have := h2 (i + 1) hi
    rw [okAt_lt hi] at this
    simp only [Bool.and_eq_true, Bool.or_eq_true, decide_eq_true_eq, Nat.add_sub_cancel] at this
    have h3 := this.2
    simp only [List.getD_eq_getElem?_getD, List.getElem?_eq_getElem hi, List.getElem?_eq_getElem (show i < l.length by omega), Option.getD_some]
    rcases h3 with h3 | h3
    · omega
    · exact h3
  · obtain ⟨i, hi, rfl⟩ := List.mem_iff_getElem.1 hp
    have := h2 i hi
    rw [okAt_lt hi] at this
    simp only [Bool.and_eq_true, Bool.not_eq_true', decide_eq_true_eq, decide_eq_false_iff_not] at this
    exact this.1
theorem canon_of {d : Int} {l : List Pr} (h1 : d ≤ 5) (h2 : ascP l) (h3 : ∀ p ∈ l, p.l ≤ 5 ∧ p.l ≠ d) : canon d l = true := by
  simp only [canon, Bool.and_eq_true, decide_eq_true_eq, okN_iff]
  refine ⟨h1, fun i hi => ?_⟩
  rw [okAt_lt hi]
  obtain ⟨a, b⟩ := h3 _ (List.getElem_mem hi)
  simp only [Bool.and_eq_true, Bool.or_eq_true, Bool.not_eq_true', decide_eq_true_eq, decide_eq_false_iff_not]
  refine ⟨⟨a, b⟩, ?_⟩
  have key : ∀ (l : List Pr), ascP l → ∀ (i j : Nat) (hi : i < l.length) (hj : j < l.length), i < j → l[i].c < l[j].c := by
    intro l
    induction l with
    | nil => intro _ i j hi; simp at hi
    | cons p l ih =>
      intro h i j hi hj hij
      cases j with
      | zero => omega
      | succ j =>
        cases i with
        | zero => exact h.1 _ (List.getElem_mem (by simpa using hj))
        | succ i => exact ih h.2 i j (by simpa using hi) (by simpa using hj) (by omega)
  rcases Nat.eq_zero_or_pos i with h0 | h0
  · exact .inl h0
  · exact .inr (key l h2 (i - 1) i (by omega) hi (by omega))
theorem mayL_spec {d : Int} {l : List Pr} (h : mayL d l = true) : canon d l = true ∧ 1 ≤ d ∧ d ≤ 4 ∧ l.length ≤ 16 ∧ ascP l ∧ ∀ p ∈ l, p.l ≤ 4 ∧ p.l ≠ d := by
  have h' := h
  rw [mayL_canon] at h'
  simp only [Bool.and_eq_true, decide_eq_true_eq, lv4, List.take_length, List.all_eq_true] at h'
  obtain ⟨⟨⟨⟨a, b⟩, c⟩, e⟩, f⟩ := h'
  have := canon_spec a
  exact ⟨a, b, c, e, this.2.1, fun p hp => ⟨f p hp, (this.2.2 p hp).2⟩⟩
theorem at_mem {d : Int} : ∀ {l : List Pr}, ascP l → ∀ p ∈ l, at_ d l p.c = p.l
  | [], _, _, h => by cases h
  | q :: l, h, p, hp => by
    rcases List.mem_cons.1 hp with rfl | hp
    · rw [at_, if_pos rfl]
    · have := h.1 p hp
      rw [at_, if_neg (by omega)]
      exact at_mem h.2 p hp
theorem at_cases (d : Int) : ∀ (l : List Pr) (c : Int), (c ∉ cs l ∧ at_ d l c = d) ∨ ∃ p ∈ l, p.c = c ∧ at_ d l c = p.l
  | [], c => .inl ⟨by simp [cs], rfl⟩
  | q :: l, c => by
    by_cases h : q.c = c
    · exact .inr ⟨q, List.mem_cons_self, h, by rw [at_, if_pos h]⟩
    · rcases at_cases d l c with ⟨h1, h2⟩ | ⟨p, h1, h2, h3⟩
      · exact .inl ⟨by simp only [cs, List.map_cons, List.mem_cons, not_or]; exact ⟨fun e => h e.symm, h1⟩, by rw [at_, if_neg h]; exact h2⟩
      · exact .inr ⟨p, List.mem_cons_of_mem _ h1, h2, by rw [at_, if_neg h]; exact h3⟩
theorem at_out (d : Int) (l : List Pr) {c : Int} (h : ∀ q ∈ l, c < q.c) : at_ d l c = d :=
  at_not fun hc => by
    obtain ⟨q, hq, e⟩ := List.mem_map.1 hc
    have := h q hq
    omega

/-- A category, and its levels in two labels. -/
structure Tri where
  c : Int
  x : Int
  y : Int
/-- Two labels walked through together. -/
def mrgL (da db : Int) : List Pr → List Pr → List Tri
  | [], [] => []
  | p :: l, [] => ⟨p.c, p.l, db⟩ :: mrgL da db l []
  | [], q :: m => ⟨q.c, da, q.l⟩ :: mrgL da db [] m
  | p :: l, q :: m =>
    if p.c < q.c then ⟨p.c, p.l, db⟩ :: mrgL da db l (q :: m)
    else if q.c < p.c then ⟨q.c, da, q.l⟩ :: mrgL da db (p :: l) m
    else ⟨p.c, p.l, q.l⟩ :: mrgL da db l m
termination_by l m => l.length + m.length
theorem mrgL_len (da db : Int) : ∀ l m, (mrgL da db l m).length ≤ l.length + m.length := by
  intro l m
  fun_induction mrgL da db l m <;> simp_all only [List.length_cons, List.length_nil] <;> omega
theorem mrgL_cat {da db : Int} : ∀ {l m : List Pr} {t : Tri}, t ∈ mrgL da db l m → t.c ∈ cs l ∨ t.c ∈ cs m := by
  intro l m
  fun_induction mrgL da db l m with
  | case1 => intro t h; cases h
  | case2 p l ih => intro t h; rcases List.mem_cons.1 h with rfl | h; exact .inl (by simp [cs]); rcases ih h with h | h; exact .inl (by simp only [cs, List.map_cons, List.mem_cons] at h ⊢; exact .inr h); exact .inr h
  | case3 q m ih => intro t h; rcases List.mem_cons.1 h with rfl | h; exact .inr (by simp [cs]); rcases ih h with h | h; exact .inl h; exact .inr (by simp only [cs, List.map_cons, List.mem_cons] at h ⊢; exact .inr h)
  | case4 p l q m h1 ih => intro t h; rcases List.mem_cons.1 h with rfl | h; exact .inl (by simp [cs]); rcases ih h with h | h; exact .inl (by simp only [cs, List.map_cons, List.mem_cons] at h ⊢; exact .inr h); exact .inr h
  | case5 p l q m h1 h2 ih => intro t h; rcases List.mem_cons.1 h with rfl | h; exact .inr (by simp [cs]); rcases ih h with h | h; exact .inl h; exact .inr (by simp only [cs, List.map_cons, List.mem_cons] at h ⊢; exact .inr h)
  | case6 p l q m h1 h2 ih => intro t h; rcases List.mem_cons.1 h with rfl | h; exact .inl (by simp [cs]); rcases ih h with h | h; exact .inl (by simp only [cs, List.map_cons, List.mem_cons] at h ⊢; exact .inr h); exact .inr (by simp only [cs, List.map_cons, List.mem_cons] at h ⊢; exact .inr h)

theorem mem_cs_lt {l : List Pr} {c k : Int} (h : ∀ q ∈ l, k < q.c) (hc : c ∈ cs l) : k < c := by
  obtain ⟨q, hq, rfl⟩ := List.mem_map.1 hc
  exact h q hq
/-- What the walk finds: at each category of either what stands there in both. -/
theorem mrgL_mem {da db : Int} : ∀ {l m : List Pr}, ascP l → ascP m → ∀ t : Tri, t ∈ mrgL da db l m ↔ ((t.c ∈ cs l ∨ t.c ∈ cs m) ∧ t.x = at_ da l t.c ∧ t.y = at_ db m t.c) := by
  intro l m
  fun_induction mrgL da db l m with
  | case1 => intro _ _ t; simp [cs]
  | case2 p l ih =>
    intro hl hm t
    have ih := ih hl.2 hm t
    rw [List.mem_cons, ih]
    constructor
    · rintro (rfl | ⟨h1, h2, h3⟩)
      · exact ⟨.inl (by simp [cs]), by simp [at_], rfl⟩
      · rcases h1 with h1 | h1
        · have := mem_cs_lt hl.1 h1
          exact ⟨.inl (by simp only [cs, List.map_cons, List.mem_cons]; exact .inr h1), by rw [at_, if_neg (by omega)]; exact h2, h3⟩
        · simp [cs] at h1
    · rintro ⟨h1, h2, h3⟩
      by_cases e : p.c = t.c
      · left
        rw [at_, if_pos e] at h2
        cases t; simp only at e h2 h3; subst e; subst h2; subst h3; rfl
      · right
        rw [at_, if_neg e] at h2
        refine ⟨?_, h2, h3⟩
        rcases h1 with h1 | h1
        · simp only [cs, List.map_cons, List.mem_cons] at h1
          exact .inl (h1.resolve_left fun x => e x.symm)
        · exact .inr h1
  | case3 q m ih =>
    intro hl hm t
    have ih := ih hl hm.2 t
    rw [List.mem_cons, ih]
    constructor
    · rintro (rfl | ⟨h1, h2, h3⟩)
      · exact ⟨.inr (by simp [cs]), rfl, by simp [at_]⟩
      · rcases h1 with h1 | h1
        · simp [cs] at h1
        · have := mem_cs_lt hm.1 h1
          exact ⟨.inr (by simp only [cs, List.map_cons, List.mem_cons]; exact .inr h1), h2, by rw [at_, if_neg (by omega)]; exact h3⟩
    · rintro ⟨h1, h2, h3⟩
      by_cases e : q.c = t.c
      · left
        rw [at_, if_pos e] at h3
        cases t; simp only at e h2 h3; subst e; subst h3
        simp only [at_] at h2; subst h2; rfl
      · right
        rw [at_, if_neg e] at h3
        refine ⟨?_, h2, h3⟩
        rcases h1 with h1 | h1
        · exact .inl h1
        · simp only [cs, List.map_cons, List.mem_cons] at h1
          exact .inr (h1.resolve_left fun x => e x.symm)
  | case4 p l q m h0 ih =>
    intro hl hm t
    have ih := ih hl.2 hm t
    have hq : ∀ r ∈ q :: m, p.c < r.c := fun r hr => by
      rcases List.mem_cons.1 hr with rfl | hr
      · exact h0
      · have := hm.1 r hr; omega
    rw [List.mem_cons, ih]
    constructor
    · rintro (rfl | ⟨h1, h2, h3⟩)
      · exact ⟨.inl (by simp [cs]), by simp [at_], (at_out db (q :: m) hq).symm⟩
      · have : p.c < t.c := h1.elim (mem_cs_lt hl.1) (mem_cs_lt hq)
        exact ⟨h1.imp (fun h => by simp only [cs, List.map_cons, List.mem_cons] at h ⊢; exact .inr h) id, by rw [at_, if_neg (by omega)]; exact h2, h3⟩
    · rintro ⟨h1, h2, h3⟩
      by_cases e : p.c = t.c
      · left
        rw [at_, if_pos e] at h2
        rw [← e, at_out db (q :: m) hq] at h3
        cases t; simp only at e h2 h3; subst e; subst h2; subst h3; rfl
      · right
        rw [at_, if_neg e] at h2
        refine ⟨?_, h2, h3⟩
        rcases h1 with h1 | h1
        · have : t.c ∈ p.c :: cs l := h1
          rcases List.mem_cons.1 this with h | h
          · exact absurd h.symm e
          · exact .inl h
        · exact .inr h1
  | case5 p l q m h0 h0' ih =>
    intro hl hm t
    have ih := ih hl hm.2 t
    have hp : ∀ r ∈ p :: l, q.c < r.c := fun r hr => by
      rcases List.mem_cons.1 hr with rfl | hr
      · exact h0'
      · have := hl.1 r hr; omega
    rw [List.mem_cons, ih]
    constructor
    · rintro (rfl | ⟨h1, h2, h3⟩)
      · exact ⟨.inr (by simp [cs]), (at_out da (p :: l) hp).symm, by simp [at_]⟩
      · have : q.c < t.c := h1.elim (mem_cs_lt hp) (mem_cs_lt hm.1)
        exact ⟨h1.imp id (fun h => by simp only [cs, List.map_cons, List.mem_cons] at h ⊢; exact .inr h), h2, by rw [at_, if_neg (by omega)]; exact h3⟩
    · rintro ⟨h1, h2, h3⟩
      by_cases e : q.c = t.c
      · left
        rw [at_, if_pos e] at h3
        rw [← e, at_out da (p :: l) hp] at h2
        cases t; simp only at e h2 h3; subst e; subst h2; subst h3; rfl
      · right
        rw [at_, if_neg e] at h3
        refine ⟨?_, h2, h3⟩
        rcases h1 with h1 | h1
        · exact .inl h1
        · have : t.c ∈ q.c :: cs m := h1
          rcases List.mem_cons.1 this with h | h
          · exact absurd h.symm e
          · exact .inr h
  | case6 p l q m h0 h0' ih =>
    intro hl hm t
    have ih := ih hl.2 hm.2 t
    have hpq : p.c = q.c := by omega
    rw [List.mem_cons, ih]
    constructor
    · rintro (rfl | ⟨h1, h2, h3⟩)
      · exact ⟨.inl (by simp [cs]), by simp [at_], by simp [at_, hpq]⟩
      · have : p.c < t.c := h1.elim (mem_cs_lt hl.1) (fun h => by rw [hpq]; exact mem_cs_lt hm.1 h)
        exact ⟨h1.imp (fun h => by simp only [cs, List.map_cons, List.mem_cons] at h ⊢; exact .inr h) (fun h => by simp only [cs, List.map_cons, List.mem_cons] at h ⊢; exact .inr h), by rw [at_, if_neg (by omega)]; exact h2, by rw [at_, if_neg (by omega)]; exact h3⟩
    · rintro ⟨h1, h2, h3⟩
      by_cases e : p.c = t.c
      · left
        rw [at_, if_pos e] at h2
        rw [at_, if_pos (by omega)] at h3
        cases t; simp only at e h2 h3; subst e; subst h2; subst h3; rfl
      · right
        rw [at_, if_neg e] at h2
        rw [at_, if_neg (by omega)] at h3
        refine ⟨?_, h2, h3⟩
        rcases h1 with h1 | h1
        · have : t.c ∈ p.c :: cs l := h1
          rcases List.mem_cons.1 this with h | h
          · exact absurd h.symm e
          · exact .inl h
        · have : t.c ∈ q.c :: cs m := h1
          rcases List.mem_cons.1 this with h | h
          · exact absurd (h.trans hpq.symm).symm e
          · exact .inr h
/-- Their categories rise. -/
def ascT : List Tri → Prop
  | [] => True
  | t :: l => (∀ u ∈ l, t.c < u.c) ∧ ascT l
theorem mrgL_asc {da db : Int} : ∀ {l m : List Pr}, ascP l → ascP m → ascT (mrgL da db l m) := by
  intro l m
  fun_induction mrgL da db l m with
  | case1 => intro _ _; trivial
  | case2 p l ih => intro hl hm; exact ⟨fun u hu => (mrgL_cat hu).elim (mem_cs_lt hl.1) (fun h => by simp [cs] at h), ih hl.2 hm⟩
  | case3 q m ih => intro hl hm; exact ⟨fun u hu => (mrgL_cat hu).elim (fun h => by simp [cs] at h) (mem_cs_lt hm.1), ih hl hm.2⟩
  | case4 p l q m h0 ih =>
    intro hl hm
    refine ⟨fun u hu => (mrgL_cat hu).elim (mem_cs_lt hl.1) (mem_cs_lt fun r hr => ?_), ih hl.2 hm⟩
    rcases List.mem_cons.1 hr with rfl | hr
    · exact h0
    · have := hm.1 r hr; show p.c < r.c; omega
  | case5 p l q m h0 h0' ih =>
    intro hl hm
    refine ⟨fun u hu => (mrgL_cat hu).elim (mem_cs_lt fun r hr => ?_) (mem_cs_lt hm.1), ih hl hm.2⟩
    rcases List.mem_cons.1 hr with rfl | hr
    · exact h0'
    · have := hl.1 r hr; show q.c < r.c; omega
  | case6 p l q m h0 h0' ih =>
    intro hl hm
    have hpq : p.c = q.c := by omega
    exact ⟨fun u hu => (mrgL_cat hu).elim (mem_cs_lt hl.1) (fun h => by show p.c < u.c; rw [hpq]; exact mem_cs_lt hm.1 h), ih hl.2 hm.2⟩

/-- A category that stands in neither. -/
theorem fresh_cat (l m : List Int) : ∃ c : Int, c ∉ l ∧ c ∉ m := by
  have up : ∀ l : List Int, ∃ k : Int, ∀ x ∈ l, x < k := by
    intro l
    induction l with
    | nil => exact ⟨0, by simp⟩
    | cons a l ih =>
      obtain ⟨k, hk⟩ := ih
      refine ⟨max k (a + 1), fun x hx => ?_⟩
      rcases List.mem_cons.1 hx with rfl | hx
      · omega
      · have := hk x hx; omega
  obtain ⟨k, hk⟩ := up (l ++ m)
  exact ⟨k, fun h => by have := hk k (List.mem_append_left _ h); omega, fun h => by have := hk k (List.mem_append_right _ h); omega⟩
/-- Does a label flow to another one: by the walk. -/
def flw (da : Int) (a : List Pr) (db : Int) (b : List Pr) : Bool := decide (da ≤ db) && (mrgL da db a b).all fun t => decide (t.x ≤ t.y)
/-- Does it, at each category. -/
def Le (da : Int) (a : List Pr) (db : Int) (b : List Pr) : Prop := ∀ c, at_ da a c ≤ at_ db b c
theorem flw_iff {da db : Int} {a b : List Pr} (ha : ascP a) (hb : ascP b) : flw da a db b = true ↔ Le da a db b := by
  simp only [flw, Bool.and_eq_true, decide_eq_true_eq, List.all_eq_true]
  constructor
  · rintro ⟨h1, h2⟩ c
    by_cases hc : c ∈ cs a ∨ c ∈ cs b
    · have := h2 ⟨c, at_ da a c, at_ db b c⟩ ((mrgL_mem ha hb _).2 ⟨hc, rfl, rfl⟩)
      exact this
    · rw [at_not (fun h => hc (.inl h)), at_not (fun h => hc (.inr h))]
      exact h1
  · intro h
    refine ⟨?_, fun t ht => ?_⟩
    · obtain ⟨c, h1, h2⟩ := fresh_cat (cs a) (cs b)
      have := h c
      rwa [at_not h1, at_not h2] at this
    · obtain ⟨_, h2, h3⟩ := (mrgL_mem ha hb t).1 ht
      rw [h2, h3]; exact h _
/-- By the document: category by category. -/
def flwR (da : Int) (a : List Pr) (db : Int) (b : List Pr) : Bool := (mk (cs a ++ cs b)).all (fun c => decide (at_ da a c ≤ at_ db b c)) && decide (da ≤ db)
theorem Le.refl (d : Int) (a : List Pr) : Le d a d a := fun _ => Int.le_refl _
theorem Le.trans {da db dc : Int} {a b c : List Pr} (h : Le da a db b) (k : Le db b dc c) : Le da a dc c := fun x => Int.le_trans (h x) (k x)

/-- What is made of two labels, level by level. -/
def bthL (h : Int → Int → Int) (da : Int) (a : List Pr) (db : Int) (b : List Pr) : List Pr := (mrgL da db a b).filterMap fun t => if h t.x t.y = h da db then none else some ⟨t.c, h t.x t.y⟩
theorem filterMap_cat {f : Tri → Option Pr} (hf : ∀ t p, f t = some p → p.c = t.c) : ∀ {l : List Tri}, ascT l → ascP (l.filterMap f)
  | [], _ => trivial
  | t :: l, h => by
    rw [List.filterMap_cons]
    split
    · exact filterMap_cat hf h.2
    · rename_i p hp
      refine ⟨fun q hq => ?_, filterMap_cat hf h.2⟩
      obtain ⟨u, hu, hq⟩ := List.mem_filterMap.1 hq
      rw [hf t p hp, hf u q hq]
      exact h.1 u hu
theorem bthL_asc {h : Int → Int → Int} {da db : Int} {a b : List Pr} (ha : ascP a) (hb : ascP b) : ascP (bthL h da a db b) :=
  filterMap_cat (fun t p hp => by split at hp <;> cases hp; rfl) (mrgL_asc ha hb)
theorem bthL_at {h : Int → Int → Int} {da db : Int} {a b : List Pr} (ha : ascP a) (hb : ascP b) (c : Int) : at_ (h da db) (bthL h da a db b) c = h (at_ da a c) (at_ db b c) := by
  rcases at_cases (h da db) (bthL h da a db b) c with ⟨h1, h2⟩ | ⟨p, h1, h2, h3⟩
  · rw [h2]
    by_cases hc : c ∈ cs a ∨ c ∈ cs b
    · have ht := (mrgL_mem (da := da) (db := db) ha hb ⟨c, at_ da a c, at_ db b c⟩).2 ⟨hc, rfl, rfl⟩
      by_cases e : h (at_ da a c) (at_ db b c) = h da db
      · exact e.symm
      · exfalso
        refine h1 (List.mem_map.2 ⟨⟨c, h (at_ da a c) (at_ db b c)⟩, List.mem_filterMap.2 ⟨_, ht, ?_⟩, rfl⟩)
        exact if_neg e
    · rw [at_not (fun h => hc (.inl h)), at_not (fun h => hc (.inr h))]
  · rw [h3]
    obtain ⟨t, ht, hp⟩ := List.mem_filterMap.1 h1
    split at hp
    · cases hp
    · cases hp
      obtain ⟨_, e1, e2⟩ := (mrgL_mem ha hb t).1 ht
      simp only at h2 ⊢
      rw [e1, e2, h2]
theorem bthL_len {h : Int → Int → Int} {da db : Int} {a b : List Pr} : (bthL h da a db b).length ≤ a.length + b.length :=
  Nat.le_trans (List.length_filterMap_le _ _) (mrgL_len da db a b)
theorem bthL_lv {h : Int → Int → Int} {da db : Int} {a b : List Pr} : ∀ p ∈ bthL h da a db b, p.l ≠ h da db := fun p hp => by
  obtain ⟨t, _, hp⟩ := List.mem_filterMap.1 hp
  split at hp
  · cases hp
  · rename_i hne; cases hp; exact hne
def rise (x : Int) : Int := if x = 0 then 5 else x
/-- A label with High for each star. -/
def risL (d : Int) (l : List Pr) : List Pr := bthL (fun x _ => rise x) d l d l
theorem risL_at {d : Int} {l : List Pr} (h : ascP l) (c : Int) : at_ (rise d) (risL d l) c = rise (at_ d l c) := bthL_at (h := fun x _ => rise x) h h c
theorem risL_asc {d : Int} {l : List Pr} (h : ascP l) : ascP (risL d l) := bthL_asc h h
/-- The categories of a level. -/
def lvs (l : List Pr) (v : Int) : List Int := (l.filter fun p => decide (p.l = v)).map fun p => p.c
theorem lvs_len (l : List Pr) (v : Int) : (lvs l v).length ≤ l.length := by simp only [lvs, List.length_map]; exact List.length_filter_le _ _
theorem lvs_snoc (l : List Pr) (p : Pr) (v : Int) : lvs (l ++ [p]) v = lvs l v ++ (if p.l = v then [p.c] else []) := by
  unfold lvs
  rw [List.filter_append, List.map_append]
  by_cases h : p.l = v <;> simp [h]
theorem lvs_mem {d : Int} {l : List Pr} (h : ascP l) (v c : Int) : c ∈ lvs l v ↔ (c ∈ cs l ∧ at_ d l c = v) := by
  simp only [lvs, List.mem_map, List.mem_filter, decide_eq_true_eq]
  constructor
  · rintro ⟨p, ⟨h1, h2⟩, rfl⟩
    exact ⟨List.mem_map.2 ⟨p, h1, rfl⟩, (at_mem h p h1).trans h2⟩
  · rintro ⟨h1, h2⟩
    obtain ⟨p, hp, rfl⟩ := List.mem_map.1 h1
    exact ⟨p, ⟨hp, by rw [← at_mem (d := d) h p hp]; exact h2⟩, rfl⟩
end Go.Proofs.YtfgndnackofenaaW.E

/-
  Labels made of pairs, by the document; who sees, turns, rises, makes. In plain Lean. No condition.
-/
namespace Go.Proofs.YtfgndnackofenaaW.E
open Go Go.RowKit
set_option linter.unusedVariables false
set_option linter.unusedSimpArgs false

theorem mk_mem (l : List Int) (c : Int) : c ∈ mk l ↔ c ∈ l := by
  have := PM.orr_mem l [] c
  simpa [orr] using this
theorem mk_asc (l : List Int) : (mk l).Pairwise (· < ·) := by
  have : (orr l []).Pairwise (· < ·) := PM.orr_asc l []
  simpa [orr] using this
/-- The last level that pairs say. -/
def lvl (d : Int) (l : List Pr) (c : Int) : Int := l.foldl (fun v p => if p.c = c then p.l else v) d
def mkl (d : Int) (l : List Pr) : List Pr := (mk (cs l)).filterMap fun c => if lvl d l c = d then none else some ⟨c, lvl d l c⟩
theorem mkl_len (d : Int) (l : List Pr) : (mkl d l).length ≤ l.length := by
  have h1 := List.length_filterMap_le (fun c => if lvl d l c = d then none else some (⟨c, lvl d l c⟩ : Pr)) (mk (cs l))
  have h2 := mk_len (cs l)
  have h3 : (cs l).length = l.length := by simp [cs]
  unfold mkl
  omega
theorem lvl_snoc (d : Int) (l : List Pr) (p : Pr) (c : Int) : lvl d (l ++ [p]) c = if p.c = c then p.l else lvl d l c := by simp [lvl]
theorem lvl_not {c : Int} : ∀ {l : List Pr} {d : Int}, c ∉ cs l → lvl d l c = d
  | [], d, _ => rfl
  | p :: l, d, h => by
    simp only [cs, List.map_cons, List.mem_cons, not_or] at h
    have h1 : ¬ p.c = c := fun e => h.1 e.symm
    simp only [lvl, List.foldl_cons, if_neg h1]
    exact lvl_not h.2
/-- Of a label each category stands once: the last is the first. -/
theorem lvl_at {d : Int} : ∀ {l : List Pr}, ascP l → ∀ c, lvl d l c = at_ d l c
  | [], _, _ => rfl
  | p :: l, h, c => by
    by_cases e : p.c = c
    · simp only [lvl, List.foldl_cons, if_pos e, at_]
      exact lvl_not fun hc => by have := mem_cs_lt h.1 hc; omega
    · simp only [lvl, List.foldl_cons, if_neg e, at_]
      exact lvl_at h.2 c
theorem mkl_asc (d : Int) (l : List Pr) : ascP (mkl d l) := by
  have key : ∀ (m : List Int), m.Pairwise (· < ·) → ascP (m.filterMap fun c => if lvl d l c = d then none else some (⟨c, lvl d l c⟩ : Pr)) := by
    intro m
    induction m with
    | nil => intro _; trivial
    | cons x m ih =>
      intro h
      rw [List.pairwise_cons] at h
      rw [List.filterMap_cons]
      split
      · exact ih h.2
      · rename_i p hp
        refine ⟨fun q hq => ?_, ih h.2⟩
        obtain ⟨u, hu, hq⟩ := List.mem_filterMap.1 hq
        have := h.1 u hu
        split at hp <;> cases hp
        split at hq <;> cases hq
        exact this
  exact key _ (mk_asc _)
theorem mkl_at (d : Int) (l : List Pr) (c : Int) : at_ d (mkl d l) c = lvl d l c := by
  rcases at_cases d (mkl d l) c with ⟨h1, h2⟩ | ⟨p, h1, h2, h3⟩
  · rw [h2]
    by_cases hc : c ∈ cs l
    · by_cases hv : lvl d l c = d
      · exact hv.symm
      · exfalso
        exact h1 (List.mem_map.2 ⟨⟨c, lvl d l c⟩, List.mem_filterMap.2 ⟨c, (mk_mem _ _).2 hc, if_neg hv⟩, rfl⟩)
    · exact (lvl_not hc).symm
  · rw [h3]
    obtain ⟨u, _, hp⟩ := List.mem_filterMap.1 h1
    split at hp <;> cases hp
    simp only at h2 ⊢
    rw [h2]
theorem mkl_lv {d : Int} {l : List Pr} : ∀ p ∈ mkl d l, p.l ≠ d := fun p hp => by
  obtain ⟨u, _, hp⟩ := List.mem_filterMap.1 hp
  split at hp
  · cases hp
  · rename_i h; cases hp; exact h
theorem lvl_q {q : Int → Prop} {d : Int} (hd : q d) : ∀ {l : List Pr}, (∀ p ∈ l, q p.l) → ∀ c, q (lvl d l c) := by
  intro l
  induction l generalizing d with
  | nil => intro _ c; exact hd
  | cons p l ih =>
    intro h c
    simp only [lvl, List.foldl_cons]
    refine ih (d := if p.c = c then p.l else d) ?_ (fun r hr => h r (List.mem_cons_of_mem _ hr)) c
    split
    · exact h p List.mem_cons_self
    · exact hd
theorem mkl_q {q : Int → Prop} {d : Int} {l : List Pr} (hd : q d) (h : ∀ p ∈ l, q p.l) : ∀ p ∈ mkl d l, q p.l := fun p hp => by
  obtain ⟨u, _, hp⟩ := List.mem_filterMap.1 hp
  split at hp <;> cases hp
  exact lvl_q hd h u
theorem mkl_cat {d : Int} {l : List Pr} : ∀ p ∈ mkl d l, p.c ∈ cs l := fun p hp => by
  obtain ⟨u, hu, hp⟩ := List.mem_filterMap.1 hp
  split at hp <;> cases hp
  exact (mk_mem _ _).1 hu
/-- A label is known by what stands at each category. -/
theorem lab_ext {d : Int} : ∀ {a b : List Pr}, ascP a → ascP b → (∀ p ∈ a, p.l ≠ d) → (∀ p ∈ b, p.l ≠ d) → (∀ c, at_ d a c = at_ d b c) → a = b
  | [], [], _, _, _, _, _ => rfl
  | [], q :: b, _, hb, _, nb, h => by
    exfalso
    have h1 := h q.c
    rw [at_mem hb q List.mem_cons_self] at h1
    exact nb q List.mem_cons_self h1.symm
  | p :: a, [], ha, _, na, _, h => by
    exfalso
    have h1 := h p.c
    rw [at_mem ha p List.mem_cons_self] at h1
    exact na p List.mem_cons_self h1
  | p :: a, q :: b, ha, hb, na, nb, h => by
    have hp := h p.c
    have hq := h q.c
    rw [at_mem ha p List.mem_cons_self] at hp
    rw [at_mem hb q List.mem_cons_self] at hq
    have e : p.c = q.c := by
      rcases Int.lt_trichotomy p.c q.c with hlt | he | hgt
      · exfalso
        rw [at_out d (q :: b) (fun r hr => by rcases List.mem_cons.1 hr with rfl | hr; exact hlt; have := hb.1 r hr; omega)] at hp
        exact na p List.mem_cons_self hp
      · exact he
      · exfalso
        rw [at_out d (p :: a) (fun r hr => by rcases List.mem_cons.1 hr with rfl | hr; exact hgt; have := ha.1 r hr; omega)] at hq
        exact nb q List.mem_cons_self hq.symm
    have e2 : p.l = q.l := by
      rw [e, at_mem hb q List.mem_cons_self] at hp
      exact hp
    have epq : p = q := by cases p; cases q; simp only at e e2; rw [e, e2]
    rw [epq]
    congr 1
    refine lab_ext ha.2 hb.2 (fun r hr => na r (List.mem_cons_of_mem _ hr)) (fun r hr => nb r (List.mem_cons_of_mem _ hr)) (fun c => ?_)
    have hc := h c
    by_cases ec : p.c = c
    · rw [at_out d a (fun r hr => by have := ha.1 r hr; omega), at_out d b (fun r hr => by have := hb.1 r hr; omega)]
    · rw [at_, at_, if_neg ec, if_neg (by omega)] at hc
      exact hc
/-- By the document: a label with High for each star. -/
def risR (d : Int) (l : List Pr) : List Pr := mkl (rise d) (l.map fun p => ⟨p.c, rise p.l⟩)
theorem lvl_rise {c : Int} : ∀ (l : List Pr) (d : Int), lvl (rise d) (l.map fun p => ⟨p.c, rise p.l⟩) c = rise (lvl d l c)
  | [], d => rfl
  | p :: l, d => by
    simp only [lvl, List.map_cons, List.foldl_cons]
    have : (if p.c = c then rise p.l else rise d) = rise (if p.c = c then p.l else d) := by split <;> rfl
    rw [this]
    exact lvl_rise l _
theorem risR_at {d : Int} {l : List Pr} (h : ascP l) (c : Int) : at_ (rise d) (risR d l) c = rise (at_ d l c) := by
  unfold risR
  rw [mkl_at, lvl_rise, lvl_at h]
theorem risR_risL {d : Int} {l : List Pr} (h : ascP l) : risR d l = risL d l :=
  lab_ext (mkl_asc _ _) (risL_asc h) mkl_lv bthL_lv (fun c => by rw [risR_at h, risL_at h])
theorem flwR_iff {da db : Int} {a b : List Pr} : flwR da a db b = true ↔ Le da a db b := by
  simp only [flwR, Bool.and_eq_true, decide_eq_true_eq, List.all_eq_true]
  constructor
  · rintro ⟨h1, h2⟩ c
    by_cases hc : c ∈ cs a ++ cs b
    · exact h1 c ((mk_mem _ _).2 hc)
    · rw [List.mem_append, not_or] at hc
      rw [at_not hc.1, at_not hc.2]
      exact h2
  · intro h
    refine ⟨fun c _ => h c, ?_⟩
    obtain ⟨c, h1, h2⟩ := fresh_cat (cs a) (cs b)
    have := h c
    rwa [at_not h1, at_not h2] at this
theorem flw_flwR {da db : Int} {a b : List Pr} (ha : ascP a) (hb : ascP b) : flwR da a db b = flw da a db b := by
  rw [Bool.eq_iff_iff, flwR_iff, flw_iff ha hb]

/-- Which labels a call may name. -/
def nam (d : Int) (l : List Pr) : Bool := decide (d = 2) && !l.any fun p => decide (p.l = 3)
def sees (d : Int) (l : List Pr) (e : Int) (m : List Pr) : Bool := flw e m (rise d) (risL d l)
def risE (d : Int) (l : List Pr) (e : Int) (m : List Pr) : Int :=
  if nam e m = false then 4 else if (lvs m 0).all (fun c => decide (at_ d l c = 0)) = false then 5 else if flw d l e m = false then 6 else 0
def makE (d : Int) (l : List Pr) (e : Int) (m : List Pr) : Int := if nam e m = false then 4 else if lvs m 0 = [] then (if flw d l e m = false then 6 else 0) else 5
theorem nam_lvs (d : Int) (l : List Pr) : (decide (d = 2) && decide (lvs l 3 = [])) = nam d l := by
  unfold nam lvs
  congr 1
  rw [Bool.eq_iff_iff]
  simp [List.filter_eq_nil_iff]
theorem sees_iff {d e : Int} {l m : List Pr} (hl : ascP l) (hm : ascP m) : sees d l e m = true ↔ ∀ c, at_ e m c ≤ rise (at_ d l c) := by
  unfold sees
  rw [flw_iff hm (risL_asc hl)]
  exact ⟨fun h c => by have := h c; rwa [risL_at hl] at this, fun h c => by rw [risL_at hl]; exact h c⟩
theorem sub_of_len : ∀ (a b : List Int), a.Nodup → (∀ x ∈ a, x ∈ b) → a.length ≤ b.length
  | [], _, _, _ => Nat.zero_le _
  | x :: a, b, hn, h => by
    rw [List.nodup_cons] at hn
    have hx := h x List.mem_cons_self
    have := sub_of_len a (b.erase x) hn.2 (fun y hy => (List.mem_erase_of_ne (fun e => hn.1 (by rw [← e]; exact hy))).2 (h y (List.mem_cons_of_mem _ hy)))
    rw [List.length_erase_of_mem hx] at this
    have : 0 < b.length := List.length_pos_of_mem hx
    simp only [List.length_cons]
    omega
theorem all_in {a b : List Int} (hn : a.Nodup) (h : ∀ x ∈ a, x ∈ b) (hl : a.length = b.length) : ∀ y ∈ b, y ∈ a := fun y hy => by
  by_cases hya : y ∈ a
  · exact hya
  · exfalso
    have := sub_of_len (y :: a) b (List.nodup_cons.2 ⟨hya, hn⟩) (fun x hx => by rcases List.mem_cons.1 hx with rfl | hx; exact hy; exact h x hx)
    simp only [List.length_cons] at this
    omega
theorem lvs_nodup {l : List Pr} (h : ascP l) (v : Int) : (lvs l v).Nodup := by
  induction l with
  | nil => simp [lvs]
  | cons p l ih =>
    unfold lvs at ih ⊢
    by_cases e : p.l = v
    · simp only [List.filter_cons, e, decide_true, if_true, List.map_cons, List.nodup_cons]
      refine ⟨fun hc => ?_, ih h.2⟩
      obtain ⟨q, hq, hqc⟩ := List.mem_map.1 hc
      have := h.1 q (List.mem_filter.1 hq).1
      omega
    · simp only [List.filter_cons, e, decide_false, Bool.false_eq_true, if_false]
      exact ih h.2
/-- Rising, as a rule. -/
theorem risE_iff {d e : Int} {l m : List Pr} (hl : ascP l) (hm : ascP m) : risE d l e m = 0 ↔ nam e m = true ∧ (∀ c ∈ lvs m 0, at_ d l c = 0) ∧ Le d l e m := by
  unfold risE
  rw [← flw_iff hl hm]
  cases h1 : nam e m with
  | false => simp
  | true =>
    cases h2 : (lvs m 0).all (fun c => decide (at_ d l c = 0)) with
    | false =>
      simp only [Bool.true_eq_false, if_false, if_true, true_and]
      constructor
      · intro h; omega
      · rintro ⟨h, _⟩
        exfalso
        rw [List.all_eq_false] at h2
        obtain ⟨c, hc, h3⟩ := h2
        exact h3 (decide_eq_true (h c hc))
    | true =>
      have h4 : ∀ c ∈ lvs m 0, at_ d l c = 0 := fun c hc => by simpa using List.all_eq_true.1 h2 c hc
      cases h3 : flw d l e m with
      | false => simp
      | true => simp; exact h4
theorem makE_iff {d e : Int} {l m : List Pr} (hl : ascP l) (hm : ascP m) : makE d l e m = 0 ↔ nam e m = true ∧ lvs m 0 = [] ∧ Le d l e m := by
  unfold makE
  rw [← flw_iff hl hm]
  cases h1 : nam e m with
  | false => simp
  | true =>
    by_cases h2 : lvs m 0 = []
    · cases h3 : flw d l e m <;> simp [h2]
    · simp [h2]
end Go.Proofs.YtfgndnackofenaaW.E

/-
  The cells of pairs in a row: what stands where, what is put between. In plain Lean. No condition.
-/
namespace Go.Proofs.YtfgndnackofenaaW.E
open Go Go.RowKit
set_option linter.unusedVariables false
set_option linter.unusedSimpArgs false

def fl (l : List Pr) : List AV := l.flatMap fun p => [u16 p.c, u8 p.l]
theorem fl_nil : fl [] = [] := rfl
theorem fl_cons (p : Pr) (l : List Pr) : fl (p :: l) = u16 p.c :: u8 p.l :: fl l := rfl
theorem fl_app (a b : List Pr) : fl (a ++ b) = fl a ++ fl b := by simp [fl]
theorem fl_len : ∀ (l : List Pr), (fl l).length = l.length * 2
  | [] => rfl
  | p :: l => by rw [fl_cons]; simp only [List.length_cons, fl_len l]; omega
theorem fl_val {l : List Pr} : ∀ y ∈ fl l, ∃ v, y = .val v := fun y hy => by
  simp only [fl, List.mem_flatMap] at hy
  obtain ⟨p, _, hy⟩ := hy
  simp only [List.mem_cons, List.not_mem_nil, or_false] at hy
  rcases hy with rfl | rfl
  · exact ⟨_, rfl⟩
  · exact ⟨_, rfl⟩
theorem flat_prA : ∀ (l : List Pr), flat (l.map prA) = fl l
  | [] => rfl
  | p :: l => by
    have h := flat_prA l
    simp only [flat, fl, List.map_cons, List.flatMap_cons] at h ⊢
    rw [h]; rfl
theorem prA_sz (l : List Pr) : ∀ x ∈ l.map prA, x.cells.length = 2 := fun x hx => by
  obtain ⟨p, _, rfl⟩ := List.mem_map.1 hx
  rfl
theorem fl_drop (l : List Pr) (r : List AV) (j : Nat) (h : j ≤ l.length) : (fl l ++ r).drop (j * 2) = fl (l.drop j) ++ r := by
  have e : fl l = fl (l.take j) ++ fl (l.drop j) := by rw [← fl_app, List.take_append_drop]
  rw [e, List.append_assoc, List.drop_left' (by rw [fl_len, List.length_take]; omega)]
theorem fl_at (l : List Pr) (r : List AV) (j : Nat) (h : j < l.length) : (fl l ++ r).drop (j * 2) = u16 l[j].c :: u8 l[j].l :: (fl (l.drop (j + 1)) ++ r) := by
  rw [fl_drop l r j (by omega), List.drop_eq_getElem_cons h, fl_cons]
  rfl
theorem fl_take (l : List Pr) (r : List AV) (j : Nat) (h : j ≤ l.length) : (fl l ++ r).take (j * 2) = fl (l.take j) := by
  have e : fl l = fl (l.take j) ++ fl (l.drop j) := by rw [← fl_app, List.take_append_drop]
  rw [e, List.append_assoc, List.take_left' (by rw [fl_len, List.length_take]; omega)]
theorem fl_part (l : List Pr) (r : List AV) (j : Nat) (h : j ≤ l.length) : ((fl l ++ r).drop (j * 2)).take ((l.length - j) * 2) = fl (l.drop j) := by
  rw [fl_drop l r j h, List.take_left' (by rw [fl_len, List.length_drop])]

theorem splice_mid (a b b' r : List AV) (p : Nat) (hp : p = a.length) (h : b'.length = b.length) : splice (a ++ (b ++ r)) p b' = a ++ (b' ++ r) := by
  subst hp
  unfold splice
  rw [List.take_left' rfl, List.append_assoc]
  congr 2
  rw [h, ← List.append_assoc, List.drop_left' (by simp)]

/-- The i-th is struck out. -/
theorem del_one (l : List Pr) (r : List AV) (i : Nat) (h : i < l.length) : ∃ t : List AV, t.length = 2 ∧ splice (fl l ++ r) (i * 2) (fl (l.drop (i + 1))) = fl (l.take i ++ l.drop (i + 1)) ++ (t ++ r) := by
  have e : fl l = fl (l.take i) ++ fl (l.drop i) := by rw [← fl_app, List.take_append_drop]
  have hd : (fl (l.drop i)).length = (fl (l.drop (i + 1))).length + 2 := by rw [fl_len, fl_len, List.length_drop, List.length_drop]; omega
  refine ⟨(fl (l.drop i)).drop (fl (l.drop (i + 1))).length, by rw [List.length_drop]; omega, ?_⟩
  have e2 : fl l ++ r = fl (l.take i) ++ ((fl (l.drop i)).take (fl (l.drop (i + 1))).length ++ ((fl (l.drop i)).drop (fl (l.drop (i + 1))).length ++ r)) := by
    rw [← List.append_assoc (List.take _ _), List.take_append_drop, ← List.append_assoc, ← e]
  rw [e2, splice_mid _ _ _ _ _ (by rw [fl_len, List.length_take]; omega) (by rw [List.length_take]; omega), fl_app, List.append_assoc]
theorem del_two (m : List Pr) (t r z : List AV) (h : z.length = t.length) : splice (fl m ++ (t ++ r)) (m.length * 2) z = fl m ++ (z ++ r) :=
  splice_mid _ _ _ _ _ (by rw [fl_len]) h
/-- One more at the end. -/
theorem ins_end (l : List Pr) (p : Pr) (r : List AV) (h : 2 ≤ r.length) : splice (fl l ++ r) (l.length * 2) [u16 p.c, u8 p.l] = fl (l ++ [p]) ++ r.drop 2 := by
  have e : fl l ++ r = fl l ++ (r.take 2 ++ r.drop 2) := by rw [List.take_append_drop]
  rw [e, splice_mid _ _ _ _ _ (by rw [fl_len]) (by rw [List.length_take]; simp; omega), fl_app, List.append_assoc]
  rfl
/-- One more between: what is behind moves up. -/
theorem ins_up (l : List Pr) (r : List AV) (i : Nat) (hi : i < l.length) (h : 2 ≤ r.length) : ∃ t : List AV, t.length = 2 ∧ splice (fl l ++ r) ((i + 1) * 2) (fl (l.drop i)) = fl (l.take i) ++ (t ++ (fl (l.drop i) ++ r.drop 2)) := by
  have e : fl l = fl (l.take i) ++ (u16 l[i].c :: u8 l[i].l :: fl (l.drop (i + 1))) := by
    rw [← fl_cons, ← List.drop_eq_getElem_cons hi, ← fl_app, List.take_append_drop]
  refine ⟨[u16 l[i].c, u8 l[i].l], rfl, ?_⟩
  have e2 : fl l ++ r = (fl (l.take i) ++ [u16 l[i].c, u8 l[i].l]) ++ ((fl (l.drop (i + 1)) ++ r.take 2) ++ r.drop 2) := by
    rw [e, List.append_assoc (fl (l.drop (i + 1))), List.take_append_drop]; simp
  rw [e2, splice_mid _ _ _ _ _ (by simp [fl_len]; omega) (by simp [fl_len]; omega)]
  simp
theorem ins_in (a b : List Pr) (p : Pr) (t r : List AV) (i : Nat) (hi : i = a.length) (ht : t.length = 2) : splice (fl a ++ (t ++ (fl b ++ r))) (i * 2) [u16 p.c, u8 p.l] = fl (a ++ p :: b) ++ r := by
  rw [splice_mid _ _ _ _ _ (by rw [fl_len, hi]) (by simp [ht]), fl_app, fl_cons]
  simp
/-- The same, in a new row of zeros. -/
theorem ins_new (a b : List Pr) (p : Pr) (z r : List AV) (i : Nat) (hi : i = a.length) (hz : z.length = (b.length + 1) * 2) :
    splice (fl a ++ (z ++ r)) (i * 2) [u16 p.c, u8 p.l] = fl (a ++ [p]) ++ (z.drop 2 ++ r) ∧ splice (fl (a ++ [p]) ++ (z.drop 2 ++ r)) ((i + 1) * 2) (fl b) = fl (a ++ p :: b) ++ r := by
  constructor
  · have e : z ++ r = z.take 2 ++ (z.drop 2 ++ r) := by rw [← List.append_assoc, List.take_append_drop]
    rw [e, splice_mid _ _ _ _ _ (by rw [fl_len, hi]) (by rw [List.length_take]; simp; omega), fl_app, List.append_assoc]
    rfl
  · rw [splice_mid _ _ _ _ _ (by rw [fl_len, hi]; simp) (by rw [fl_len, List.length_drop]; omega)]
    simp [fl_app, fl_cons, fl_nil]

/-- A list struck, a list put into: levels at categories. -/
theorem at_app (d c : Int) : ∀ (a b : List Pr), at_ d (a ++ b) c = if c ∈ cs a then at_ d a c else at_ d b c
  | [], b => by simp [cs]
  | p :: a, b => by
    by_cases h : p.c = c
    · simp [at_, h, cs]
    · simp only [List.cons_append, at_, if_neg h, at_app d c a b]
      have : (c ∈ cs (p :: a)) = (c ∈ cs a) := by simp [cs, Ne.symm h]
      simp only [this]
theorem ascP_app {a b : List Pr} : ascP (a ++ b) ↔ ascP a ∧ ascP b ∧ ∀ p ∈ a, ∀ q ∈ b, p.c < q.c := by
  induction a with
  | nil => simp [ascP]
  | cons p a ih =>
    simp only [List.cons_append, ascP, ih, List.mem_append, List.mem_cons]
    constructor
    · rintro ⟨h1, h2, h3, h4⟩
      exact ⟨⟨fun q hq => h1 q (.inl hq), h2⟩, h3, fun x hx q hq => by
        rcases hx with rfl | hx
        · exact h1 q (.inr hq)
        · exact h4 x hx q hq⟩
    · rintro ⟨⟨h1, h2⟩, h3, h4⟩
      exact ⟨fun q hq => hq.elim (h1 q) (h4 p (.inl rfl) q), h2, h3, fun x hx q hq => h4 x (.inr hx) q hq⟩
end Go.Proofs.YtfgndnackofenaaW.E

/-
  A label made pair by pair: what was said of a category is struck out, what is said now is put in. In plain Lean. No condition.
-/
namespace Go.Proofs.YtfgndnackofenaaW.E
open Go Go.RowKit
set_option linter.unusedVariables false
set_option linter.unusedSimpArgs false

theorem cs_app (a b : List Pr) : cs (a ++ b) = cs a ++ cs b := by simp [cs]
theorem mem_cs {l : List Pr} {c : Int} : c ∈ cs l ↔ ∃ p ∈ l, p.c = c := by simp [cs]
theorem split_at (l : List Pr) (i : Nat) (h : i < l.length) : l = l.take i ++ l[i] :: l.drop (i + 1) := by
  rw [← List.drop_eq_getElem_cons h, List.take_append_drop]

/-- One struck out. -/
theorem del_step {d : Int} {l : List Pr} (h : ascP l) (i : Nat) (hi : i < l.length) : ascP (l.take i ++ l.drop (i + 1)) ∧ l[i].c ∉ cs (l.take i ++ l.drop (i + 1)) ∧ ∀ c, at_ d (l.take i ++ l.drop (i + 1)) c = if c = l[i].c then d else at_ d l c := by
  have e := split_at l i hi
  generalize l.take i = a at e ⊢
  generalize l.drop (i + 1) = b at e ⊢
  generalize l[i] = q at e ⊢
  subst e
  rw [ascP_app] at h
  obtain ⟨h1, ⟨h2, h3⟩, h4⟩ := h
  have hn : q.c ∉ cs (a ++ b) := by
    rw [cs_app, List.mem_append, mem_cs, mem_cs]
    rintro (⟨p, hp, e⟩ | ⟨p, hp, e⟩)
    · have := h4 p hp q List.mem_cons_self; omega
    · have := h2 p hp; omega
  refine ⟨ascP_app.2 ⟨h1, h3, fun p hp r hr => h4 p hp r (List.mem_cons_of_mem _ hr)⟩, hn, fun c => ?_⟩
  by_cases hc : c = q.c
  · rw [if_pos hc, hc]; exact at_not hn
  · rw [if_neg hc, at_app, at_app]
    by_cases hm : c ∈ cs a
    · rw [if_pos hm, if_pos hm]
    · rw [if_neg hm, if_neg hm, at_, if_neg (fun e => hc e.symm)]

/-- One put in. -/
theorem ins_step {d : Int} {l : List Pr} (h : ascP l) (q : Pr) (hq : q.c ∉ cs l) (i : Nat) (h1 : ∀ p ∈ l.take i, p.c < q.c) (h2 : ∀ p ∈ l.drop i, q.c ≤ p.c) : ascP (l.take i ++ q :: l.drop i) ∧ ∀ c, at_ d (l.take i ++ q :: l.drop i) c = if q.c = c then q.l else at_ d l c := by
  have e : l = l.take i ++ l.drop i := (List.take_append_drop i l).symm
  generalize l.take i = a at e h1 ⊢
  generalize l.drop i = b at e h2 ⊢
  subst e
  rw [ascP_app] at h
  obtain ⟨k1, k2, k3⟩ := h
  rw [cs_app, List.mem_append, not_or] at hq
  refine ⟨ascP_app.2 ⟨k1, ⟨fun r hr => ?_, k2⟩, fun p hp r hr => ?_⟩, fun c => ?_⟩
  · have a1 := h2 r hr
    have a2 : r.c ≠ q.c := fun e => hq.2 (mem_cs.2 ⟨r, hr, e⟩)
    omega
  · rcases List.mem_cons.1 hr with rfl | hr
    · exact h1 p hp
    · exact k3 p hp r hr
  · rw [at_app, at_app]
    by_cases hm : c ∈ cs a
    · rw [if_pos hm, if_pos hm, if_neg (fun e : q.c = c => hq.1 (by rw [e]; exact hm))]
    · rw [if_neg hm, if_neg hm, at_]

/-- What one more pair makes of a label. -/
theorem mkl_step {d : Int} (l : List Pr) (j : Nat) (hj : j < l.length) (m : List Pr) (h1 : ascP m) (h2 : ∀ p ∈ m, p.l ≠ d) (h3 : ∀ c, at_ d m c = if l[j].c = c then l[j].l else at_ d (mkl d (l.take j)) c) : m = mkl d (l.take (j + 1)) := by
  refine lab_ext h1 (mkl_asc _ _) h2 mkl_lv fun c => ?_
  rw [h3, mkl_at, mkl_at, take_snoc l j hj, lvl_snoc]

theorem mem_del {l : List Pr} {i : Nat} {p : Pr} (h : p ∈ l.take i ++ l.drop (i + 1)) : p ∈ l := (List.mem_append.1 h).elim List.mem_of_mem_take List.mem_of_mem_drop
theorem mem_ins {l : List Pr} {i : Nat} {p q : Pr} (h : p ∈ l.take i ++ q :: l.drop i) : p = q ∨ p ∈ l := by
  rcases List.mem_append.1 h with h | h
  · exact .inr (List.mem_of_mem_take h)
  · rcases List.mem_cons.1 h with h | h
    · exact .inl h
    · exact .inr (List.mem_of_mem_drop h)
end Go.Proofs.YtfgndnackofenaaW.E

/-
  Labels by levels and by sets, in plain Lean. No condition.
-/
namespace Go.Proofs.YtfgndnackofenaaW.E
open Go Go.RowKit
open Go.Proofs.YtfgndnackofenaaW.E.PM (Asc un_asc le_asc an_asc un_mem le_mem an_mem sub_iff flows_iff mayC_asc asc_ext asc_iff orr_mem orr_asc turns2 sees2 rises2 makes2 turns2_iff sees2_iff)
set_option linter.unusedVariables false
set_option linter.unusedSimpArgs false

def at1 (s : List Int) (v : Int) : List Pr := s.map fun c => ⟨c, v⟩
theorem at1_len (s : List Int) (v : Int) : (at1 s v).length = s.length := by simp [at1]
/-- The pairs of sets, and the label that they make. -/
def bkP (s i o : List Int) : List Pr := at1 s 4 ++ at1 i 1 ++ at1 o 0
def bk (s i o : List Int) : List Pr := mkl 2 (bkP s i o)
theorem bkP_len (s i o : List Int) : (bkP s i o).length = s.length + i.length + o.length := by simp [bkP, at1_len, Nat.add_assoc]
theorem lvl_app (d : Int) (a b : List Pr) (c : Int) : lvl d (a ++ b) c = lvl (lvl d a c) b c := by simp [lvl]
theorem lvl_at1 (v c : Int) : ∀ (s : List Int) (d : Int), lvl d (at1 s v) c = if c ∈ s then v else d
  | [], d => by simp [at1, lvl]
  | x :: s, d => by
    have ih := lvl_at1 v c s (if x = c then v else d)
    simp only [at1, lvl, List.map_cons, List.foldl_cons] at ih ⊢
    rw [ih]
    by_cases h1 : c ∈ s
    · simp [h1]
    · by_cases h2 : x = c
      · subst h2; simp
      · simp [h1, h2, Ne.symm h2]
theorem bk_at (s i o : List Int) (c : Int) : at_ 2 (bk s i o) c = if c ∈ o then 0 else if c ∈ i then 1 else if c ∈ s then 4 else 2 := by
  rw [bk, mkl_at, bkP, lvl_app, lvl_app, lvl_at1, lvl_at1, lvl_at1]
theorem bk_asc (s i o : List Int) : ascP (bk s i o) := mkl_asc _ _
theorem bk_len (s i o : List Int) : (bk s i o).length ≤ s.length + i.length + o.length := by
  have := mkl_len 2 (bkP s i o)
  rw [bkP_len] at this
  exact this
theorem at1_lv {s : List Int} {v : Int} : ∀ p ∈ at1 s v, p.l = v ∧ p.c ∈ s := fun p hp => by
  obtain ⟨c, hc, rfl⟩ := List.mem_map.1 hp
  exact ⟨rfl, hc⟩
theorem bkP_lv {s i o : List Int} : ∀ p ∈ bkP s i o, (p.l = 0 ∨ p.l = 1 ∨ p.l = 4 ∨ p.l = 2) ∧ (p.c ∈ s ∨ p.c ∈ i ∨ p.c ∈ o) := fun p hp => by
  simp only [bkP, List.mem_append] at hp
  rcases hp with (hp | hp) | hp <;> obtain ⟨h1, h2⟩ := at1_lv p hp <;> rw [h1] <;> simp [h2]
theorem bk_lv {s i o : List Int} : ∀ p ∈ bk s i o, p.l = 0 ∨ p.l = 1 ∨ p.l = 4 := fun p hp => by
  have h1 := mkl_q (q := fun x => x = 0 ∨ x = 1 ∨ x = 4 ∨ x = 2) (d := 2) (l := bkP s i o) (by simp) (fun p hp => (bkP_lv p hp).1) p hp
  have h2 := mkl_lv p hp
  omega

def mxx (a b : Int) : Int := if a < b then b else a
/-- Which labels sets say. -/
def okS (d : Int) (l : List Pr) : Bool := decide (d = 2) && l.all fun p => decide (p.l = 0) || decide (p.l = 1) || decide (p.l = 4)
def spl (d : Int) (l : List Pr) (v : Int) : List Int := if okS d l then lvs l v else []
def splE (d : Int) (l : List Pr) : Int := if okS d l then 0 else 14
theorem okS_iff {d : Int} {l : List Pr} : okS d l = true ↔ d = 2 ∧ ∀ p ∈ l, p.l = 0 ∨ p.l = 1 ∨ p.l = 4 := by
  simp only [okS, Bool.and_eq_true, decide_eq_true_eq, List.all_eq_true, Bool.or_eq_true, or_assoc]
theorem spl_len (d : Int) (l : List Pr) (v : Int) : (spl d l v).length ≤ l.length := by
  unfold spl
  split
  · exact lvs_len l v
  · simp
theorem nam_okS {d : Int} {l : List Pr} (h : mayL d l = true) (h0 : ∀ p ∈ l, 0 ≤ p.l) : nam d l = okS d l := by
  obtain ⟨_, _, _, _, _, h4⟩ := mayL_spec h
  rw [Bool.eq_iff_iff, okS_iff]
  simp only [nam, Bool.and_eq_true, decide_eq_true_eq, Bool.not_eq_true', List.any_eq_false]
  constructor
  · rintro ⟨rfl, h7⟩
    refine ⟨rfl, fun p hp => ?_⟩
    have := h7 p hp; have := h0 p hp; have := h4 p hp
    omega
  · rintro ⟨rfl, h7⟩
    refine ⟨rfl, fun p hp => ?_⟩
    have := h7 p hp
    omega
theorem lvs_iff {d : Int} {l : List Pr} (h : ascP l) {v : Int} (hv : v ≠ d) (c : Int) : c ∈ lvs l v ↔ at_ d l c = v := by
  rw [lvs_mem (d := d) h]
  refine ⟨fun h => h.2, fun h2 => ⟨?_, h2⟩⟩
  by_cases hc : c ∈ cs l
  · exact hc
  · exact absurd ((at_not hc).symm.trans h2).symm hv
theorem lvs_asc {v : Int} : ∀ {l : List Pr}, ascP l → Asc (lvs l v)
  | [], _ => by simp [lvs]
  | p :: l, h => by
    have ih : Asc (lvs l v) := lvs_asc h.2
    unfold lvs at ih ⊢
    by_cases e : p.l = v
    · simp only [List.filter_cons, e, decide_true, if_true, List.map_cons]
      refine List.Pairwise.cons (fun x hx => ?_) ih
      obtain ⟨q, hq, rfl⟩ := List.mem_map.1 hx
      exact h.1 q (List.mem_filter.1 hq).1
    · simp only [List.filter_cons, e, decide_false, Bool.false_eq_true, if_false]
      exact ih
theorem at_okS {l : List Pr} (h : okS 2 l = true) (c : Int) : at_ 2 l c = 0 ∨ at_ 2 l c = 1 ∨ at_ 2 l c = 4 ∨ at_ 2 l c = 2 := by
  rcases at_cases 2 l c with ⟨_, h1⟩ | ⟨p, hp, _, h1⟩
  · simp [h1]
  · have := (okS_iff.1 h).2 p hp
    omega
theorem okS_q {l : List Pr} (h : ∀ p ∈ l, p.l = 0 ∨ p.l = 1 ∨ p.l = 4 ∨ p.l = 2) : okS 2 (mkl 2 l) = true :=
  okS_iff.2 ⟨rfl, fun p hp => by
    have h1 := mkl_q (q := fun x => x = 0 ∨ x = 1 ∨ x = 4 ∨ x = 2) (d := 2) (l := l) (by simp) h p hp
    have h2 := mkl_lv p hp
    omega⟩
/-- Split and put back. -/
theorem bk_lvs {l : List Pr} (h : okS 2 l = true) (ha : ascP l) : bk (lvs l 4) (lvs l 1) (lvs l 0) = l := by
  have hk := okS_iff.1 h
  refine lab_ext (d := 2) (bk_asc ..) ha mkl_lv (fun p hp => by have := hk.2 p hp; omega) fun c => ?_
  rw [bk_at]
  simp only [lvs_iff (d := 2) ha (v := 0) (by omega), lvs_iff (d := 2) ha (v := 1) (by omega), lvs_iff (d := 2) ha (v := 4) (by omega)]
  rcases at_okS h c with h | h | h | h <;> simp [h]
/-- No category stands in two. -/
def Dis (s i o : List Int) : Prop := (∀ c ∈ s, c ∉ i) ∧ (∀ c ∈ s, c ∉ o) ∧ (∀ c ∈ i, c ∉ o)
theorem okS_bk (s i o : List Int) : okS 2 (bk s i o) = true := okS_iff.2 ⟨rfl, bk_lv⟩
theorem lvs_bk {s i o : List Int} (h1 : Asc s) (h2 : Asc i) (h3 : Asc o) (hd : Dis s i o) : lvs (bk s i o) 4 = s ∧ lvs (bk s i o) 1 = i ∧ lvs (bk s i o) 0 = o := by
  obtain ⟨d1, d2, d3⟩ := hd
  refine ⟨asc_ext (lvs_asc (bk_asc ..)) h1 fun c => ?_, asc_ext (lvs_asc (bk_asc ..)) h2 fun c => ?_, asc_ext (lvs_asc (bk_asc ..)) h3 fun c => ?_⟩
  · rw [lvs_iff (d := 2) (bk_asc ..) (by omega), bk_at]
    have := d1 c; have := d2 c
    by_cases c ∈ o <;> by_cases c ∈ i <;> by_cases c ∈ s <;> simp_all
  · rw [lvs_iff (d := 2) (bk_asc ..) (by omega), bk_at]
    have := d1 c; have := d3 c
    by_cases c ∈ o <;> by_cases c ∈ i <;> by_cases c ∈ s <;> simp_all
  · rw [lvs_iff (d := 2) (bk_asc ..) (by omega), bk_at]
    by_cases c ∈ o <;> by_cases c ∈ i <;> by_cases c ∈ s <;> simp_all
theorem asc_nodup {l : List Int} (h : Asc l) : l.Nodup := h.imp fun h => by omega
theorem erase_in {s : List Int} {x y : Int} (h : y ∈ s) (hn : y ≠ x) : y ∈ s.erase x := (List.mem_erase_of_ne hn).2 h
theorem may8_dis {s i o : List Int} (h : may8 s i o = true) : Asc s ∧ Asc i ∧ Asc o ∧ Dis s i o ∧ s.length + i.length + o.length ≤ 16 := by
  obtain ⟨m1, m2, m3⟩ := PM.may8_R h
  simp only [may8, Bool.and_eq_true, decide_eq_true_eq] at h
  obtain ⟨_, h4, h5⟩ := h
  have hU := asc_nodup (orr_asc (orr s i) o)
  refine ⟨mayC_asc m1, mayC_asc m2, mayC_asc m3, ⟨fun c h1 h2 => ?_, fun c h1 h2 => ?_, fun c h1 h2 => ?_⟩, by omega⟩
  · have := sub_of_len (orr (orr s i) o) (s.erase c ++ i ++ o) hU (fun x hx => by
      rw [orr_mem, orr_mem] at hx
      simp only [List.mem_append]
      by_cases e : x = c
      · subst e; exact .inl (.inr h2)
      · rcases hx with (hx | hx) | hx
        · exact .inl (.inl (erase_in hx e))
        · exact .inl (.inr hx)
        · exact .inr hx)
    have h9 : 0 < s.length := List.length_pos_of_mem h1
    simp only [List.length_append, List.length_erase_of_mem h1] at this
    omega
  · have := sub_of_len (orr (orr s i) o) (s.erase c ++ i ++ o) hU (fun x hx => by
      rw [orr_mem, orr_mem] at hx
      simp only [List.mem_append]
      by_cases e : x = c
      · subst e; exact .inr h2
      · rcases hx with (hx | hx) | hx
        · exact .inl (.inl (erase_in hx e))
        · exact .inl (.inr hx)
        · exact .inr hx)
    have h9 : 0 < s.length := List.length_pos_of_mem h1
    simp only [List.length_append, List.length_erase_of_mem h1] at this
    omega
  · have := sub_of_len (orr (orr s i) o) (s ++ i.erase c ++ o) hU (fun x hx => by
      rw [orr_mem, orr_mem] at hx
      simp only [List.mem_append]
      by_cases e : x = c
      · subst e; exact .inr h2
      · rcases hx with (hx | hx) | hx
        · exact .inl (.inl hx)
        · exact .inl (.inr (erase_in hx e))
        · exact .inr hx)
    have h9 : 0 < i.length := List.length_pos_of_mem h1
    simp only [List.length_append, List.length_erase_of_mem h1] at this
    omega
theorem lvs_cat {l : List Pr} {v c : Int} (h : c ∈ lvs l v) : c ∈ cs l := by
  obtain ⟨p, hp, rfl⟩ := List.mem_map.1 h
  exact List.mem_map.2 ⟨p, (List.mem_filter.1 hp).1, rfl⟩
theorem lvs_dis {l : List Pr} (ha : ascP l) : Dis (lvs l 4) (lvs l 1) (lvs l 0) := by
  refine ⟨fun c h1 h2 => ?_, fun c h1 h2 => ?_, fun c h1 h2 => ?_⟩
  all_goals
    rw [lvs_mem (d := 2) ha] at h1 h2
    omega
theorem may8_lvs {l : List Pr} (ha : ascP l) (hl : l.length ≤ 16) : may8 (lvs l 4) (lvs l 1) (lvs l 0) = true := by
  have a1 := lvs_asc (v := 4) ha
  have a2 := lvs_asc (v := 1) ha
  have a3 := lvs_asc (v := 0) ha
  obtain ⟨d1, d2, d3⟩ := lvs_dis ha
  have hn : (lvs l 4 ++ lvs l 1 ++ lvs l 0).Nodup := by
    rw [List.nodup_append, List.nodup_append]
    refine ⟨⟨asc_nodup a1, asc_nodup a2, fun a h b h2 e => d1 a h (e ▸ h2)⟩, asc_nodup a3, fun a h b h2 e => ?_⟩
    rcases List.mem_append.1 h with h | h
    · exact d2 a h (e ▸ h2)
    · exact d3 a h (e ▸ h2)
  have h1 := sub_of_len _ (orr (orr (lvs l 4) (lvs l 1)) (lvs l 0)) hn (fun x hx => by
    rw [orr_mem, orr_mem]
    simpa only [List.mem_append] using hx)
  have h2 := sub_of_len _ (cs l) hn (fun x hx => by
    simp only [List.mem_append] at hx
    rcases hx with (hx | hx) | hx <;> exact lvs_cat hx)
  have h3 := orr_len (orr (lvs l 4) (lvs l 1)) (lvs l 0)
  have h4 := orr_len (lvs l 4) (lvs l 1)
  simp only [List.length_append, cs, List.length_map] at h1 h2
  have hm : ∀ {a : List Int}, Asc a → a.length ≤ 16 → mayC a = true := fun h h2 => by
    simp only [mayC, Bool.and_eq_true, decide_eq_true_eq]
    exact ⟨asc_iff _ |>.2 h, h2⟩
  simp only [may8, Bool.and_eq_true, decide_eq_true_eq]
  exact ⟨⟨⟨hm a1 (by omega), hm a2 (by omega)⟩, hm a3 (by omega)⟩, by omega, by omega⟩

theorem nam_of {m : List Pr} (hm : okS 2 m = true) : nam 2 m = true := by
  simp only [nam, decide_true, Bool.true_and, Bool.not_eq_true', List.any_eq_false, decide_eq_true_eq]
  intro p hp
  have := (okS_iff.1 hm).2 p hp
  omega
section may
variable {l m : List Pr} (hl : okS 2 l = true) (hm : okS 2 m = true) (al : ascP l) (am : ascP m)
include hl hm al am
theorem turns_of (h : ∀ c ∈ lvs m 0, at_ 2 l c = 0) : flw 2 l 2 m = turns2 (lvs l 4) (lvs l 1) (lvs l 0) (lvs m 4) (lvs m 1) := by
  rw [Bool.eq_iff_iff, flw_iff al am, turns2_iff (lvs_asc al) (lvs_asc al) (lvs_asc al) (lvs_asc am) (lvs_asc am)]
  simp only [lvs_iff (d := 2) al (v := 0) (by omega), lvs_iff (d := 2) al (v := 1) (by omega), lvs_iff (d := 2) al (v := 4) (by omega), lvs_iff (d := 2) am (v := 0) (by omega), lvs_iff (d := 2) am (v := 1) (by omega), lvs_iff (d := 2) am (v := 4) (by omega)] at h ⊢
  constructor
  · refine fun h1 => ⟨fun c hc => ?_, fun c hc => ?_⟩
    · have := h1 c; have := at_okS hm c; omega
    · have := h1 c; have := at_okS hl c; omega
  · rintro ⟨h1, h2⟩ c
    have := h1 c; have := h2 c; have := h c; have := at_okS hl c; have := at_okS hm c
    omega
theorem rises_of : risE 2 l 2 m = rises2 (lvs l 4) (lvs l 1) (lvs l 0) (lvs m 4) (lvs m 1) (lvs m 0) := by
  have e : (lvs m 0).all (fun c => decide (at_ 2 l c = 0)) = sub (lvs m 0) (lvs l 0) := by
    rw [Bool.eq_iff_iff, sub_iff (lvs_asc am) (lvs_asc al)]
    simp only [List.all_eq_true, decide_eq_true_eq, lvs_iff (d := 2) al (v := 0) (by omega)]
  unfold risE rises2
  rw [nam_of hm, e, if_neg (show ¬ (true = false) by decide)]
  cases h : sub (lvs m 0) (lvs l 0) with
  | false => rfl
  | true =>
    rw [if_neg (show ¬ (true = false) by decide), if_neg (show ¬ (true = false) by decide), turns_of hl hm al am fun c hc => ?_]
    have := (sub_iff (lvs_asc am) (lvs_asc al)).1 h c hc
    rwa [lvs_iff (d := 2) al (by omega)] at this
theorem makes_of : makE 2 l 2 m = makes2 (lvs l 4) (lvs l 1) (lvs l 0) (lvs m 4) (lvs m 1) (lvs m 0) := by
  unfold makE makes2
  rw [nam_of hm, if_neg (show ¬ (true = false) by decide)]
  by_cases h : lvs m 0 = []
  · rw [if_pos h, if_neg (show ¬ 0 < (lvs m 0).length by simp [h]), turns_of hl hm al am (by simp [h])]
  · rw [if_neg h, if_pos (List.length_pos_iff.2 h)]
theorem sees_of (h : lvs m 0 = []) : sees 2 l 2 m = sees2 (lvs l 4) (lvs l 1) (lvs l 0) (lvs m 4) (lvs m 1) := by
  rw [Bool.eq_iff_iff, sees_iff al am, sees2_iff (lvs_asc al) (lvs_asc al) (lvs_asc al) (lvs_asc am) (lvs_asc am)]
  have h0 : ∀ c, at_ 2 m c ≠ 0 := fun c hc => by
    rw [← lvs_iff (d := 2) am (by omega), h] at hc
    simp at hc
  simp only [lvs_iff (d := 2) al (v := 0) (by omega), lvs_iff (d := 2) al (v := 1) (by omega), lvs_iff (d := 2) al (v := 4) (by omega), lvs_iff (d := 2) am (v := 0) (by omega), lvs_iff (d := 2) am (v := 1) (by omega), lvs_iff (d := 2) am (v := 4) (by omega)]
  unfold rise
  constructor
  · refine fun h1 => ⟨fun c hc => ?_, fun c hc => ?_⟩
    · have h2 := h1 c; have := at_okS hl c; split at h2 <;> omega
    · have h2 := h1 c; have := at_okS hm c; have := h0 c; split at h2 <;> omega
  · rintro ⟨h1, h2⟩ c
    have := h1 c; have := h2 c; have := h0 c; have := at_okS hl c; have := at_okS hm c
    split <;> omega
theorem flows_of (h : lvs l 0 = []) (h' : lvs m 0 = []) : flw 2 l 2 m = flows2 (lvs l 4) (lvs l 1) (lvs m 4) (lvs m 1) := by
  rw [turns_of hl hm al am (by simp [h']), Bool.eq_iff_iff, turns2_iff (lvs_asc al) (lvs_asc al) (lvs_asc al) (lvs_asc am) (lvs_asc am), flows_iff (lvs_asc al) (lvs_asc al) (lvs_asc am) (lvs_asc am)]
  simp [h]
theorem join_of (h : lvs l 0 = []) (h' : lvs m 0 = []) : okS 2 (bthL mxx 2 l 2 m) = true ∧ lvs (bthL mxx 2 l 2 m) 4 = un (lvs l 4) (lvs m 4) ∧ lvs (bthL mxx 2 l 2 m) 1 = inter (lvs l 1) (lvs m 1) ∧ lvs (bthL mxx 2 l 2 m) 0 = [] := by
  have hA : ascP (bthL mxx 2 l 2 m) := bthL_asc al am
  have hat : ∀ c, at_ 2 (bthL mxx 2 l 2 m) c = mxx (at_ 2 l c) (at_ 2 m c) := fun c => bthL_at (h := mxx) (da := 2) (db := 2) al am c
  have n0 : ∀ {q : List Pr}, ascP q → lvs q 0 = [] → ∀ c, at_ 2 q c ≠ 0 := fun aq hq c hc => by
    rw [← lvs_iff (d := 2) aq (by omega), hq] at hc
    simp at hc
  have n1 := n0 al h
  have n2 := n0 am h'
  refine ⟨okS_iff.2 ⟨rfl, fun p hp => ?_⟩, asc_ext (lvs_asc hA) (un_asc (lvs_asc al) (lvs_asc am)) fun c => ?_, asc_ext (lvs_asc hA) (an_asc (lvs_asc al) (lvs_asc am)) fun c => ?_, ?_⟩
  · have h1 := at_mem (d := 2) hA p hp
    have h2 := bthL_lv (h := mxx) (da := 2) (db := 2) p hp
    have h3 := at_okS hl p.c; have h4 := at_okS hm p.c
    rw [hat] at h1
    have e : mxx 2 2 = 2 := rfl
    rw [e] at h2
    unfold mxx at h1
    split at h1 <;> omega
  · rw [lvs_iff (d := 2) hA (by omega), un_mem (lvs_asc al) (lvs_asc am), lvs_iff (d := 2) al (by omega), lvs_iff (d := 2) am (by omega), hat]
    have h3 := at_okS hl c; have h4 := at_okS hm c
    unfold mxx
    split <;> omega
  · rw [lvs_iff (d := 2) hA (by omega), an_mem (lvs_asc al) (lvs_asc am), lvs_iff (d := 2) al (by omega), lvs_iff (d := 2) am (by omega), hat]
    have h3 := at_okS hl c; have h4 := at_okS hm c; have h5 := n1 c; have h6 := n2 c
    unfold mxx
    split <;> omega
  · refine List.eq_nil_iff_forall_not_mem.2 fun c hc => ?_
    rw [lvs_iff (d := 2) hA (by omega), hat] at hc
    have h5 := n1 c; have h6 := n2 c
    unfold mxx at hc
    split at hc <;> omega
end may
/-- A star is set. -/
theorem star_of {l : List Pr} (hl : okS 2 l = true) (al : ascP l) (c : Int) : okS 2 (mkl 2 (l ++ [⟨c, 0⟩])) = true ∧ lvs (mkl 2 (l ++ [⟨c, 0⟩])) 4 = less (lvs l 4) [c] ∧ lvs (mkl 2 (l ++ [⟨c, 0⟩])) 1 = less (lvs l 1) [c] ∧ lvs (mkl 2 (l ++ [⟨c, 0⟩])) 0 = un (lvs l 0) [c] := by
  have hA : ascP (mkl 2 (l ++ [⟨c, 0⟩])) := mkl_asc _ _
  have hat : ∀ x, at_ 2 (mkl 2 (l ++ [⟨c, 0⟩])) x = if c = x then 0 else at_ 2 l x := fun x => by rw [mkl_at, lvl_snoc, lvl_at al]
  have h1 : Asc [c] := List.pairwise_singleton _ _
  refine ⟨okS_q fun p hp => ?_, asc_ext (lvs_asc hA) (le_asc (lvs_asc al) h1) fun x => ?_, asc_ext (lvs_asc hA) (le_asc (lvs_asc al) h1) fun x => ?_, asc_ext (lvs_asc hA) (un_asc (lvs_asc al) h1) fun x => ?_⟩
  · rcases List.mem_append.1 hp with hp | hp
    · have := (okS_iff.1 hl).2 p hp; omega
    · obtain rfl := List.mem_singleton.1 hp; simp
  · rw [lvs_iff (d := 2) hA (by omega), le_mem (lvs_asc al) h1, lvs_iff (d := 2) al (by omega), hat, List.mem_singleton]
    split <;> omega
  · rw [lvs_iff (d := 2) hA (by omega), le_mem (lvs_asc al) h1, lvs_iff (d := 2) al (by omega), hat, List.mem_singleton]
    split <;> omega
  · rw [lvs_iff (d := 2) hA (by omega), un_mem (lvs_asc al) h1, lvs_iff (d := 2) al (by omega), hat, List.mem_singleton]
    split <;> omega
end Go.Proofs.YtfgndnackofenaaW.E

/-
  Objects and threads as data; names, letters, records, in plain Lean. No condition.
-/
namespace Go.Proofs.YtfgndnackofenaaW.E
open Go Go.RowKit
set_option linter.unusedVariables false
set_option linter.unusedSimpArgs false

@[reducible] def lrg (r : List (List Int)) : AV := .list 1 (r.map l8) .no
structure Ob where
  id : Int
  kind : Int
  d : Int
  l : List Pr
  s : List Int
  i : List Int
  o : List Int
  q : Int
  u : Int
  x : Int
  dat : List Int
  cats : List Int
  ring : List (List Int)
structure Th where
  d : Int
  l : List Pr
  s : List Int
  i : List Int
  o : List Int
  own : Int
  does : Int
  id : Int
  to : Int
  don : Int
  n : Int
  new : Bool
@[reducible] def objC (b : Ob) : List AV := [u64 b.id, i64 b.kind, u8 b.d, lps b.l, l16 b.s, l16 b.i, l16 b.o, i64 b.q, i64 b.u, i64 b.x, l8 b.dat, l16 b.cats, lrg b.ring]
@[reducible] def obj (b : Ob) : AV := .agg (objC b)
@[reducible] def thrC (t : Th) : List AV := [u8 t.d, lps t.l, l16 t.s, l16 t.i, l16 t.o, i64 t.own, i64 t.does, u64 t.id, u64 t.to, i64 t.don, i64 t.n, bo t.new]
@[reducible] def thr (t : Th) : AV := .agg (thrC t)
/-- What an object, a thread become. -/
def moO (b : Ob) : Ob := if okS b.d b.l then { b with d := 0, l := [], s := lvs b.l 4, i := lvs b.l 1, o := lvs b.l 0 } else ⟨0, 0, 0, [], [], [], [], 0, 0, 0, [], [], []⟩
def moT (t : Th) : Th := if okS t.d t.l then { t with d := 0, l := [], s := lvs t.l 4, i := lvs t.l 1, o := lvs t.l 0 } else ⟨0, [], [], [], [], 0, 0, 0, 0, 0, 0, false⟩
/-- The path of a name. -/
def pth : Nat → Int → List Int → List Int
  | 0, id, l => if id = 1 ∧ l.length ≤ 6 then 1 :: l else []
  | n + 1, id, l => if 1 < id then (if id.tmod 64 = 0 then [] else pth n (IntKind.u64.wrap (id.tdiv 64)) (id :: l)) else if id = 1 ∧ l.length ≤ 6 then 1 :: l else []
theorem pth_stop {n : Nat} {id : Int} {l : List Int} (h : ¬ (1 < id ∧ 0 < n)) : pth n id l = if id = 1 ∧ l.length ≤ 6 then 1 :: l else [] := by
  cases n with
  | zero => rfl
  | succ n => rw [pth, if_neg (by omega)]
def mayN (id : Int) : Bool := ltI 0 ((pth 20 id []).length : Int)
def mayRg (r : List (List Int)) : Bool := (r.all fun b => !ltI 16 (b.length : Int)) && leI (r.length : Int) 4
def plainO (b : Ob) : Bool := mayN b.id &&
  (if b.kind = 1 then leI 0 b.q && leI b.q 400 && leI 0 b.u && leI b.u b.q && leI 1 b.x && leI b.x 64 else if b.kind = 2 then leI (b.dat.length : Int) 64 else if b.kind = 3 then mayC b.cats else if b.kind = 4 then mayRg b.ring else false)
def may1O (b : Ob) : Bool := plainO b && mayL b.d b.l && decide (lvs b.l 0 = [])
def may2O (b : Ob) : Bool := plainO b && may8 b.s b.i b.o && decide (b.o = [])
theorem plainO_mo {b : Ob} (h : okS b.d b.l = true) : plainO (moO b) = plainO b := by simp only [moO, h, if_true]; rfl
/-- Records, by the document. -/
def puS (l : List Int) : List Int := IntKind.u8.wrap l.length :: l.flatMap fun c => pb (IntKind.u64.wrap c) 2
def puB (l : List Int) : List Int := pb (IntKind.u64.wrap l.length) 2 ++ l
def puR (r : List (List Int)) : List Int := IntKind.u8.wrap r.length :: r.flatMap puB
def tailO (b : Ob) : List Int := if b.kind = 1 then pb (IntKind.u64.wrap b.q) 2 ++ pb (IntKind.u64.wrap b.u) 2 ++ pb (IntKind.u64.wrap b.x) 2 else if b.kind = 2 then puB b.dat else if b.kind = 3 then puS b.cats else puR b.ring
def put2O (b : Ob) : List Int := [2, IntKind.u8.wrap b.kind] ++ pb b.id 8 ++ (puS b.s ++ puS b.i ++ puS b.o) ++ tailO b
theorem puS_len (l : List Int) : (puS l).length = 1 + 2 * l.length := by
  unfold puS
  rw [List.length_cons]
  have : ∀ l : List Int, (l.flatMap fun c => pb (IntKind.u64.wrap c) 2).length = 2 * l.length := by
    intro l
    induction l with
    | nil => rfl
    | cons c l ih => rw [List.flatMap_cons, List.length_append, ih, pb_len, List.length_cons]; omega
  rw [this]; omega
theorem puB_len (l : List Int) : (puB l).length = 2 + l.length := by simp [puB, pb_len]
end Go.Proofs.YtfgndnackofenaaW.E
