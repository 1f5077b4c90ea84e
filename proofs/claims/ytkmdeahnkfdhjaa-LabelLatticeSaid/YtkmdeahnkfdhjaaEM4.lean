/-
  Sets made one by one; owners of secrets. In plain Lean. No condition.
-/
import Derived.Test.YtkmdeahnkfdhjaaEM3
namespace Go.Proofs.YtkmdeahnkfdhjaaW.E.PM
open Go Go.RowKit Go.Proofs.YtkmdeahnkfdhjaaW.E
set_option linter.unusedVariables false
set_option linter.unusedSimpArgs false
set_option linter.unusedSectionVars false

def ins (x : Int) : List Int → List Int
  | [] => [x]
  | y :: t => if y < x then y :: ins x t else if y = x then y :: t else x :: y :: t
theorem ins_len (x : Int) : ∀ l : List Int, (ins x l).length ≤ l.length + 1
  | [] => by simp [ins]
  | y :: t => by
    have := ins_len x t
    simp only [ins]
    split
    · simp; omega
    · split <;> simp
theorem ins_mem (x c : Int) : ∀ l : List Int, c ∈ ins x l ↔ c = x ∨ c ∈ l
  | [] => by simp [ins]
  | y :: t => by
    have ih := ins_mem x c t
    simp only [ins]
    split
    · simp only [List.mem_cons, ih]; grind
    · split
      · next h => subst h; simp
      · simp
theorem ins_asc (x : Int) : ∀ l : List Int, l.Pairwise (· < ·) → (ins x l).Pairwise (· < ·)
  | [], _ => by simp [ins]
  | y :: t, h => by
    have h' := List.pairwise_cons.1 h
    have ih := ins_asc x t h'.2
    simp only [ins]
    split
    · next hlt =>
      refine List.pairwise_cons.2 ⟨fun c hc => ?_, ih⟩
      rcases (ins_mem x c t).1 hc with rfl | hc
      · exact hlt
      · exact h'.1 c hc
    · next hge =>
      split
      · exact h
      · next hne =>
        refine List.pairwise_cons.2 ⟨fun c hc => ?_, h⟩
        rcases List.mem_cons.1 hc with rfl | hc
        · show x < c; omega
        · have := h'.1 c hc; show x < c; omega
/-- All of a list, one by one. -/
def mk (l : List Int) (out : List Int) : List Int := l.foldl (fun o x => ins x o) out
theorem mk_len (l : List Int) : ∀ out : List Int, (mk l out).length ≤ out.length + l.length := by
  induction l with
  | nil => intro out; simp [mk]
  | cons x t ih =>
    intro out
    have h1 := ih (ins x out)
    have h2 := ins_len x out
    simp only [mk, List.foldl_cons, List.length_cons] at h1 ⊢
    omega
theorem mk_mem (c : Int) (l : List Int) : ∀ out : List Int, c ∈ mk l out ↔ c ∈ out ∨ c ∈ l := by
  induction l with
  | nil => intro out; simp [mk]
  | cons x t ih =>
    intro out
    have h1 := ih (ins x out)
    simp only [mk, List.foldl_cons] at h1 ⊢
    rw [h1, ins_mem, List.mem_cons]
    grind
theorem mk_asc (l : List Int) : ∀ out : List Int, out.Pairwise (· < ·) → (mk l out).Pairwise (· < ·) := by
  induction l with
  | nil => intro out h; exact h
  | cons x t ih => intro out h; exact ih _ (ins_asc x out h)

theorem ins_eq (c : Int) : ∀ out : List Int, E.ins out c = ins c out
  | [] => by simp [E.ins, kpos, ins]
  | y :: t => by
    have ih := ins_eq c t
    by_cases h : y < c
    · have hk : kpos (y :: t) c = kpos t c + 1 := by simp [kpos, List.takeWhile_cons, h]
      simp only [ins, if_pos h]
      rw [← ih]
      unfold E.ins
      rw [hk]
      by_cases hc : kpos t c = t.length ∨ t[kpos t c]? ≠ some c
      · rw [if_pos hc, if_pos (by simpa using hc)]; simp
      · rw [if_neg hc, if_neg (by simpa using hc)]
    · have hk : kpos (y :: t) c = 0 := by simp [kpos, List.takeWhile_cons, h]
      simp only [ins, if_neg h]
      unfold E.ins
      rw [hk]
      by_cases hy : y = c
      · subst hy; simp
      · simp [hy]
theorem mk_eq (l : List Int) : ∀ out : List Int, l.foldl E.ins out = mk l out := by
  induction l with
  | nil => intro out; rfl
  | cons x t ih =>
    intro out
    rw [List.foldl_cons, ih, ins_eq]; rfl
theorem orr_mem (a b : List Int) (c : Int) : c ∈ orr a b ↔ c ∈ a ∨ c ∈ b := by
  have : orr a b = mk (a ++ b) [] := mk_eq _ _
  rw [this, mk_mem]; simp
theorem orr_asc (a b : List Int) : Asc (orr a b) := by
  have : orr a b = mk (a ++ b) [] := mk_eq _ _
  rw [this]; exact mk_asc _ _ List.Pairwise.nil
theorem fil_mem (a : List Int) (c x : Int) : x ∈ fil false a [c] ↔ x ∈ a ∧ x ≠ c := by
  simp [fil]
theorem fil_asc {a : List Int} (q : Bool) (b : List Int) (h : Asc a) : Asc (fil q a b) := h.filter _

def turns2 (s i o s' i' : List Int) : Bool := sub s s' && sub i' (un i o)
def sees2 (s i o s' i' : List Int) : Bool := sub s' (un s o) && sub i i'
def rises2 (s i o s' i' o' : List Int) : Int := if sub o' o = false then 5 else if turns2 s i o s' i' = false then 6 else 0
def makes2 (s i o s' i' o' : List Int) : Int := if 0 < o'.length then 5 else if turns2 s i o s' i' = false then 6 else 0
theorem sees2_iff {s i o s' i' : List Int} (h1 : Asc s) (h2 : Asc i) (h3 : Asc o) (h4 : Asc s') (h5 : Asc i') : sees2 s i o s' i' = true ↔ (∀ c ∈ s', c ∈ s ∨ c ∈ o) ∧ (∀ c ∈ i, c ∈ i') := by
  unfold sees2
  rw [Bool.and_eq_true, sub_iff h4 (un_asc h1 h3), sub_iff h2 h5]
  simp only [un_mem h1 h3]
theorem turns2_iff {s i o s' i' : List Int} (h1 : Asc s) (h2 : Asc i) (h3 : Asc o) (h4 : Asc s') (h5 : Asc i') : turns2 s i o s' i' = true ↔ (∀ c ∈ s, c ∈ s') ∧ (∀ c ∈ i', c ∈ i ∨ c ∈ o) := by
  unfold turns2
  rw [Bool.and_eq_true, sub_iff h1 h4, sub_iff h5 (un_asc h2 h3)]
  simp only [un_mem h2 h3]
section
variable {s i o s' i' : List Int} (c : Int) (h1 : Asc s) (h2 : Asc i) (h3 : Asc o) (h4 : Asc s') (h5 : Asc i')
include h1 h2 h3 h4 h5
theorem own_sees : sees2 (fil false s [c]) (fil false i [c]) (orr o [c]) (fil false s' [c]) (fil false i' [c]) = sees2 (fil false s [c]) (fil false i [c]) (orr o [c]) s' i' := by
  rw [Bool.eq_iff_iff, sees2_iff (fil_asc _ _ h1) (fil_asc _ _ h2) (orr_asc ..) (fil_asc _ _ h4) (fil_asc _ _ h5), sees2_iff (fil_asc _ _ h1) (fil_asc _ _ h2) (orr_asc ..) h4 h5]
  simp only [fil_mem, orr_mem, List.mem_singleton]
  grind
theorem own_turns : turns2 (fil false s [c]) (fil false i [c]) (orr o [c]) (fil false s' [c]) (fil false i' [c]) = turns2 (fil false s [c]) (fil false i [c]) (orr o [c]) s' i' := by
  rw [Bool.eq_iff_iff, turns2_iff (fil_asc _ _ h1) (fil_asc _ _ h2) (orr_asc ..) (fil_asc _ _ h4) (fil_asc _ _ h5), turns2_iff (fil_asc _ _ h1) (fil_asc _ _ h2) (orr_asc ..) h4 h5]
  simp only [fil_mem, orr_mem, List.mem_singleton]
  grind
theorem sees_own (h : sees2 s i o s' i' = true) : sees2 (fil false s [c]) (fil false i [c]) (orr o [c]) s' i' = true := by
  rw [sees2_iff h1 h2 h3 h4 h5] at h
  rw [sees2_iff (fil_asc _ _ h1) (fil_asc _ _ h2) (orr_asc ..) h4 h5]
  simp only [fil_mem, orr_mem, List.mem_singleton]
  grind
theorem turns_own (h : turns2 s i o s' i' = true) : turns2 (fil false s [c]) (fil false i [c]) (orr o [c]) s' i' = true := by
  rw [turns2_iff h1 h2 h3 h4 h5] at h
  rw [turns2_iff (fil_asc _ _ h1) (fil_asc _ _ h2) (orr_asc ..) h4 h5]
  simp only [fil_mem, orr_mem, List.mem_singleton]
  grind
end
end Go.Proofs.YtkmdeahnkfdhjaaW.E.PM
