/-
  A label made pair by pair: what was said of a category is struck out, what is said now is put in. In plain Lean. No condition.
-/
import Derived.Test.YtkmdeahnkfdhjaaEM12
namespace Go.Proofs.YtkmdeahnkfdhjaaW.E
open Go Go.RowKit
set_option linter.unusedVariables false
set_option linter.unusedSimpArgs false

theorem cs_app (a b : List Pr) : cs (a ++ b) = cs a ++ cs b := by simp [cs]
theorem mem_cs {l : List Pr} {c : Int} : c ∈ cs l ↔ ∃ p ∈ l, p.c = c := by simp [cs]
theorem split_at (l : List Pr) (i : Nat) (h : i < l.length) : l = l.take i ++ l[i] :: l.drop (i + 1) := by
  rw [← List.drop_eq_getElem_cons h, List.take_append_drop]

/-- One struck out. -/
theorem del_step {d : Int} {l : List Pr} (h : ascP l) (i : Nat) (hi : i < l.length) : ascP (l.take i ++ l.drop (i + 1)) ∧ l[i].c ∉ cs (l.take i ++ l.drop (i + 1)) ∧ ∀ c, at_ d (l.take i ++ l.drop (i + 1)) c = if c = l[i].c then d else at_ d l c := by
  have e := split_at l i hi
  generalize l.take i = a at e ⊢
  generalize l.drop (i + 1) = b at e ⊢
  generalize l[i] = q at e ⊢
  subst e
  rw [ascP_app] at h
  obtain ⟨h1, ⟨h2, h3⟩, h4⟩ := h
  have hn : q.c ∉ cs (a ++ b) := by
    rw [cs_app, List.mem_append, mem_cs, mem_cs]
    rintro (⟨p, hp, e⟩ | ⟨p, hp, e⟩)
    · have := h4 p hp q List.mem_cons_self; omega
    · have := h2 p hp; omega
  refine ⟨ascP_app.2 ⟨h1, h3, fun p hp r hr => h4 p hp r (List.mem_cons_of_mem _ hr)⟩, hn, fun c => ?_⟩
  by_cases hc : c = q.c
  · rw [if_pos hc, hc]; exact at_not hn
  · rw [if_neg hc, at_app, at_app]
    by_cases hm : c ∈ cs a
    · rw [if_pos hm, if_pos hm]
    · rw [if_neg hm, if_neg hm, at_, if_neg (fun e => hc e.symm)]

/-- One put in. -/
theorem ins_step {d : Int} {l : List Pr} (h : ascP l) (q : Pr) (hq : q.c ∉ cs l) (i : Nat) (h1 : ∀ p ∈ l.take i, p.c < q.c) (h2 : ∀ p ∈ l.drop i, q.c ≤ p.c) : ascP (l.take i ++ q :: l.drop i) ∧ ∀ c, at_ d (l.take i ++ q :: l.drop i) c = if q.c = c then q.l else at_ d l c := by
  have e : l = l.take i ++ l.drop i := (List.take_append_drop i l).symm
  generalize l.take i = a at e h1 ⊢
  generalize l.drop i = b at e h2 ⊢
  subst e
  rw [ascP_app] at h
  obtain ⟨k1, k2, k3⟩ := h
  rw [cs_app, List.mem_append, not_or] at hq
  refine ⟨ascP_app.2 ⟨k1, ⟨fun r hr => ?_, k2⟩, fun p hp r hr => ?_⟩, fun c => ?_⟩
  · have a1 := h2 r hr
    have a2 : r.c ≠ q.c := fun e => hq.2 (mem_cs.2 ⟨r, hr, e⟩)
    omega
  · rcases List.mem_cons.1 hr with rfl | hr
    · exact h1 p hp
    · exact k3 p hp r hr
  · rw [at_app, at_app]
    by_cases hm : c ∈ cs a
    · rw [if_pos hm, if_pos hm, if_neg (fun e : q.c = c => hq.1 (by rw [e]; exact hm))]
    · rw [if_neg hm, if_neg hm, at_]

/-- What one more pair makes of a label. -/
theorem mkl_step {d : Int} (l : List Pr) (j : Nat) (hj : j < l.length) (m : List Pr) (h1 : ascP m) (h2 : ∀ p ∈ m, p.l ≠ d) (h3 : ∀ c, at_ d m c = if l[j].c = c then l[j].l else at_ d (mkl d (l.take j)) c) : m = mkl d (l.take (j + 1)) := by
  refine lab_ext h1 (mkl_asc _ _) h2 mkl_lv fun c => ?_
  rw [h3, mkl_at, mkl_at, take_snoc l j hj, lvl_snoc]

theorem mem_del {l : List Pr} {i : Nat} {p : Pr} (h : p ∈ l.take i ++ l.drop (i + 1)) : p ∈ l := (List.mem_append.1 h).elim List.mem_of_mem_take List.mem_of_mem_drop
theorem mem_ins {l : List Pr} {i : Nat} {p q : Pr} (h : p ∈ l.take i ++ q :: l.drop i) : p = q ∨ p ∈ l := by
  rcases List.mem_append.1 h with h | h
  · exact .inr (List.mem_of_mem_take h)
  · rcases List.mem_cons.1 h with h | h
    · exact .inl h
    · exact .inr (List.mem_of_mem_drop h)
end Go.Proofs.YtkmdeahnkfdhjaaW.E
