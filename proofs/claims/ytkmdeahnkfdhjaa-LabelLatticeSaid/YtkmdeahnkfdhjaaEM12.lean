/-
  The cells of pairs in a row: what stands where, what is put between. In plain Lean. No condition.
-/
import Derived.Test.YtkmdeahnkfdhjaaEM11
namespace Go.Proofs.YtkmdeahnkfdhjaaW.E
open Go Go.RowKit
set_option linter.unusedVariables false
set_option linter.unusedSimpArgs false

def fl (l : List Pr) : List AV := l.flatMap fun p => [u16 p.c, u8 p.l]
theorem fl_nil : fl [] = [] := rfl
theorem fl_cons (p : Pr) (l : List Pr) : fl (p :: l) = u16 p.c :: u8 p.l :: fl l := rfl
theorem fl_app (a b : List Pr) : fl (a ++ b) = fl a ++ fl b := by simp [fl]
theorem fl_len : ∀ (l : List Pr), (fl l).length = l.length * 2
  | [] => rfl
  | p :: l => by rw [fl_cons]; simp only [List.length_cons, fl_len l]; omega
theorem fl_val {l : List Pr} : ∀ y ∈ fl l, ∃ v, y = .val v := fun y hy => by
  simp only [fl, List.mem_flatMap] at hy
  obtain ⟨p, _, hy⟩ := hy
  simp only [List.mem_cons, List.not_mem_nil, or_false] at hy
  rcases hy with rfl | rfl
  · exact ⟨_, rfl⟩
  · exact ⟨_, rfl⟩
theorem flat_prA : ∀ (l : List Pr), flat (l.map prA) = fl l
  | [] => rfl
  | p :: l => by
    have h := flat_prA l
    simp only [flat, fl, List.map_cons, List.flatMap_cons] at h ⊢
    rw [h]; rfl
theorem prA_sz (l : List Pr) : ∀ x ∈ l.map prA, x.cells.length = 2 := fun x hx => by
  obtain ⟨p, _, rfl⟩ := List.mem_map.1 hx
  rfl
theorem fl_drop (l : List Pr) (r : List AV) (j : Nat) (h : j ≤ l.length) : (fl l ++ r).drop (j * 2) = fl (l.drop j) ++ r := by
  have e : fl l = fl (l.take j) ++ fl (l.drop j) := by rw [← fl_app, List.take_append_drop]
  rw [e, List.append_assoc, List.drop_left' (by rw [fl_len, List.length_take]; omega)]
theorem fl_at (l : List Pr) (r : List AV) (j : Nat) (h : j < l.length) : (fl l ++ r).drop (j * 2) = u16 l[j].c :: u8 l[j].l :: (fl (l.drop (j + 1)) ++ r) := by
  rw [fl_drop l r j (by omega), List.drop_eq_getElem_cons h, fl_cons]
  rfl
theorem fl_take (l : List Pr) (r : List AV) (j : Nat) (h : j ≤ l.length) : (fl l ++ r).take (j * 2) = fl (l.take j) := by
  have e : fl l = fl (l.take j) ++ fl (l.drop j) := by rw [← fl_app, List.take_append_drop]
  rw [e, List.append_assoc, List.take_left' (by rw [fl_len, List.length_take]; omega)]
theorem fl_part (l : List Pr) (r : List AV) (j : Nat) (h : j ≤ l.length) : ((fl l ++ r).drop (j * 2)).take ((l.length - j) * 2) = fl (l.drop j) := by
  rw [fl_drop l r j h, List.take_left' (by rw [fl_len, List.length_drop])]

theorem splice_mid (a b b' r : List AV) (p : Nat) (hp : p = a.length) (h : b'.length = b.length) : splice (a ++ (b ++ r)) p b' = a ++ (b' ++ r) := by
  subst hp
  unfold splice
  rw [List.take_left' rfl, List.append_assoc]
  congr 2
  rw [h, ← List.append_assoc, List.drop_left' (by simp)]

/-- The i-th is struck out. -/
theorem del_one (l : List Pr) (r : List AV) (i : Nat) (h : i < l.length) : ∃ t : List AV, t.length = 2 ∧ splice (fl l ++ r) (i * 2) (fl (l.drop (i + 1))) = fl (l.take i ++ l.drop (i + 1)) ++ (t ++ r) := by
  have e : fl l = fl (l.take i) ++ fl (l.drop i) := by rw [← fl_app, List.take_append_drop]
  have hd : (fl (l.drop i)).length = (fl (l.drop (i + 1))).length + 2 := by rw [fl_len, fl_len, List.length_drop, List.length_drop]; omega
  refine ⟨(fl (l.drop i)).drop (fl (l.drop (i + 1))).length, by rw [List.length_drop]; omega, ?_⟩
  have e2 : fl l ++ r = fl (l.take i) ++ ((fl (l.drop i)).take (fl (l.drop (i + 1))).length ++ ((fl (l.drop i)).drop (fl (l.drop (i + 1))).length ++ r)) := by
    rw [← List.append_assoc (List.take _ _), List.take_append_drop, ← List.append_assoc, ← e]
  rw [e2, splice_mid _ _ _ _ _ (by rw [fl_len, List.length_take]; omega) (by rw [List.length_take]; omega), fl_app, List.append_assoc]
theorem del_two (m : List Pr) (t r z : List AV) (h : z.length = t.length) : splice (fl m ++ (t ++ r)) (m.length * 2) z = fl m ++ (z ++ r) :=
  splice_mid _ _ _ _ _ (by rw [fl_len]) h
/-- One more at the end. -/
theorem ins_end (l : List Pr) (p : Pr) (r : List AV) (h : 2 ≤ r.length) : splice (fl l ++ r) (l.length * 2) [u16 p.c, u8 p.l] = fl (l ++ [p]) ++ r.drop 2 := by
  have e : fl l ++ r = fl l ++ (r.take 2 ++ r.drop 2) := by rw [List.take_append_drop]
  rw [e, splice_mid _ _ _ _ _ (by rw [fl_len]) (by rw [List.length_take]; simp; omega), fl_app, List.append_assoc]
  rfl
/-- One more between: what is behind moves up. -/
theorem ins_up (l : List Pr) (r : List AV) (i : Nat) (hi : i < l.length) (h : 2 ≤ r.length) : ∃ t : List AV, t.length = 2 ∧ splice (fl l ++ r) ((i + 1) * 2) (fl (l.drop i)) = fl (l.take i) ++ (t ++ (fl (l.drop i) ++ r.drop 2)) := by
  have e : fl l = fl (l.take i) ++ (u16 l[i].c :: u8 l[i].l :: fl (l.drop (i + 1))) := by
    rw [← fl_cons, ← List.drop_eq_getElem_cons hi, ← fl_app, List.take_append_drop]
  refine ⟨[u16 l[i].c, u8 l[i].l], rfl, ?_⟩
  have e2 : fl l ++ r = (fl (l.take i) ++ [u16 l[i].c, u8 l[i].l]) ++ ((fl (l.drop (i + 1)) ++ r.take 2) ++ r.drop 2) := by
    rw [e, List.append_assoc (fl (l.drop (i + 1))), List.take_append_drop]; simp
  rw [e2, splice_mid _ _ _ _ _ (by simp [fl_len]; omega) (by simp [fl_len]; omega)]
  simp
theorem ins_in (a b : List Pr) (p : Pr) (t r : List AV) (i : Nat) (hi : i = a.length) (ht : t.length = 2) : splice (fl a ++ (t ++ (fl b ++ r))) (i * 2) [u16 p.c, u8 p.l] = fl (a ++ p :: b) ++ r := by
  rw [splice_mid _ _ _ _ _ (by rw [fl_len, hi]) (by simp [ht]), fl_app, fl_cons]
  simp
/-- The same, in a new row of zeros. -/
theorem ins_new (a b : List Pr) (p : Pr) (z r : List AV) (i : Nat) (hi : i = a.length) (hz : z.length = (b.length + 1) * 2) :
    splice (fl a ++ (z ++ r)) (i * 2) [u16 p.c, u8 p.l] = fl (a ++ [p]) ++ (z.drop 2 ++ r) ∧ splice (fl (a ++ [p]) ++ (z.drop 2 ++ r)) ((i + 1) * 2) (fl b) = fl (a ++ p :: b) ++ r := by
  constructor
  · have e : z ++ r = z.take 2 ++ (z.drop 2 ++ r) := by rw [← List.append_assoc, List.take_append_drop]
    rw [e, splice_mid _ _ _ _ _ (by rw [fl_len, hi]) (by rw [List.length_take]; simp; omega), fl_app, List.append_assoc]
    rfl
  · rw [splice_mid _ _ _ _ _ (by rw [fl_len, hi]; simp) (by rw [fl_len, List.length_drop]; omega)]
    simp [fl_app, fl_cons, fl_nil]

/-- A list struck, a list put into: levels at categories. -/
theorem at_app (d c : Int) : ∀ (a b : List Pr), at_ d (a ++ b) c = if c ∈ cs a then at_ d a c else at_ d b c
  | [], b => by simp [cs]
  | p :: a, b => by
    by_cases h : p.c = c
    · simp [at_, h, cs]
    · simp only [List.cons_append, at_, if_neg h, at_app d c a b]
      have : (c ∈ cs (p :: a)) = (c ∈ cs a) := by simp [cs, Ne.symm h]
      simp only [this]
theorem ascP_app {a b : List Pr} : ascP (a ++ b) ↔ ascP a ∧ ascP b ∧ ∀ p ∈ a, ∀ q ∈ b, p.c < q.c := by
  induction a with
  | nil => simp [ascP]
  | cons p a ih =>
    simp only [List.cons_append, ascP, ih, List.mem_append, List.mem_cons]
    constructor
    · rintro ⟨h1, h2, h3, h4⟩
      exact ⟨⟨fun q hq => h1 q (.inl hq), h2⟩, h3, fun x hx q hq => by
        rcases hx with rfl | hx
        · exact h1 q (.inr hq)
        · exact h4 x hx q hq⟩
    · rintro ⟨⟨h1, h2⟩, h3, h4⟩
      exact ⟨fun q hq => hq.elim (h1 q) (h4 p (.inl rfl) q), h2, h3, fun x hx q hq => h4 x (.inr hx) q hq⟩
end Go.Proofs.YtkmdeahnkfdhjaaW.E
