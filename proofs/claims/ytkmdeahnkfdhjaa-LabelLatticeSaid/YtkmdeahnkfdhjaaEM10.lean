/-
  Labels: what stands at a category; two labels walked through together; flows. In plain Lean. No condition.
-/
import Derived.Test.YtkmdeahnkfdhjaaEM7
namespace Go.Proofs.YtkmdeahnkfdhjaaW.E
open Go Go.RowKit
set_option linter.unusedVariables false
set_option linter.unusedSimpArgs false

def at_ (d : Int) : List Pr → Int → Int
  | [], _ => d
  | p :: l, c => if p.c = c then p.l else at_ d l c
def cs (l : List Pr) : List Int := l.map fun p => p.c
theorem at_not {d : Int} : ∀ {l : List Pr} {c : Int}, c ∉ cs l → at_ d l c = d
  | [], _, _ => rfl
  | p :: l, c, h => by
    simp only [cs, List.map_cons, List.mem_cons, not_or] at h
    rw [at_, if_neg (fun e => h.1 e.symm)]
    exact at_not h.2
/-- Categories rise. -/
def ascP : List Pr → Prop
  | [] => True
  | p :: l => (∀ q ∈ l, p.c < q.c) ∧ ascP l
theorem ascP_get : ∀ {l : List Pr}, (∀ i, i + 1 < l.length → (l.getD i ⟨0, 0⟩).c < (l.getD (i + 1) ⟨0, 0⟩).c) → ascP l
  | [], _ => trivial
  | [p], _ => ⟨by simp, trivial⟩
  | p :: q :: l, h => by
    have ih : ascP (q :: l) := ascP_get (fun i hi => by have := h (i + 1) (by simp at hi ⊢; omega); simpa using this)
    have h0 : p.c < q.c := by have := h 0 (by simp); simpa using this
    refine ⟨fun r hr => ?_, ih⟩
    rcases List.mem_cons.1 hr with rfl | hr
    · exact h0
    · have := ih.1 r hr; omega
theorem canon_spec {d : Int} {l : List Pr} (h : canon d l = true) : d ≤ 5 ∧ ascP l ∧ ∀ p ∈ l, p.l ≤ 5 ∧ p.l ≠ d := by
  simp only [canon, Bool.and_eq_true, decide_eq_true_eq, okN_iff] at h
  obtain ⟨h1, h2⟩ := h
  refine ⟨h1, ascP_get fun i hi => ?_, fun p hp => ?_⟩
  · have := h2 (i + 1) hi
    rw [okAt_lt hi] at this
    simp only [Bool.and_eq_true, Bool.or_eq_true, decide_eq_true_eq, Nat.add_sub_cancel] at this
    have h3 := this.2
    simp only [List.getD_eq_getElem?_getD, List.getElem?_eq_getElem hi, List.getElem?_eq_getElem (show i < l.length by omega), Option.getD_some]
    rcases h3 with h3 | h3
    · omega
    · exact h3
  · obtain ⟨i, hi, rfl⟩ := List.mem_iff_getElem.1 hp
    have := h2 i hi
    rw [okAt_lt hi] at this
    simp only [Bool.and_eq_true, Bool.not_eq_true', decide_eq_true_eq, decide_eq_false_iff_not] at this
    exact this.1
theorem canon_of {d : Int} {l : List Pr} (h1 : d ≤ 5) (h2 : ascP l) (h3 : ∀ p ∈ l, p.l ≤ 5 ∧ p.l ≠ d) : canon d l = true := by
  simp only [canon, Bool.and_eq_true, decide_eq_true_eq, okN_iff]
  refine ⟨h1, fun i hi => ?_⟩
  rw [okAt_lt hi]
  obtain ⟨a, b⟩ := h3 _ (List.getElem_mem hi)
  simp only [Bool.and_eq_true, Bool.or_eq_true, Bool.not_eq_true', decide_eq_true_eq, decide_eq_false_iff_not]
  refine ⟨⟨a, b⟩, ?_⟩
  have key : ∀ (l : List Pr), ascP l → ∀ (i j : Nat) (hi : i < l.length) (hj : j < l.length), i < j → l[i].c < l[j].c := by
    intro l
    induction l with
    | nil => intro _ i j hi; simp at hi
    | cons p l ih =>
      intro h i j hi hj hij
      cases j with
      | zero => omega
      | succ j =>
        cases i with
        | zero => exact h.1 _ (List.getElem_mem (by simpa using hj))
        | succ i => exact ih h.2 i j (by simpa using hi) (by simpa using hj) (by omega)
  rcases Nat.eq_zero_or_pos i with h0 | h0
  · exact .inl h0
  · exact .inr (key l h2 (i - 1) i (by omega) hi (by omega))
theorem mayL_spec {d : Int} {l : List Pr} (h : mayL d l = true) : canon d l = true ∧ 1 ≤ d ∧ d ≤ 4 ∧ l.length ≤ 16 ∧ ascP l ∧ ∀ p ∈ l, p.l ≤ 4 ∧ p.l ≠ d := by
  have h' := h
  rw [mayL_canon] at h'
  simp only [Bool.and_eq_true, decide_eq_true_eq, lv4, List.take_length, List.all_eq_true] at h'
  obtain ⟨⟨⟨⟨a, b⟩, c⟩, e⟩, f⟩ := h'
  have := canon_spec a
  exact ⟨a, b, c, e, this.2.1, fun p hp => ⟨f p hp, (this.2.2 p hp).2⟩⟩
theorem at_mem {d : Int} : ∀ {l : List Pr}, ascP l → ∀ p ∈ l, at_ d l p.c = p.l
  | [], _, _, h => by cases h
  | q :: l, h, p, hp => by
    rcases List.mem_cons.1 hp with rfl | hp
    · rw [at_, if_pos rfl]
    · have := h.1 p hp
      rw [at_, if_neg (by omega)]
      exact at_mem h.2 p hp
theorem at_cases (d : Int) : ∀ (l : List Pr) (c : Int), (c ∉ cs l ∧ at_ d l c = d) ∨ ∃ p ∈ l, p.c = c ∧ at_ d l c = p.l
  | [], c => .inl ⟨by simp [cs], rfl⟩
  | q :: l, c => by
    by_cases h : q.c = c
    · exact .inr ⟨q, List.mem_cons_self, h, by rw [at_, if_pos h]⟩
    · rcases at_cases d l c with ⟨h1, h2⟩ | ⟨p, h1, h2, h3⟩
      · exact .inl ⟨by simp only [cs, List.map_cons, List.mem_cons, not_or]; exact ⟨fun e => h e.symm, h1⟩, by rw [at_, if_neg h]; exact h2⟩
      · exact .inr ⟨p, List.mem_cons_of_mem _ h1, h2, by rw [at_, if_neg h]; exact h3⟩
theorem at_out (d : Int) (l : List Pr) {c : Int} (h : ∀ q ∈ l, c < q.c) : at_ d l c = d :=
  at_not fun hc => by
    obtain ⟨q, hq, e⟩ := List.mem_map.1 hc
    have := h q hq
    omega

/-- A category, and its levels in two labels. -/
structure Tri where
  c : Int
  x : Int
  y : Int
/-- Two labels walked through together. -/
def mrgL (da db : Int) : List Pr → List Pr → List Tri
  | [], [] => []
  | p :: l, [] => ⟨p.c, p.l, db⟩ :: mrgL da db l []
  | [], q :: m => ⟨q.c, da, q.l⟩ :: mrgL da db [] m
  | p :: l, q :: m =>
    if p.c < q.c then ⟨p.c, p.l, db⟩ :: mrgL da db l (q :: m)
    else if q.c < p.c then ⟨q.c, da, q.l⟩ :: mrgL da db (p :: l) m
    else ⟨p.c, p.l, q.l⟩ :: mrgL da db l m
termination_by l m => l.length + m.length
theorem mrgL_len (da db : Int) : ∀ l m, (mrgL da db l m).length ≤ l.length + m.length := by
  intro l m
  fun_induction mrgL da db l m <;> simp_all only [List.length_cons, List.length_nil] <;> omega
theorem mrgL_cat {da db : Int} : ∀ {l m : List Pr} {t : Tri}, t ∈ mrgL da db l m → t.c ∈ cs l ∨ t.c ∈ cs m := by
  intro l m
  fun_induction mrgL da db l m with
  | case1 => intro t h; cases h
  | case2 p l ih => intro t h; rcases List.mem_cons.1 h with rfl | h; exact .inl (by simp [cs]); rcases ih h with h | h; exact .inl (by simp only [cs, List.map_cons, List.mem_cons] at h ⊢; exact .inr h); exact .inr h
  | case3 q m ih => intro t h; rcases List.mem_cons.1 h with rfl | h; exact .inr (by simp [cs]); rcases ih h with h | h; exact .inl h; exact .inr (by simp only [cs, List.map_cons, List.mem_cons] at h ⊢; exact .inr h)
  | case4 p l q m h1 ih => intro t h; rcases List.mem_cons.1 h with rfl | h; exact .inl (by simp [cs]); rcases ih h with h | h; exact .inl (by simp only [cs, List.map_cons, List.mem_cons] at h ⊢; exact .inr h); exact .inr h
  | case5 p l q m h1 h2 ih => intro t h; rcases List.mem_cons.1 h with rfl | h; exact .inr (by simp [cs]); rcases ih h with h | h; exact .inl h; exact .inr (by simp only [cs, List.map_cons, List.mem_cons] at h ⊢; exact .inr h)
  | case6 p l q m h1 h2 ih => intro t h; rcases List.mem_cons.1 h with rfl | h; exact .inl (by simp [cs]); rcases ih h with h | h; exact .inl (by simp only [cs, List.map_cons, List.mem_cons] at h ⊢; exact .inr h); exact .inr (by simp only [cs, List.map_cons, List.mem_cons] at h ⊢; exact .inr h)

theorem mem_cs_lt {l : List Pr} {c k : Int} (h : ∀ q ∈ l, k < q.c) (hc : c ∈ cs l) : k < c := by
  obtain ⟨q, hq, rfl⟩ := List.mem_map.1 hc
  exact h q hq
/-- What the walk finds: at each category of either what stands there in both. -/
theorem mrgL_mem {da db : Int} : ∀ {l m : List Pr}, ascP l → ascP m → ∀ t : Tri, t ∈ mrgL da db l m ↔ ((t.c ∈ cs l ∨ t.c ∈ cs m) ∧ t.x = at_ da l t.c ∧ t.y = at_ db m t.c) := by
  intro l m
  fun_induction mrgL da db l m with
  | case1 => intro _ _ t; simp [cs]
  | case2 p l ih =>
    intro hl hm t
    have ih := ih hl.2 hm t
    rw [List.mem_cons, ih]
    constructor
    · rintro (rfl | ⟨h1, h2, h3⟩)
      · exact ⟨.inl (by simp [cs]), by simp [at_], rfl⟩
      · rcases h1 with h1 | h1
        · have := mem_cs_lt hl.1 h1
          exact ⟨.inl (by simp only [cs, List.map_cons, List.mem_cons]; exact .inr h1), by rw [at_, if_neg (by omega)]; exact h2, h3⟩
        · simp [cs] at h1
    · rintro ⟨h1, h2, h3⟩
      by_cases e : p.c = t.c
      · left
        rw [at_, if_pos e] at h2
        cases t; simp only at e h2 h3; subst e; subst h2; subst h3; rfl
      · right
        rw [at_, if_neg e] at h2
        refine ⟨?_, h2, h3⟩
        rcases h1 with h1 | h1
        · simp only [cs, List.map_cons, List.mem_cons] at h1
          exact .inl (h1.resolve_left fun x => e x.symm)
        · exact .inr h1
  | case3 q m ih =>
    intro hl hm t
    have ih := ih hl hm.2 t
    rw [List.mem_cons, ih]
    constructor
    · rintro (rfl | ⟨h1, h2, h3⟩)
      · exact ⟨.inr (by simp [cs]), rfl, by simp [at_]⟩
      · rcases h1 with h1 | h1
        · simp [cs] at h1
        · have := mem_cs_lt hm.1 h1
          exact ⟨.inr (by simp only [cs, List.map_cons, List.mem_cons]; exact .inr h1), h2, by rw [at_, if_neg (by omega)]; exact h3⟩
    · rintro ⟨h1, h2, h3⟩
      by_cases e : q.c = t.c
      · left
        rw [at_, if_pos e] at h3
        cases t; simp only at e h2 h3; subst e; subst h3
        simp only [at_] at h2; subst h2; rfl
      · right
        rw [at_, if_neg e] at h3
        refine ⟨?_, h2, h3⟩
        rcases h1 with h1 | h1
        · exact .inl h1
        · simp only [cs, List.map_cons, List.mem_cons] at h1
          exact .inr (h1.resolve_left fun x => e x.symm)
  | case4 p l q m h0 ih =>
    intro hl hm t
    have ih := ih hl.2 hm t
    have hq : ∀ r ∈ q :: m, p.c < r.c := fun r hr => by
      rcases List.mem_cons.1 hr with rfl | hr
      · exact h0
      · have := hm.1 r hr; omega
    rw [List.mem_cons, ih]
    constructor
    · rintro (rfl | ⟨h1, h2, h3⟩)
      · exact ⟨.inl (by simp [cs]), by simp [at_], (at_out db (q :: m) hq).symm⟩
      · have : p.c < t.c := h1.elim (mem_cs_lt hl.1) (mem_cs_lt hq)
        exact ⟨h1.imp (fun h => by simp only [cs, List.map_cons, List.mem_cons] at h ⊢; exact .inr h) id, by rw [at_, if_neg (by omega)]; exact h2, h3⟩
    · rintro ⟨h1, h2, h3⟩
      by_cases e : p.c = t.c
      · left
        rw [at_, if_pos e] at h2
        rw [← e, at_out db (q :: m) hq] at h3
        cases t; simp only at e h2 h3; subst e; subst h2; subst h3; rfl
      · right
        rw [at_, if_neg e] at h2
        refine ⟨?_, h2, h3⟩
        rcases h1 with h1 | h1
        · have : t.c ∈ p.c :: cs l := h1
          rcases List.mem_cons.1 this with h | h
          · exact absurd h.symm e
          · exact .inl h
        · exact .inr h1
  | case5 p l q m h0 h0' ih =>
    intro hl hm t
    have ih := ih hl hm.2 t
    have hp : ∀ r ∈ p :: l, q.c < r.c := fun r hr => by
      rcases List.mem_cons.1 hr with rfl | hr
      · exact h0'
      · have := hl.1 r hr; omega
    rw [List.mem_cons, ih]
    constructor
    · rintro (rfl | ⟨h1, h2, h3⟩)
      · exact ⟨.inr (by simp [cs]), (at_out da (p :: l) hp).symm, by simp [at_]⟩
      · have : q.c < t.c := h1.elim (mem_cs_lt hp) (mem_cs_lt hm.1)
        exact ⟨h1.imp id (fun h => by simp only [cs, List.map_cons, List.mem_cons] at h ⊢; exact .inr h), h2, by rw [at_, if_neg (by omega)]; exact h3⟩
    · rintro ⟨h1, h2, h3⟩
      by_cases e : q.c = t.c
      · left
        rw [at_, if_pos e] at h3
        rw [← e, at_out da (p :: l) hp] at h2
        cases t; simp only at e h2 h3; subst e; subst h2; subst h3; rfl
      · right
        rw [at_, if_neg e] at h3
        refine ⟨?_, h2, h3⟩
        rcases h1 with h1 | h1
        · exact .inl h1
        · have : t.c ∈ q.c :: cs m := h1
          rcases List.mem_cons.1 this with h | h
          · exact absurd h.symm e
          · exact .inr h
  | case6 p l q m h0 h0' ih =>
    intro hl hm t
    have ih := ih hl.2 hm.2 t
    have hpq : p.c = q.c := by omega
    rw [List.mem_cons, ih]
    constructor
    · rintro (rfl | ⟨h1, h2, h3⟩)
      · exact ⟨.inl (by simp [cs]), by simp [at_], by simp [at_, hpq]⟩
      · have : p.c < t.c := h1.elim (mem_cs_lt hl.1) (fun h => by rw [hpq]; exact mem_cs_lt hm.1 h)
        exact ⟨h1.imp (fun h => by simp only [cs, List.map_cons, List.mem_cons] at h ⊢; exact .inr h) (fun h => by simp only [cs, List.map_cons, List.mem_cons] at h ⊢; exact .inr h), by rw [at_, if_neg (by omega)]; exact h2, by rw [at_, if_neg (by omega)]; exact h3⟩
    · rintro ⟨h1, h2, h3⟩
      by_cases e : p.c = t.c
      · left
        rw [at_, if_pos e] at h2
        rw [at_, if_pos (by omega)] at h3
        cases t; simp only at e h2 h3; subst e; subst h2; subst h3; rfl
      · right
        rw [at_, if_neg e] at h2
        rw [at_, if_neg (by omega)] at h3
        refine ⟨?_, h2, h3⟩
        rcases h1 with h1 | h1
        · have : t.c ∈ p.c :: cs l := h1
          rcases List.mem_cons.1 this with h | h
          · exact absurd h.symm e
          · exact .inl h
        · have : t.c ∈ q.c :: cs m := h1
          rcases List.mem_cons.1 this with h | h
          · exact absurd (h.trans hpq.symm).symm e
          · exact .inr h
/-- Their categories rise. -/
def ascT : List Tri → Prop
  | [] => True
  | t :: l => (∀ u ∈ l, t.c < u.c) ∧ ascT l
theorem mrgL_asc {da db : Int} : ∀ {l m : List Pr}, ascP l → ascP m → ascT (mrgL da db l m) := by
  intro l m
  fun_induction mrgL da db l m with
  | case1 => intro _ _; trivial
  | case2 p l ih => intro hl hm; exact ⟨fun u hu => (mrgL_cat hu).elim (mem_cs_lt hl.1) (fun h => by simp [cs] at h), ih hl.2 hm⟩
  | case3 q m ih => intro hl hm; exact ⟨fun u hu => (mrgL_cat hu).elim (fun h => by simp [cs] at h) (mem_cs_lt hm.1), ih hl hm.2⟩
  | case4 p l q m h0 ih =>
    intro hl hm
    refine ⟨fun u hu => (mrgL_cat hu).elim (mem_cs_lt hl.1) (mem_cs_lt fun r hr => ?_), ih hl.2 hm⟩
    rcases List.mem_cons.1 hr with rfl | hr
    · exact h0
    · have := hm.1 r hr; show p.c < r.c; omega
  | case5 p l q m h0 h0' ih =>
    intro hl hm
    refine ⟨fun u hu => (mrgL_cat hu).elim (mem_cs_lt fun r hr => ?_) (mem_cs_lt hm.1), ih hl hm.2⟩
    rcases List.mem_cons.1 hr with rfl | hr
    · exact h0'
    · have := hl.1 r hr; show q.c < r.c; omega
  | case6 p l q m h0 h0' ih =>
    intro hl hm
    have hpq : p.c = q.c := by omega
    exact ⟨fun u hu => (mrgL_cat hu).elim (mem_cs_lt hl.1) (fun h => by show p.c < u.c; rw [hpq]; exact mem_cs_lt hm.1 h), ih hl.2 hm.2⟩

/-- A category that stands in neither. -/
theorem fresh_cat (l m : List Int) : ∃ c : Int, c ∉ l ∧ c ∉ m := by
  have up : ∀ l : List Int, ∃ k : Int, ∀ x ∈ l, x < k := by
    intro l
    induction l with
    | nil => exact ⟨0, by simp⟩
    | cons a l ih =>
      obtain ⟨k, hk⟩ := ih
      refine ⟨max k (a + 1), fun x hx => ?_⟩
      rcases List.mem_cons.1 hx with rfl | hx
      · omega
      · have := hk x hx; omega
  obtain ⟨k, hk⟩ := up (l ++ m)
  exact ⟨k, fun h => by have := hk k (List.mem_append_left _ h); omega, fun h => by have := hk k (List.mem_append_right _ h); omega⟩
/-- Does a label flow to another one: by the walk. -/
def flw (da : Int) (a : List Pr) (db : Int) (b : List Pr) : Bool := decide (da ≤ db) && (mrgL da db a b).all fun t => decide (t.x ≤ t.y)
/-- Does it, at each category. -/
def Le (da : Int) (a : List Pr) (db : Int) (b : List Pr) : Prop := ∀ c, at_ da a c ≤ at_ db b c
theorem flw_iff {da db : Int} {a b : List Pr} (ha : ascP a) (hb : ascP b) : flw da a db b = true ↔ Le da a db b := by
  simp only [flw, Bool.and_eq_true, decide_eq_true_eq, List.all_eq_true]
  constructor
  · rintro ⟨h1, h2⟩ c
    by_cases hc : c ∈ cs a ∨ c ∈ cs b
    · have := h2 ⟨c, at_ da a c, at_ db b c⟩ ((mrgL_mem ha hb _).2 ⟨hc, rfl, rfl⟩)
      exact this
    · rw [at_not (fun h => hc (.inl h)), at_not (fun h => hc (.inr h))]
      exact h1
  · intro h
    refine ⟨?_, fun t ht => ?_⟩
    · obtain ⟨c, h1, h2⟩ := fresh_cat (cs a) (cs b)
      have := h c
      rwa [at_not h1, at_not h2] at this
    · obtain ⟨_, h2, h3⟩ := (mrgL_mem ha hb t).1 ht
      rw [h2, h3]; exact h _
/-- By the document: category by category. -/
def flwR (da : Int) (a : List Pr) (db : Int) (b : List Pr) : Bool := (mk (cs a ++ cs b)).all (fun c => decide (at_ da a c ≤ at_ db b c)) && decide (da ≤ db)
theorem Le.refl (d : Int) (a : List Pr) : Le d a d a := fun _ => Int.le_refl _
theorem Le.trans {da db dc : Int} {a b c : List Pr} (h : Le da a db b) (k : Le db b dc c) : Le da a dc c := fun x => Int.le_trans (h x) (k x)

/-- What is made of two labels, level by level. -/
def bthL (h : Int → Int → Int) (da : Int) (a : List Pr) (db : Int) (b : List Pr) : List Pr := (mrgL da db a b).filterMap fun t => if h t.x t.y = h da db then none else some ⟨t.c, h t.x t.y⟩
theorem filterMap_cat {f : Tri → Option Pr} (hf : ∀ t p, f t = some p → p.c = t.c) : ∀ {l : List Tri}, ascT l → ascP (l.filterMap f)
  | [], _ => trivial
  | t :: l, h => by
    rw [List.filterMap_cons]
    split
    · exact filterMap_cat hf h.2
    · rename_i p hp
      refine ⟨fun q hq => ?_, filterMap_cat hf h.2⟩
      obtain ⟨u, hu, hq⟩ := List.mem_filterMap.1 hq
      rw [hf t p hp, hf u q hq]
      exact h.1 u hu
theorem bthL_asc {h : Int → Int → Int} {da db : Int} {a b : List Pr} (ha : ascP a) (hb : ascP b) : ascP (bthL h da a db b) :=
  filterMap_cat (fun t p hp => by split at hp <;> cases hp; rfl) (mrgL_asc ha hb)
theorem bthL_at {h : Int → Int → Int} {da db : Int} {a b : List Pr} (ha : ascP a) (hb : ascP b) (c : Int) : at_ (h da db) (bthL h da a db b) c = h (at_ da a c) (at_ db b c) := by
  rcases at_cases (h da db) (bthL h da a db b) c with ⟨h1, h2⟩ | ⟨p, h1, h2, h3⟩
  · rw [h2]
    by_cases hc : c ∈ cs a ∨ c ∈ cs b
    · have ht := (mrgL_mem (da := da) (db := db) ha hb ⟨c, at_ da a c, at_ db b c⟩).2 ⟨hc, rfl, rfl⟩
      by_cases e : h (at_ da a c) (at_ db b c) = h da db
      · exact e.symm
      · exfalso
        refine h1 (List.mem_map.2 ⟨⟨c, h (at_ da a c) (at_ db b c)⟩, List.mem_filterMap.2 ⟨_, ht, ?_⟩, rfl⟩)
        exact if_neg e
    · rw [at_not (fun h => hc (.inl h)), at_not (fun h => hc (.inr h))]
  · rw [h3]
    obtain ⟨t, ht, hp⟩ := List.mem_filterMap.1 h1
    split at hp
    · cases hp
    · cases hp
      obtain ⟨_, e1, e2⟩ := (mrgL_mem ha hb t).1 ht
      simp only at h2 ⊢
      rw [e1, e2, h2]
theorem bthL_len {h : Int → Int → Int} {da db : Int} {a b : List Pr} : (bthL h da a db b).length ≤ a.length + b.length :=
  Nat.le_trans (List.length_filterMap_le _ _) (mrgL_len da db a b)
theorem bthL_lv {h : Int → Int → Int} {da db : Int} {a b : List Pr} : ∀ p ∈ bthL h da a db b, p.l ≠ h da db := fun p hp => by
  obtain ⟨t, _, hp⟩ := List.mem_filterMap.1 hp
  split at hp
  · cases hp
  · rename_i hne; cases hp; exact hne
def rise (x : Int) : Int := if x = 0 then 5 else x
/-- A label with High for each star. -/
def risL (d : Int) (l : List Pr) : List Pr := bthL (fun x _ => rise x) d l d l
theorem risL_at {d : Int} {l : List Pr} (h : ascP l) (c : Int) : at_ (rise d) (risL d l) c = rise (at_ d l c) := bthL_at (h := fun x _ => rise x) h h c
theorem risL_asc {d : Int} {l : List Pr} (h : ascP l) : ascP (risL d l) := bthL_asc h h
/-- The categories of a level. -/
def lvs (l : List Pr) (v : Int) : List Int := (l.filter fun p => decide (p.l = v)).map fun p => p.c
theorem lvs_len (l : List Pr) (v : Int) : (lvs l v).length ≤ l.length := by simp only [lvs, List.length_map]; exact List.length_filter_le _ _
theorem lvs_snoc (l : List Pr) (p : Pr) (v : Int) : lvs (l ++ [p]) v = lvs l v ++ (if p.l = v then [p.c] else []) := by
  unfold lvs
  rw [List.filter_append, List.map_append]
  by_cases h : p.l = v <;> simp [h]
theorem lvs_mem {d : Int} {l : List Pr} (h : ascP l) (v c : Int) : c ∈ lvs l v ↔ (c ∈ cs l ∧ at_ d l c = v) := by
  simp only [lvs, List.mem_map, List.mem_filter, decide_eq_true_eq]
  constructor
  · rintro ⟨p, ⟨h1, h2⟩, rfl⟩
    exact ⟨List.mem_map.2 ⟨p, h1, rfl⟩, (at_mem h p h1).trans h2⟩
  · rintro ⟨h1, h2⟩
    obtain ⟨p, hp, rfl⟩ := List.mem_map.1 h1
    exact ⟨p, ⟨hp, by rw [← at_mem (d := d) h p hp]; exact h2⟩, rfl⟩
end Go.Proofs.YtkmdeahnkfdhjaaW.E
