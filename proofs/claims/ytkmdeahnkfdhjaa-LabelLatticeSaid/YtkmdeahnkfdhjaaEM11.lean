/-
  Labels made of pairs, by the document; who sees, turns, rises, makes. In plain Lean. No condition.
-/
import Derived.Test.YtkmdeahnkfdhjaaEM10
import Derived.Test.YtkmdeahnkfdhjaaEM4
namespace Go.Proofs.YtkmdeahnkfdhjaaW.E
open Go Go.RowKit
set_option linter.unusedVariables false
set_option linter.unusedSimpArgs false

theorem mk_mem (l : List Int) (c : Int) : c ∈ mk l ↔ c ∈ l := by
  have := PM.orr_mem l [] c
  simpa [orr] using this
theorem mk_asc (l : List Int) : (mk l).Pairwise (· < ·) := by
  have : (orr l []).Pairwise (· < ·) := PM.orr_asc l []
  simpa [orr] using this
/-- The last level that pairs say. -/
def lvl (d : Int) (l : List Pr) (c : Int) : Int := l.foldl (fun v p => if p.c = c then p.l else v) d
def mkl (d : Int) (l : List Pr) : List Pr := (mk (cs l)).filterMap fun c => if lvl d l c = d then none else some ⟨c, lvl d l c⟩
theorem mkl_len (d : Int) (l : List Pr) : (mkl d l).length ≤ l.length := by
  have h1 := List.length_filterMap_le (fun c => if lvl d l c = d then none else some (⟨c, lvl d l c⟩ : Pr)) (mk (cs l))
  have h2 := mk_len (cs l)
  have h3 : (cs l).length = l.length := by simp [cs]
  unfold mkl
  omega
theorem lvl_snoc (d : Int) (l : List Pr) (p : Pr) (c : Int) : lvl d (l ++ [p]) c = if p.c = c then p.l else lvl d l c := by simp [lvl]
theorem lvl_not {c : Int} : ∀ {l : List Pr} {d : Int}, c ∉ cs l → lvl d l c = d
  | [], d, _ => rfl
  | p :: l, d, h => by
    simp only [cs, List.map_cons, List.mem_cons, not_or] at h
    have h1 : ¬ p.c = c := fun e => h.1 e.symm
    simp only [lvl, List.foldl_cons, if_neg h1]
    exact lvl_not h.2
/-- Of a label each category stands once: the last is the first. -/
theorem lvl_at {d : Int} : ∀ {l : List Pr}, ascP l → ∀ c, lvl d l c = at_ d l c
  | [], _, _ => rfl
  | p :: l, h, c => by
    by_cases e : p.c = c
    · simp only [lvl, List.foldl_cons, if_pos e, at_]
      exact lvl_not fun hc => by have := mem_cs_lt h.1 hc; omega
    · simp only [lvl, List.foldl_cons, if_neg e, at_]
      exact lvl_at h.2 c
theorem mkl_asc (d : Int) (l : List Pr) : ascP (mkl d l) := by
  have key : ∀ (m : List Int), m.Pairwise (· < ·) → ascP (m.filterMap fun c => if lvl d l c = d then none else some (⟨c, lvl d l c⟩ : Pr)) := by
    intro m
    induction m with
    | nil => intro _; trivial
    | cons x m ih =>
      intro h
      rw [List.pairwise_cons] at h
      rw [List.filterMap_cons]
      split
      · exact ih h.2
      · rename_i p hp
        refine ⟨fun q hq => ?_, ih h.2⟩
        obtain ⟨u, hu, hq⟩ := List.mem_filterMap.1 hq
        have := h.1 u hu
        split at hp <;> cases hp
        split at hq <;> cases hq
        exact this
  exact key _ (mk_asc _)
theorem mkl_at (d : Int) (l : List Pr) (c : Int) : at_ d (mkl d l) c = lvl d l c := by
  rcases at_cases d (mkl d l) c with ⟨h1, h2⟩ | ⟨p, h1, h2, h3⟩
  · rw [h2]
    by_cases hc : c ∈ cs l
    · by_cases hv : lvl d l c = d
      · exact hv.symm
      · exfalso
        exact h1 (List.mem_map.2 ⟨⟨c, lvl d l c⟩, List.mem_filterMap.2 ⟨c, (mk_mem _ _).2 hc, if_neg hv⟩, rfl⟩)
    · exact (lvl_not hc).symm
  · rw [h3]
    obtain ⟨u, _, hp⟩ := List.mem_filterMap.1 h1
    split at hp <;> cases hp
    simp only at h2 ⊢
    rw [h2]
theorem mkl_lv {d : Int} {l : List Pr} : ∀ p ∈ mkl d l, p.l ≠ d := fun p hp => by
  obtain ⟨u, _, hp⟩ := List.mem_filterMap.1 hp
  split at hp
  · cases hp
  · rename_i h; cases hp; exact h
theorem lvl_q {q : Int → Prop} {d : Int} (hd : q d) : ∀ {l : List Pr}, (∀ p ∈ l, q p.l) → ∀ c, q (lvl d l c) := by
  intro l
  induction l generalizing d with
  | nil => intro _ c; exact hd
  | cons p l ih =>
    intro h c
    simp only [lvl, List.foldl_cons]
    refine ih (d := if p.c = c then p.l else d) ?_ (fun r hr => h r (List.mem_cons_of_mem _ hr)) c
    split
    · exact h p List.mem_cons_self
    · exact hd
theorem mkl_q {q : Int → Prop} {d : Int} {l : List Pr} (hd : q d) (h : ∀ p ∈ l, q p.l) : ∀ p ∈ mkl d l, q p.l := fun p hp => by
  obtain ⟨u, _, hp⟩ := List.mem_filterMap.1 hp
  split at hp <;> cases hp
  exact lvl_q hd h u
theorem mkl_cat {d : Int} {l : List Pr} : ∀ p ∈ mkl d l, p.c ∈ cs l := fun p hp => by
  obtain ⟨u, hu, hp⟩ := List.mem_filterMap.1 hp
  split at hp <;> cases hp
  exact (mk_mem _ _).1 hu
/-- A label is known by what stands at each category. -/
theorem lab_ext {d : Int} : ∀ {a b : List Pr}, ascP a → ascP b → (∀ p ∈ a, p.l ≠ d) → (∀ p ∈ b, p.l ≠ d) → (∀ c, at_ d a c = at_ d b c) → a = b
  | [], [], _, _, _, _, _ => rfl
  | [], q :: b, _, hb, _, nb, h => by
    exfalso
    have h1 := h q.c
    rw [at_mem hb q List.mem_cons_self] at h1
    exact nb q List.mem_cons_self h1.symm
  | p :: a, [], ha, _, na, _, h => by
    exfalso
    have h1 := h p.c
    rw [at_mem ha p List.mem_cons_self] at h1
    exact na p List.mem_cons_self h1
  | p :: a, q :: b, ha, hb, na, nb, h => by
    have hp := h p.c
    have hq := h q.c
    rw [at_mem ha p List.mem_cons_self] at hp
    rw [at_mem hb q List.mem_cons_self] at hq
    have e : p.c = q.c := by
      rcases Int.lt_trichotomy p.c q.c with hlt | he | hgt
      · exfalso
        rw [at_out d (q :: b) (fun r hr => by rcases List.mem_cons.1 hr with rfl | hr; exact hlt; have := hb.1 r hr; omega)] at hp
        exact na p List.mem_cons_self hp
      · exact he
      · exfalso
        rw [at_out d (p :: a) (fun r hr => by rcases List.mem_cons.1 hr with rfl | hr; exact hgt; have := ha.1 r hr; omega)] at hq
        exact nb q List.mem_cons_self hq.symm
    have e2 : p.l = q.l := by
      rw [e, at_mem hb q List.mem_cons_self] at hp
      exact hp
    have epq : p = q := by cases p; cases q; simp only at e e2; rw [e, e2]
    rw [epq]
    congr 1
    refine lab_ext ha.2 hb.2 (fun r hr => na r (List.mem_cons_of_mem _ hr)) (fun r hr => nb r (List.mem_cons_of_mem _ hr)) (fun c => ?_)
    have hc := h c
    by_cases ec : p.c = c
    · rw [at_out d a (fun r hr => by have := ha.1 r hr; omega), at_out d b (fun r hr => by have := hb.1 r hr; omega)]
    · rw [at_, at_, if_neg ec, if_neg (by omega)] at hc
      exact hc
/-- By the document: a label with High for each star. -/
def risR (d : Int) (l : List Pr) : List Pr := mkl (rise d) (l.map fun p => ⟨p.c, rise p.l⟩)
theorem lvl_rise {c : Int} : ∀ (l : List Pr) (d : Int), lvl (rise d) (l.map fun p => ⟨p.c, rise p.l⟩) c = rise (lvl d l c)
  | [], d => rfl
  | p :: l, d => by
    simp only [lvl, List.map_cons, List.foldl_cons]
    have : (if p.c = c then rise p.l else rise d) = rise (if p.c = c then p.l else d) := by split <;> rfl
    rw [this]
    exact lvl_rise l _
theorem risR_at {d : Int} {l : List Pr} (h : ascP l) (c : Int) : at_ (rise d) (risR d l) c = rise (at_ d l c) := by
  unfold risR
  rw [mkl_at, lvl_rise, lvl_at h]
theorem risR_risL {d : Int} {l : List Pr} (h : ascP l) : risR d l = risL d l :=
  lab_ext (mkl_asc _ _) (risL_asc h) mkl_lv bthL_lv (fun c => by rw [risR_at h, risL_at h])
theorem flwR_iff {da db : Int} {a b : List Pr} : flwR da a db b = true ↔ Le da a db b := by
  simp only [flwR, Bool.and_eq_true, decide_eq_true_eq, List.all_eq_true]
  constructor
  · rintro ⟨h1, h2⟩ c
    by_cases hc : c ∈ cs a ++ cs b
    · exact h1 c ((mk_mem _ _).2 hc)
    · rw [List.mem_append, not_or] at hc
      rw [at_not hc.1, at_not hc.2]
      exact h2
  · intro h
    refine ⟨fun c _ => h c, ?_⟩
    obtain ⟨c, h1, h2⟩ := fresh_cat (cs a) (cs b)
    have := h c
    rwa [at_not h1, at_not h2] at this
theorem flw_flwR {da db : Int} {a b : List Pr} (ha : ascP a) (hb : ascP b) : flwR da a db b = flw da a db b := by
  rw [Bool.eq_iff_iff, flwR_iff, flw_iff ha hb]

/-- Which labels a call may name. -/
def nam (d : Int) (l : List Pr) : Bool := decide (d = 2) && !l.any fun p => decide (p.l = 3)
def sees (d : Int) (l : List Pr) (e : Int) (m : List Pr) : Bool := flw e m (rise d) (risL d l)
def risE (d : Int) (l : List Pr) (e : Int) (m : List Pr) : Int :=
  if nam e m = false then 4 else if (lvs m 0).all (fun c => decide (at_ d l c = 0)) = false then 5 else if flw d l e m = false then 6 else 0
def makE (d : Int) (l : List Pr) (e : Int) (m : List Pr) : Int := if nam e m = false then 4 else if lvs m 0 = [] then (if flw d l e m = false then 6 else 0) else 5
theorem nam_lvs (d : Int) (l : List Pr) : (decide (d = 2) && decide (lvs l 3 = [])) = nam d l := by
  unfold nam lvs
  congr 1
  rw [Bool.eq_iff_iff]
  simp [List.filter_eq_nil_iff]
theorem sees_iff {d e : Int} {l m : List Pr} (hl : ascP l) (hm : ascP m) : sees d l e m = true ↔ ∀ c, at_ e m c ≤ rise (at_ d l c) := by
  unfold sees
  rw [flw_iff hm (risL_asc hl)]
  exact ⟨fun h c => by have := h c; rwa [risL_at hl] at this, fun h c => by rw [risL_at hl]; exact h c⟩
theorem sub_of_len : ∀ (a b : List Int), a.Nodup → (∀ x ∈ a, x ∈ b) → a.length ≤ b.length
  | [], _, _, _ => Nat.zero_le _
  | x :: a, b, hn, h => by
    rw [List.nodup_cons] at hn
    have hx := h x List.mem_cons_self
    have := sub_of_len a (b.erase x) hn.2 (fun y hy => (List.mem_erase_of_ne (fun e => hn.1 (by rw [← e]; exact hy))).2 (h y (List.mem_cons_of_mem _ hy)))
    rw [List.length_erase_of_mem hx] at this
    have : 0 < b.length := List.length_pos_of_mem hx
    simp only [List.length_cons]
    omega
theorem all_in {a b : List Int} (hn : a.Nodup) (h : ∀ x ∈ a, x ∈ b) (hl : a.length = b.length) : ∀ y ∈ b, y ∈ a := fun y hy => by
  by_cases hya : y ∈ a
  · exact hya
  · exfalso
    have := sub_of_len (y :: a) b (List.nodup_cons.2 ⟨hya, hn⟩) (fun x hx => by rcases List.mem_cons.1 hx with rfl | hx; exact hy; exact h x hx)
    simp only [List.length_cons] at this
    omega
theorem lvs_nodup {l : List Pr} (h : ascP l) (v : Int) : (lvs l v).Nodup := by
  induction l with
  | nil => simp [lvs]
  | cons p l ih =>
    unfold lvs at ih ⊢
    by_cases e : p.l = v
    · simp only [List.filter_cons, e, decide_true, if_true, List.map_cons, List.nodup_cons]
      refine ⟨fun hc => ?_, ih h.2⟩
      obtain ⟨q, hq, hqc⟩ := List.mem_map.1 hc
      have := h.1 q (List.mem_filter.1 hq).1
      omega
    · simp only [List.filter_cons, e, decide_false, Bool.false_eq_true, if_false]
      exact ih h.2
/-- Rising, as a rule. -/
theorem risE_iff {d e : Int} {l m : List Pr} (hl : ascP l) (hm : ascP m) : risE d l e m = 0 ↔ nam e m = true ∧ (∀ c ∈ lvs m 0, at_ d l c = 0) ∧ Le d l e m := by
  unfold risE
  rw [← flw_iff hl hm]
  cases h1 : nam e m with
  | false => simp
  | true =>
    cases h2 : (lvs m 0).all (fun c => decide (at_ d l c = 0)) with
    | false =>
      simp only [Bool.true_eq_false, if_false, if_true, true_and]
      constructor
      · intro h; omega
      · rintro ⟨h, _⟩
        exfalso
        rw [List.all_eq_false] at h2
        obtain ⟨c, hc, h3⟩ := h2
        exact h3 (decide_eq_true (h c hc))
    | true =>
      have h4 : ∀ c ∈ lvs m 0, at_ d l c = 0 := fun c hc => by simpa using List.all_eq_true.1 h2 c hc
      cases h3 : flw d l e m with
      | false => simp
      | true => simp; exact h4
theorem makE_iff {d e : Int} {l m : List Pr} (hl : ascP l) (hm : ascP m) : makE d l e m = 0 ↔ nam e m = true ∧ lvs m 0 = [] ∧ Le d l e m := by
  unfold makE
  rw [← flw_iff hl hm]
  cases h1 : nam e m with
  | false => simp
  | true =>
    by_cases h2 : lvs m 0 = []
    · cases h3 : flw d l e m <;> simp [h2]
    · simp [h2]
end Go.Proofs.YtkmdeahnkfdhjaaW.E
