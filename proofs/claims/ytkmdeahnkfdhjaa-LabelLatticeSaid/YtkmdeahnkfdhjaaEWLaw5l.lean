/-
  The statements of layer 5 that keep two labels (level by level; the lattice), walked in abstract values. Conditions: lengths, bytes.
-/
import Derived.Test.YtkmdeahnkfdhjaaE23
import Derived.Test.YtkmdeahnkfdhjaaEWL5a
import Derived.Test.YtkmdeahnkfdhjaaEM9
namespace Go.Proofs.Ytkmdeahnkfdhjaa.E
open Go Go.RowKit Go.Proofs.YtkmdeahnkfdhjaaW.E
set_option linter.unusedVariables false
set_option linter.unusedSimpArgs false
set_option maxRecDepth 100000
set_option maxHeartbeats 8000000

theorem same_self (d : Int) (l : List Pr) : sameL d l d l = true := by simp [sameL]
theorem wfP_cat {l : List Pr} (h : ∀ p ∈ l, wfP p) : ∀ p ∈ l, 0 ≤ p.c ∧ p.c < 65536 := fun p hp => ⟨(h p hp).1, (h p hp).2.1⟩
theorem lv5 {l : List Pr} {d : Int} (h : ∀ p ∈ l, wfP p) (k : ∀ p ∈ l, p.l ≤ 5 ∧ p.l ≠ d) : ∀ p ∈ l, 0 ≤ p.l ∧ p.l ≤ 5 := fun p hp => ⟨(h p hp).2.2.1, (k p hp).1⟩

theorem rise_ge (x : Int) (h : x ≤ 5) : x ≤ rise x := by unfold rise; split <;> omega
theorem rise_in {x : Int} (h : 0 ≤ x ∧ x ≤ 5) : 0 ≤ rise x ∧ rise x ≤ 5 := by unfold rise; split <;> omega
theorem rise_ne {x : Int} : rise x ≠ 0 := by unfold rise; split <;> omega
theorem rise_rise (x : Int) : rise (rise x) = rise x := by unfold rise; split <;> simp_all
theorem at_le {q : Int} {d : Int} {l : List Pr} (hd : d ≤ q) (h : ∀ p ∈ l, p.l ≤ q) (c : Int) : at_ d l c ≤ q := by
  rcases at_cases d l c with ⟨_, h2⟩ | ⟨p, h1, _, h3⟩
  · omega
  · have := h p h1; omega
theorem bthL_q {h : Int → Int → Int} {q : Int → Prop} {da db : Int} {a b : List Pr} (hq : ∀ x y, q x → q y → q (h x y)) (hda : q da) (hdb : q db) (ha : ∀ p ∈ a, q p.l) (hb : ∀ p ∈ b, q p.l) : ∀ p ∈ bthL h da a db b, q p.l := fun p hp => by
  obtain ⟨t, ht, hp⟩ := List.mem_filterMap.1 hp
  have := mrgL_lv hda hdb ha hb t ht
  split at hp
  · cases hp
  · cases hp; exact hq _ _ this.1 this.2
theorem q_mx (x y : Int) (hx : 0 ≤ x ∧ x ≤ 5) (hy : 0 ≤ y ∧ y ≤ 5) : 0 ≤ mx x y ∧ mx x y ≤ 5 := mx_in hx.1 hx.2 hy.1 hy.2
theorem q_mn (x y : Int) (hx : 0 ≤ x ∧ x ≤ 5) (hy : 0 ≤ y ∧ y ≤ 5) : 0 ≤ mn x y ∧ mn x y ≤ 5 := mn_in hx.1 hx.2 hy.1 hy.2
theorem canon_bth {h : Int → Int → Int} {d e : Int} {l m : List Pr} (hq : ∀ x y, (0 ≤ x ∧ x ≤ 5) → (0 ≤ y ∧ y ≤ 5) → 0 ≤ h x y ∧ h x y ≤ 5) (hd : 0 ≤ d ∧ d ≤ 5) (he : 0 ≤ e ∧ e ≤ 5) (ll : ∀ p ∈ l, 0 ≤ p.l ∧ p.l ≤ 5) (lm : ∀ p ∈ m, 0 ≤ p.l ∧ p.l ≤ 5) (al : ascP l) (am : ascP m) : canon (h d e) (bthL h d l e m) = true :=
  canon_of (hq _ _ hd he).2 (bthL_asc al am) fun p hp => ⟨(bthL_q (q := fun x => 0 ≤ x ∧ x ≤ 5) hq hd he ll lm p hp).2, bthL_lv p hp⟩

theorem mx_comm (a b : Int) : mx a b = mx b a := by unfold mx; split <;> split <;> omega
theorem mx_assoc (a b c : Int) : mx a (mx b c) = mx (mx a b) c := by simp only [mx]; repeat' split <;> try omega
theorem mx_mn (a b : Int) : mx a (mn a b) = a := by simp only [mx, mn]; repeat' split <;> try omega
theorem mn_mx (a b : Int) : mn a (mx a b) = a := by simp only [mx, mn]; repeat' split <;> try omega
theorem le_mx (a b : Int) : a ≤ mx a b ∧ b ≤ mx a b := by unfold mx; split <;> omega
theorem mn_le (a b : Int) : mn a b ≤ a ∧ mn a b ≤ b := by unfold mn; split <;> omega
theorem mx_le {a b c : Int} (h : a ≤ c) (k : b ≤ c) : mx a b ≤ c := by unfold mx; split <;> omega
theorem le_mn {a b c : Int} (h : c ≤ a) (k : c ≤ b) : c ≤ mn a b := by unfold mn; split <;> omega
theorem mx_eq {a b : Int} (h : a ≤ b) : mx a b = b := by unfold mx; split <;> omega
theorem prs_inj : ∀ {l m : List Pr}, l.map (fun p => (p.c, p.l)) = m.map (fun p => (p.c, p.l)) → l = m
  | [], [], _ => rfl
  | [], _ :: _, h => by cases h
  | _ :: _, [], h => by cases h
  | p :: l, q :: m, h => by
    simp only [List.map_cons, List.cons.injEq, Prod.mk.injEq] at h
    obtain ⟨⟨h1, h2⟩, h3⟩ := h
    obtain ⟨c1, l1⟩ := p
    obtain ⟨c2, l2⟩ := q
    simp only at h1 h2
    rw [h1, h2, prs_inj h3]
theorem sameL_iff {d e : Int} {l m : List Pr} : sameL d l e m = true ↔ d = e ∧ l = m := by
  simp only [sameL, Bool.and_eq_true, decide_eq_true_eq]
  exact ⟨fun h => ⟨h.1, prs_inj h.2⟩, fun h => ⟨h.1, by rw [h.2]⟩⟩
/-- What is needed of a label here. -/
structure Ok5 (d : Int) (l : List Pr) : Prop where
  d0 : 0 ≤ d
  d5 : d ≤ 5
  asc : ascP l
  lv : ∀ p ∈ l, 0 ≤ p.l ∧ p.l ≤ 5
  ne : ∀ p ∈ l, p.l ≠ d
theorem Ok5.mx {d e : Int} {l m : List Pr} (a : Ok5 d l) (b : Ok5 e m) : Ok5 (mx d e) (bthL mx d l e m) :=
  ⟨(mx_in a.d0 a.d5 b.d0 b.d5).1, (mx_in a.d0 a.d5 b.d0 b.d5).2, bthL_asc a.asc b.asc, bthL_q (q := fun x => 0 ≤ x ∧ x ≤ 5) q_mx ⟨a.d0, a.d5⟩ ⟨b.d0, b.d5⟩ a.lv b.lv, bthL_lv⟩
theorem Ok5.mn {d e : Int} {l m : List Pr} (a : Ok5 d l) (b : Ok5 e m) : Ok5 (mn d e) (bthL mn d l e m) :=
  ⟨(mn_in a.d0 a.d5 b.d0 b.d5).1, (mn_in a.d0 a.d5 b.d0 b.d5).2, bthL_asc a.asc b.asc, bthL_q (q := fun x => 0 ≤ x ∧ x ≤ 5) q_mn ⟨a.d0, a.d5⟩ ⟨b.d0, b.d5⟩ a.lv b.lv, bthL_lv⟩
theorem Ok5.ext {d : Int} {l m : List Pr} (a : Ok5 d l) (b : Ok5 d m) (h : ∀ c, at_ d l c = at_ d m c) : l = m := lab_ext a.asc b.asc a.ne b.ne h
theorem flw_def {d e : Int} {l m : List Pr} (h : flw d l e m = true) : d ≤ e := by
  simp only [flw, Bool.and_eq_true, decide_eq_true_eq] at h; exact h.1
section
variable {d e f : Int} {l m q : List Pr} (a : Ok5 d l) (b : Ok5 e m) (c : Ok5 f q)
include a b
theorem lt_aj : flw d l (mx d e) (bthL mx d l e m) = true := (flw_iff a.asc (a.mx b).asc).2 fun x => by rw [bthL_at a.asc b.asc]; exact (le_mx _ _).1
theorem lt_bj : flw e m (mx d e) (bthL mx d l e m) = true := (flw_iff b.asc (a.mx b).asc).2 fun x => by rw [bthL_at a.asc b.asc]; exact (le_mx _ _).2
theorem lt_ma : flw (mn d e) (bthL mn d l e m) d l = true := (flw_iff (a.mn b).asc a.asc).2 fun x => by rw [bthL_at a.asc b.asc]; exact (mn_le _ _).1
theorem lt_mb : flw (mn d e) (bthL mn d l e m) e m = true := (flw_iff (a.mn b).asc b.asc).2 fun x => by rw [bthL_at a.asc b.asc]; exact (mn_le _ _).2
theorem lt_anti (h1 : flw d l e m = true) (h2 : flw e m d l = true) : sameL d l e m = true := by
  have e1 := flw_def h1
  have e2 := flw_def h2
  have e3 : d = e := by omega
  subst e3
  refine sameL_iff.2 ⟨rfl, a.ext b fun x => ?_⟩
  have := (flw_iff a.asc b.asc).1 h1 x
  have := (flw_iff b.asc a.asc).1 h2 x
  omega
theorem lt_comm : lab (mx e d) (bthL mx e m d l) = lab (mx d e) (bthL mx d l e m) := by
  have e1 := mx_comm e d
  have : bthL mx e m d l = bthL mx d l e m := by
    refine lab_ext (d := mx d e) (b.mx a).asc (a.mx b).asc (by rw [← e1]; exact (b.mx a).ne) (a.mx b).ne fun x => ?_
    rw [bthL_at a.asc b.asc, ← e1, bthL_at b.asc a.asc, mx_comm]
  rw [e1, this]
theorem lt_abs1 : lab (mx d (mn d e)) (bthL mx d l (mn d e) (bthL mn d l e m)) = lab d l := by
  have e1 := mx_mn d e
  have : bthL mx d l (mn d e) (bthL mn d l e m) = l := by
    refine lab_ext (d := d) (a.mx (a.mn b)).asc a.asc (by have := (a.mx (a.mn b)).ne; rwa [e1] at this) a.ne fun x => ?_
    have := bthL_at (h := mx) (da := d) (db := mn d e) a.asc (a.mn b).asc x
    rw [e1] at this
    rw [this, bthL_at a.asc b.asc, mx_mn]
  rw [e1, this]
theorem lt_abs2 : lab (mn d (mx d e)) (bthL mn d l (mx d e) (bthL mx d l e m)) = lab d l := by
  have e1 := mn_mx d e
  have : bthL mn d l (mx d e) (bthL mx d l e m) = l := by
    refine lab_ext (d := d) (a.mn (a.mx b)).asc a.asc (by have := (a.mn (a.mx b)).ne; rwa [e1] at this) a.ne fun x => ?_
    have := bthL_at (h := mn) (da := d) (db := mx d e) a.asc (a.mx b).asc x
    rw [e1] at this
    rw [this, bthL_at a.asc b.asc, mn_mx]
  rw [e1, this]
theorem lt_flw : sameL (mx d e) (bthL mx d l e m) e m = flw d l e m := by
  rw [Bool.eq_iff_iff, sameL_iff, flw_iff a.asc b.asc]
  constructor
  · rintro ⟨h1, h2⟩ x
    have h3 := bthL_at (h := mx) (da := d) (db := e) a.asc b.asc x
    rw [h2, h1] at h3
    rw [h3]
    exact (le_mx _ _).1
  · intro h
    have hd : d ≤ e := flw_def ((flw_iff a.asc b.asc).2 h)
    have e1 := mx_eq hd
    refine ⟨e1, lab_ext (d := e) (a.mx b).asc b.asc (by have := (a.mx b).ne; rwa [e1] at this) b.ne fun x => ?_⟩
    have h3 := bthL_at (h := mx) (da := d) (db := e) a.asc b.asc x
    rw [e1] at h3
    rw [h3, mx_eq (h x)]
include c
theorem lt_trans (h1 : flw d l e m = true) (h2 : flw e m f q = true) : flw d l f q = true :=
  (flw_iff a.asc c.asc).2 (((flw_iff a.asc b.asc).1 h1).trans ((flw_iff b.asc c.asc).1 h2))
theorem lt_jc (h1 : flw d l f q = true) (h2 : flw e m f q = true) : flw (mx d e) (bthL mx d l e m) f q = true :=
  (flw_iff (a.mx b).asc c.asc).2 fun x => by rw [bthL_at a.asc b.asc]; exact mx_le ((flw_iff a.asc c.asc).1 h1 x) ((flw_iff b.asc c.asc).1 h2 x)
theorem lt_cm (h1 : flw f q d l = true) (h2 : flw f q e m = true) : flw f q (mn d e) (bthL mn d l e m) = true :=
  (flw_iff c.asc (a.mn b).asc).2 fun x => by rw [bthL_at a.asc b.asc]; exact le_mn ((flw_iff c.asc a.asc).1 h1 x) ((flw_iff c.asc b.asc).1 h2 x)
theorem lt_assoc : lab (mx d (mx e f)) (bthL mx d l (mx e f) (bthL mx e m f q)) = lab (mx (mx d e) f) (bthL mx (mx d e) (bthL mx d l e m) f q) := by
  have e1 := mx_assoc d e f
  have : bthL mx d l (mx e f) (bthL mx e m f q) = bthL mx (mx d e) (bthL mx d l e m) f q := by
    refine lab_ext (d := mx (mx d e) f) (a.mx (b.mx c)).asc ((a.mx b).mx c).asc (by have := (a.mx (b.mx c)).ne; rwa [e1] at this) ((a.mx b).mx c).ne fun x => ?_
    rw [bthL_at (a.mx b).asc c.asc, bthL_at a.asc b.asc, ← e1, bthL_at a.asc (b.mx c).asc, bthL_at b.asc c.asc, mx_assoc]
  rw [e1, this]
end

def LI (d : Int) (l : List Pr) (e : Int) (m : List Pr) (f : Int) (q : List Pr) (R : (Nat → AV) → Prop) (st : St) : Prop := ∃ (s : Nat → AV) (B : Nat → Nat × List AV) (L : Nat → Nat), st = ⟨173, 0, s, B, L⟩ ∧ s 3 = .ptr 3 1 0 ∧ B 3 = (1, [u8 d, lps l]) ∧ s 4 = .ptr 4 1 0 ∧ B 4 = (1, [u8 e, lps m]) ∧ s 5 = .ptr 5 1 0 ∧ B 5 = (1, [u8 f, lps q]) ∧
  s 7 = .fn 16 [] ∧ s 8 = .ptr 8 1 0 ∧ B 8 = (1, [u8 (mx d e), lps (bthL mx d l e m)]) ∧ s 9 = .ptr 9 1 0 ∧ B 9 = (1, [u8 (mn d e), lps (bthL mn d l e m)]) ∧ R s
theorem sp_LFl {d e : Int} {l m : List Pr} (a : Ok5 d l) (b : Ok5 e m) (hl : l.length ≤ 500000) (hm : m.length ≤ 500000) : ACall Try.prog 25 [lab d l, lab e m] (bo (flw d l e m)) :=
  sp_LFlows d l e m (by omega) (by omega) a.d0 b.d0 (fun p hp => (a.lv p hp).1) (fun p hp => (b.lv p hp).1)
theorem sp_LJn {d e : Int} {l m : List Pr} (a : Ok5 d l) (b : Ok5 e m) (hl : l.length ≤ 500000) (hm : m.length ≤ 500000) : ACall Try.prog 29 [lab d l, lab e m] (lab (mx d e) (bthL mx d l e m)) :=
  sp_LJoin d l e m hl hm ⟨a.d0, a.d5⟩ ⟨b.d0, b.d5⟩ a.lv b.lv
theorem sp_LMt {d e : Int} {l m : List Pr} (a : Ok5 d l) (b : Ok5 e m) (hl : l.length ≤ 500000) (hm : m.length ≤ 500000) : ACall Try.prog 31 [lab d l, lab e m] (lab (mn d e) (bthL mn d l e m)) :=
  sp_LMeet d l e m hl hm ⟨a.d0, a.d5⟩ ⟨b.d0, b.d5⟩ a.lv b.lv
theorem sp_Sm (d : Int) (l : List Pr) (hl : l.length ≤ 500000) : ACall Try.prog 16 [lab d l, lab d l] (bo true) := by
  have h := sp_RSame d l d l (by omega) (by omega)
  rw [same_self] at h
  exact h

theorem sp_LabelLattice (d : Int) (l : List Pr) (e : Int) (m : List Pr) (f : Int) (q : List Pr) (hd : isB d) (hl : l.length ≤ 35184372087808) (hw : ∀ p ∈ l, wfP p) (he : isB e) (hm : m.length ≤ 35184372087808) (hw' : ∀ p ∈ m, wfP p) (hf : isB f) (hq : q.length ≤ 35184372087808) (hw2 : ∀ p ∈ q, wfP p) :
    ACall Try.prog 11 [lab d l, lab e m, lab f q] (bo true) := by
  refine acall_of Try.func11 rfl rfl (Nat.le_of_ble_eq_true rfl) T_ok (fun base w0 => ?_)
  refine AWp.seq (AWp.regionW T_ok rfl (WL.all (by simp (decide := true) only [EVs, EVt, Array.toList] <;> exact rfl) ?_))
  refine AWp.seq (AWp.seq (AWp.regionW T_ok rfl ?_))
  (repeat (first | refine WL.c rfl rfl rfl (by simp (decide := true) only [EVs, EVt, Array.toList] <;> exact rfl) (by simp (decide := true) only [EVs, EVt, Array.toList, calleeOf] <;> exact rfl) (by simp (decide := true) only [EVs, EVt, Array.toList, argsOf, frz] <;> exact rfl) (by first | exact sp_begun5) rfl ?_ | refine WL.f rfl rfl rfl (by simp (decide := true) only [EVs, EVt, Array.toList] <;> exact rfl) (by simp (decide := true) only [EVs, EVt, Array.toList, calleeOf] <;> exact rfl) (by simp (decide := true) only [EVs, EVt, Array.toList, argsOf, frz] <;> exact rfl) (by first | exact sp_begun5) ?_ | refine WL.one (by simp (decide := true) only [EVs, EVt, Array.toList] <;> exact rfl) ?_)); refine WL.nil ?_
  refine AWp.cond (t := false) rfl (AWp.skip ?_)
  have g1 := sp_Light d l (by omega)
  have g2 := sp_Light e m (by omega)
  have g3 := sp_Light f q (by omega)
  cases h1 : lig d l with
  | false =>
    rw [h1] at g1
    refine AWp.seq (AWp.seq (AWp.regionW T_ok rfl ?_))
    (repeat (first | refine WL.c rfl rfl rfl (by simp (decide := true) only [EVs, EVt, Array.toList] <;> exact rfl) (by simp (decide := true) only [EVs, EVt, Array.toList, calleeOf] <;> exact rfl) (by simp (decide := true) only [EVs, EVt, Array.toList, argsOf, frz] <;> exact rfl) (by first | exact g1) rfl ?_ | refine WL.f rfl rfl rfl (by simp (decide := true) only [EVs, EVt, Array.toList] <;> exact rfl) (by simp (decide := true) only [EVs, EVt, Array.toList, calleeOf] <;> exact rfl) (by simp (decide := true) only [EVs, EVt, Array.toList, argsOf, frz] <;> exact rfl) (by first | exact g1) ?_ | refine WL.one (by simp (decide := true) only [EVs, EVt, Array.toList] <;> exact rfl) ?_)); refine WL.nil ?_
    refine AWp.cond (t := true) rfl (AWp.seq (AWp.regionW T_ok rfl (WL.all (by simp (decide := true) only [EVs, EVt, Array.toList] <;> exact rfl) ?_)))
    exact AWp.ret ⟨_, rfl, .inl (.refl _)⟩
  | true =>
  rw [h1] at g1
  cases h2 : lig e m with
  | false =>
    rw [h2] at g2
    refine AWp.seq (AWp.seq (AWp.regionW T_ok rfl ?_))
    (repeat (first | refine WL.c rfl rfl rfl (by simp (decide := true) only [EVs, EVt, Array.toList] <;> exact rfl) (by simp (decide := true) only [EVs, EVt, Array.toList, calleeOf] <;> exact rfl) (by simp (decide := true) only [EVs, EVt, Array.toList, argsOf, frz] <;> exact rfl) (by first | exact g1 | exact g2) rfl ?_ | refine WL.f rfl rfl rfl (by simp (decide := true) only [EVs, EVt, Array.toList] <;> exact rfl) (by simp (decide := true) only [EVs, EVt, Array.toList, calleeOf] <;> exact rfl) (by simp (decide := true) only [EVs, EVt, Array.toList, argsOf, frz] <;> exact rfl) (by first | exact g1 | exact g2) ?_ | refine WL.one (by simp (decide := true) only [EVs, EVt, Array.toList] <;> exact rfl) ?_)); refine WL.nil ?_
    refine AWp.cond (t := true) rfl (AWp.seq (AWp.regionW T_ok rfl (WL.all (by simp (decide := true) only [EVs, EVt, Array.toList] <;> exact rfl) ?_)))
    exact AWp.ret ⟨_, rfl, .inl (.refl _)⟩
  | true =>
  rw [h2] at g2
  cases h3 : lig f q with
  | false =>
    rw [h3] at g3
    refine AWp.seq (AWp.seq (AWp.regionW T_ok rfl ?_))
    (repeat (first | refine WL.c rfl rfl rfl (by simp (decide := true) only [EVs, EVt, Array.toList] <;> exact rfl) (by simp (decide := true) only [EVs, EVt, Array.toList, calleeOf] <;> exact rfl) (by simp (decide := true) only [EVs, EVt, Array.toList, argsOf, frz] <;> exact rfl) (by first | exact g1 | exact g2 | exact g3) rfl ?_ | refine WL.f rfl rfl rfl (by simp (decide := true) only [EVs, EVt, Array.toList] <;> exact rfl) (by simp (decide := true) only [EVs, EVt, Array.toList, calleeOf] <;> exact rfl) (by simp (decide := true) only [EVs, EVt, Array.toList, argsOf, frz] <;> exact rfl) (by first | exact g1 | exact g2 | exact g3) ?_ | refine WL.one (by simp (decide := true) only [EVs, EVt, Array.toList] <;> exact rfl) ?_)); refine WL.nil ?_
    refine AWp.cond (t := true) rfl (AWp.seq (AWp.regionW T_ok rfl (WL.all (by simp (decide := true) only [EVs, EVt, Array.toList] <;> exact rfl) ?_)))
    exact AWp.ret ⟨_, rfl, .inl (.refl _)⟩
  | true =>
  rw [h3] at g3
  refine AWp.seq (AWp.seq (AWp.regionW T_ok rfl ?_))
  (repeat (first | refine WL.c rfl rfl rfl (by simp (decide := true) only [EVs, EVt, Array.toList] <;> exact rfl) (by simp (decide := true) only [EVs, EVt, Array.toList, calleeOf] <;> exact rfl) (by simp (decide := true) only [EVs, EVt, Array.toList, argsOf, frz] <;> exact rfl) (by first | exact g1 | exact g2 | exact g3) rfl ?_ | refine WL.f rfl rfl rfl (by simp (decide := true) only [EVs, EVt, Array.toList] <;> exact rfl) (by simp (decide := true) only [EVs, EVt, Array.toList, calleeOf] <;> exact rfl) (by simp (decide := true) only [EVs, EVt, Array.toList, argsOf, frz] <;> exact rfl) (by first | exact g1 | exact g2 | exact g3) ?_ | refine WL.one (by simp (decide := true) only [EVs, EVt, Array.toList] <;> exact rfl) ?_)); refine WL.nil ?_
  refine AWp.cond (t := false) rfl (AWp.skip ?_)
  clear g1 g2 g3
  obtain ⟨l24, d5, al, ll⟩ := lig_spec h1
  obtain ⟨m24, e5, am, lm⟩ := lig_spec h2
  obtain ⟨q24, f5, aq, lq⟩ := lig_spec h3
  have a : Ok5 d l := ⟨hd.1, d5, al, lv5 hw ll, fun p hp => (ll p hp).2⟩
  have b : Ok5 e m := ⟨he.1, e5, am, lv5 hw' lm, fun p hp => (lm p hp).2⟩
  have c : Ok5 f q := ⟨hf.1, f5, aq, lv5 hw2 lq, fun p hp => (lq p hp).2⟩
  have jl := bthL_len (h := mx) (da := d) (db := e) (a := l) (b := m)
  have nl := bthL_len (h := mn) (da := d) (db := e) (a := l) (b := m)
  have bl := bthL_len (h := mx) (da := e) (db := f) (a := m) (b := q)
  refine AWp.seq (AWp.regionW T_ok rfl (WL.all (by simp (decide := true) only [EVs, EVt, Array.toList] <;> exact rfl) ?_))
  refine AWp.seqI (LI d l e m f q fun _ => True) ?_ ?_
  · have tJ := sp_LJn a b (by omega) (by omega)
    have tM := sp_LMt a b (by omega) (by omega)
    refine AWp.drawnJ [some 3, some 4, some 100, some 3, some 4, some 101, some 8, some 9, some 8, some 9] T_ok mixed (by kernel_rfl) rfl rfl ?_
    (repeat (first | refine WJ.c rfl rfl rfl (by simp (decide := true) only [EVs, EVt, Array.toList] <;> exact rfl) (by simp (decide := true) only [EVs, EVt, Array.toList, calleeOf] <;> exact rfl) (by simp (decide := true) only [EVs, EVt, Array.toList, argsOf, frz] <;> exact rfl) (by first | exact tJ | exact tM) rfl (by first | exact keyB_none _ _ _ | (simp (decide := true) only [EVs, EVt, Array.toList, keyB, keyFits, dry, beq_self_eq_true, Bool.and_true, Bool.true_and] <;> rfl)) ?_ | refine WJ.one (by simp (decide := true) only [EVs, EVt, Array.toList, stepL] <;> exact rfl) (by first | exact keyB_none _ _ _ | (simp (decide := true) only [EVs, EVt, Array.toList, keyB, keyFits, dry, beq_self_eq_true, Bool.and_true, Bool.true_and] <;> rfl)) ?_)); refine WJ.nil ?_
    exact ⟨_, _, _, rfl, rfl, rfl, rfl, rfl, rfl, rfl, rfl, rfl, rfl, rfl, rfl, trivial⟩
  rintro st ⟨s, B, L, rfl, s3, B3, s4, B4, s5, B5, s7, s8, B8, s9, B9, -⟩
  have fAB := sp_LFl a b (by omega) (by omega)
  have fBC := sp_LFl b c (by omega) (by omega)
  have fAC := sp_LFl a c (by omega) (by omega)
  refine AWp.seqI (LI d l e m f q fun s => s 10 = bo true) ?_ ?_
  · have fAA := sp_LFl a a (by omega) (by omega)
    rw [(flw_iff al al).2 (Le.refl d l)] at fAA
    have fBA := sp_LFl b a (by omega) (by omega)
    have sAB := sp_RSame d l e m (by omega) (by omega)
    cases x1 : flw d l e m with
    | false =>
      rw [x1] at fAB
      refine (AWp.regionW T_ok rfl ?_)
      simp only [List.append_eq, List.cons_append, List.nil_append]
      (repeat (first | refine WL.c rfl rfl rfl (by simp (decide := true) only [EVs, EVt, Array.toList, s3, B3, s4, B4, s5, B5, s7, s8, B8, s9, B9] <;> exact rfl) (by simp (decide := true) only [EVs, EVt, Array.toList, calleeOf, s3, B3, s4, B4, s5, B5, s7, s8, B8, s9, B9] <;> exact rfl) (by simp (decide := true) only [EVs, EVt, Array.toList, argsOf, frz, s3, B3, s4, B4, s5, B5, s7, s8, B8, s9, B9] <;> exact rfl) (by first | exact fAA | exact fAB) rfl ?_ | refine WL.f rfl rfl rfl (by simp (decide := true) only [EVs, EVt, Array.toList, s3, B3, s4, B4, s5, B5, s7, s8, B8, s9, B9] <;> exact rfl) (by simp (decide := true) only [EVs, EVt, Array.toList, calleeOf, s3, B3, s4, B4, s5, B5, s7, s8, B8, s9, B9] <;> exact rfl) (by simp (decide := true) only [EVs, EVt, Array.toList, argsOf, frz, s3, B3, s4, B4, s5, B5, s7, s8, B8, s9, B9] <;> exact rfl) (by first | exact fAA | exact fAB) ?_ | refine WL.one (by simp (decide := true) only [EVs, EVt, Array.toList, s3, B3, s4, B4, s5, B5, s7, s8, B8, s9, B9] <;> exact rfl) ?_)); refine WL.nil ?_
      refine ⟨_, _, _, rfl, ?_, B3, ?_, B4, ?_, B5, ?_, ?_, B8, ?_, B9, ?_⟩
      · simp (decide := true) only [EVs, EVt, Array.toList, s3]
      · simp (decide := true) only [EVs, EVt, Array.toList, s4]
      · simp (decide := true) only [EVs, EVt, Array.toList, s5]
      · simp (decide := true) only [EVs, EVt, Array.toList, s7]
      · simp (decide := true) only [EVs, EVt, Array.toList, s8]
      · simp (decide := true) only [EVs, EVt, Array.toList, s9]
      · simp (decide := true) only [EVs, EVt, Array.toList]
    | true =>
      rw [x1] at fAB
      have x2' := lt_trans a b c x1
      have x3' := lt_anti a b x1
      cases x2 : flw e m f q <;> cases x3 : flw e m d l
      all_goals
        rw [x2] at fBC
        rw [x3] at fBA
        try rw [x2' x2] at fAC
        try rw [x3' x3] at sAB
        refine (AWp.regionW T_ok rfl ?_)
        simp only [List.append_eq, List.cons_append, List.nil_append]
        (repeat (first | refine WL.c rfl rfl rfl (by simp (decide := true) only [EVs, EVt, Array.toList, s3, B3, s4, B4, s5, B5, s7, s8, B8, s9, B9] <;> exact rfl) (by simp (decide := true) only [EVs, EVt, Array.toList, calleeOf, s3, B3, s4, B4, s5, B5, s7, s8, B8, s9, B9] <;> exact rfl) (by simp (decide := true) only [EVs, EVt, Array.toList, argsOf, frz, s3, B3, s4, B4, s5, B5, s7, s8, B8, s9, B9] <;> exact rfl) (by first | exact fAA | exact fAB | exact fBC | exact fAC | exact fBA | exact sAB) rfl ?_ | refine WL.f rfl rfl rfl (by simp (decide := true) only [EVs, EVt, Array.toList, s3, B3, s4, B4, s5, B5, s7, s8, B8, s9, B9] <;> exact rfl) (by simp (decide := true) only [EVs, EVt, Array.toList, calleeOf, s3, B3, s4, B4, s5, B5, s7, s8, B8, s9, B9] <;> exact rfl) (by simp (decide := true) only [EVs, EVt, Array.toList, argsOf, frz, s3, B3, s4, B4, s5, B5, s7, s8, B8, s9, B9] <;> exact rfl) (by first | exact fAA | exact fAB | exact fBC | exact fAC | exact fBA | exact sAB) ?_ | refine WL.one (by simp (decide := true) only [EVs, EVt, Array.toList, s3, B3, s4, B4, s5, B5, s7, s8, B8, s9, B9] <;> exact rfl) ?_)); refine WL.nil ?_
        refine ⟨_, _, _, rfl, ?_, B3, ?_, B4, ?_, B5, ?_, ?_, B8, ?_, B9, ?_⟩
        · simp (decide := true) only [EVs, EVt, Array.toList, s3]
        · simp (decide := true) only [EVs, EVt, Array.toList, s4]
        · simp (decide := true) only [EVs, EVt, Array.toList, s5]
        · simp (decide := true) only [EVs, EVt, Array.toList, s7]
        · simp (decide := true) only [EVs, EVt, Array.toList, s8]
        · simp (decide := true) only [EVs, EVt, Array.toList, s9]
        · simp (decide := true) only [EVs, EVt, Array.toList]
  rintro st ⟨s, B, L, rfl, s3, B3, s4, B4, s5, B5, s7, s8, B8, s9, B9, s10⟩
  refine AWp.seqI (LI d l e m f q fun s => s 10 = bo true ∧ s 11 = bo true) ?_ ?_
  · have fAJ := sp_LFl a (a.mx b) (by omega) (by omega)
    have fBJ := sp_LFl b (a.mx b) (by omega) (by omega)
    have fMA := sp_LFl (a.mn b) a (by omega) (by omega)
    have fMB := sp_LFl (a.mn b) b (by omega) (by omega)
    rw [lt_aj a b] at fAJ
    rw [lt_bj a b] at fBJ
    rw [lt_ma a b] at fMA
    rw [lt_mb a b] at fMB
    have fJC := sp_LFl (a.mx b) c (by omega) (by omega)
    have fCM := sp_LFl c (a.mn b) (by omega) (by omega)
    have fCA := sp_LFl c a (by omega) (by omega)
    have fCB := sp_LFl c b (by omega) (by omega)
    have y' := lt_jc a b c
    have z' := lt_cm a b c
    cases y1 : flw d l f q <;> cases y2 : flw e m f q <;> cases z1 : flw f q d l <;> cases z2 : flw f q e m
    all_goals
      rw [y1] at fAC
      rw [y2] at fBC
      rw [z1] at fCA
      rw [z2] at fCB
      try rw [y' y1 y2] at fJC
      try rw [z' z1 z2] at fCM
      refine (AWp.regionW T_ok rfl ?_)
      simp only [List.append_eq, List.cons_append, List.nil_append]
      (repeat (first | refine WL.c rfl rfl rfl (by simp (decide := true) only [EVs, EVt, Array.toList, s3, B3, s4, B4, s5, B5, s7, s8, B8, s9, B9] <;> exact rfl) (by simp (decide := true) only [EVs, EVt, Array.toList, calleeOf, s3, B3, s4, B4, s5, B5, s7, s8, B8, s9, B9] <;> exact rfl) (by simp (decide := true) only [EVs, EVt, Array.toList, argsOf, frz, s3, B3, s4, B4, s5, B5, s7, s8, B8, s9, B9] <;> exact rfl) (by first | exact fAJ | exact fBJ | exact fMA | exact fMB | exact fAC | exact fBC | exact fJC | exact fCA | exact fCB | exact fCM) rfl ?_ | refine WL.f rfl rfl rfl (by simp (decide := true) only [EVs, EVt, Array.toList, s3, B3, s4, B4, s5, B5, s7, s8, B8, s9, B9] <;> exact rfl) (by simp (decide := true) only [EVs, EVt, Array.toList, calleeOf, s3, B3, s4, B4, s5, B5, s7, s8, B8, s9, B9] <;> exact rfl) (by simp (decide := true) only [EVs, EVt, Array.toList, argsOf, frz, s3, B3, s4, B4, s5, B5, s7, s8, B8, s9, B9] <;> exact rfl) (by first | exact fAJ | exact fBJ | exact fMA | exact fMB | exact fAC | exact fBC | exact fJC | exact fCA | exact fCB | exact fCM) ?_ | refine WL.one (by simp (decide := true) only [EVs, EVt, Array.toList, s3, B3, s4, B4, s5, B5, s7, s8, B8, s9, B9] <;> exact rfl) ?_)); refine WL.nil ?_
      refine ⟨_, _, _, rfl, ?_, B3, ?_, B4, ?_, B5, ?_, ?_, B8, ?_, B9, ⟨?_, ?_⟩⟩
      · simp (decide := true) only [EVs, EVt, Array.toList, s3]
      · simp (decide := true) only [EVs, EVt, Array.toList, s4]
      · simp (decide := true) only [EVs, EVt, Array.toList, s5]
      · simp (decide := true) only [EVs, EVt, Array.toList, s7]
      · simp (decide := true) only [EVs, EVt, Array.toList, s8]
      · simp (decide := true) only [EVs, EVt, Array.toList, s9]
      · simp (decide := true) only [EVs, EVt, Array.toList, s10]
      · simp (decide := true) only [EVs, EVt, Array.toList]
  rintro st ⟨s, B, L, rfl, s3, B3, s4, B4, s5, B5, s7, s8, B8, s9, B9, s10, s11⟩
  have jBA := sp_LJn b a (by omega) (by omega)
  rw [lt_comm a b] at jBA
  have sJ := sp_Sm (mx d e) (bthL mx d l e m) (by omega)
  have jBC := sp_LJn b c (by omega) (by omega)
  have jABC := sp_LJn a (b.mx c) (by omega) (by omega)
  rw [lt_assoc a b c] at jABC
  have jJC := sp_LJn (a.mx b) c (by omega) (by omega)
  have xl := bthL_len (h := mx) (da := mx d e) (db := f) (a := bthL mx d l e m) (b := q)
  have sX := sp_Sm (mx (mx d e) f) (bthL mx (mx d e) (bthL mx d l e m) f q) (by omega)
  have jAM := sp_LJn a (a.mn b) (by omega) (by omega)
  rw [lt_abs1 a b] at jAM
  have mAJ := sp_LMt a (a.mx b) (by omega) (by omega)
  rw [lt_abs2 a b] at mAJ
  have sA := sp_Sm d l (by omega)
  have sJB := sp_RSame (mx d e) (bthL mx d l e m) e m (by omega) (by omega)
  rw [lt_flw a b] at sJB
  refine AWp.seq (AWp.drawnW T_ok mixed (by kernel_rfl) rfl ?_)
  simp only [List.append_eq, List.cons_append, List.nil_append]
  (repeat (first | refine WL.c rfl rfl rfl (by simp (decide := true) only [EVs, EVt, Array.toList, s3, B3, s4, B4, s5, B5, s7, s8, B8, s9, B9, s10, s11, beq_self_eq_true] <;> exact rfl) (by simp (decide := true) only [EVs, EVt, Array.toList, calleeOf, s3, B3, s4, B4, s5, B5, s7, s8, B8, s9, B9, s10, s11, beq_self_eq_true] <;> exact rfl) (by simp (decide := true) only [EVs, EVt, Array.toList, argsOf, frz, s3, B3, s4, B4, s5, B5, s7, s8, B8, s9, B9, s10, s11, beq_self_eq_true] <;> exact rfl) (by first | exact jBA | exact sJ | exact jBC | exact jABC | exact jJC | exact sX | exact jAM | exact mAJ | exact sA | exact fAB | exact sJB) rfl ?_ | refine WL.f rfl rfl rfl (by simp (decide := true) only [EVs, EVt, Array.toList, s3, B3, s4, B4, s5, B5, s7, s8, B8, s9, B9, s10, s11, beq_self_eq_true] <;> exact rfl) (by simp (decide := true) only [EVs, EVt, Array.toList, calleeOf, s3, B3, s4, B4, s5, B5, s7, s8, B8, s9, B9, s10, s11, beq_self_eq_true] <;> exact rfl) (by simp (decide := true) only [EVs, EVt, Array.toList, argsOf, frz, s3, B3, s4, B4, s5, B5, s7, s8, B8, s9, B9, s10, s11, beq_self_eq_true] <;> exact rfl) (by first | exact jBA | exact sJ | exact jBC | exact jABC | exact jJC | exact sX | exact jAM | exact mAJ | exact sA | exact fAB | exact sJB) ?_ | refine WL.one (by simp (decide := true) only [EVs, EVt, Array.toList, s3, B3, s4, B4, s5, B5, s7, s8, B8, s9, B9, s10, s11, beq_self_eq_true] <;> exact rfl) ?_)); refine WL.nil ?_
  exact AWp.ret ⟨_, rfl, .inl (.refl _)⟩
end Go.Proofs.Ytkmdeahnkfdhjaa.E
