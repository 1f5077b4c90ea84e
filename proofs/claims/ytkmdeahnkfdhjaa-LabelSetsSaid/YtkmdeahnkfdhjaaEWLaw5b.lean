/-
  The statements of layer 5 level by level, walked in abstract values. Conditions: lengths, bytes.
-/
import Derived.Test.YtkmdeahnkfdhjaaEWLaw5
namespace Go.Proofs.Ytkmdeahnkfdhjaa.E
open Go Go.RowKit Go.Proofs.YtkmdeahnkfdhjaaW.E
set_option linter.unusedVariables false
set_option linter.unusedSimpArgs false
set_option maxRecDepth 100000
set_option maxHeartbeats 8000000

theorem rise_ge (x : Int) (h : x ≤ 5) : x ≤ rise x := by unfold rise; split <;> omega
theorem rise_in {x : Int} (h : 0 ≤ x ∧ x ≤ 5) : 0 ≤ rise x ∧ rise x ≤ 5 := by unfold rise; split <;> omega
theorem rise_ne {x : Int} : rise x ≠ 0 := by unfold rise; split <;> omega
theorem rise_rise (x : Int) : rise (rise x) = rise x := by unfold rise; split <;> simp_all
theorem at_le {q : Int} {d : Int} {l : List Pr} (hd : d ≤ q) (h : ∀ p ∈ l, p.l ≤ q) (c : Int) : at_ d l c ≤ q := by
  rcases at_cases d l c with ⟨_, h2⟩ | ⟨p, h1, _, h3⟩
  · omega
  · have := h p h1; omega
theorem bthL_q {h : Int → Int → Int} {q : Int → Prop} {da db : Int} {a b : List Pr} (hq : ∀ x y, q x → q y → q (h x y)) (hda : q da) (hdb : q db) (ha : ∀ p ∈ a, q p.l) (hb : ∀ p ∈ b, q p.l) : ∀ p ∈ bthL h da a db b, q p.l := fun p hp => by
  obtain ⟨t, ht, hp⟩ := List.mem_filterMap.1 hp
  have := mrgL_lv hda hdb ha hb t ht
  split at hp
  · cases hp
  · cases hp; exact hq _ _ this.1 this.2
theorem q_mx (x y : Int) (hx : 0 ≤ x ∧ x ≤ 5) (hy : 0 ≤ y ∧ y ≤ 5) : 0 ≤ mx x y ∧ mx x y ≤ 5 := mx_in hx.1 hx.2 hy.1 hy.2
theorem q_mn (x y : Int) (hx : 0 ≤ x ∧ x ≤ 5) (hy : 0 ≤ y ∧ y ≤ 5) : 0 ≤ mn x y ∧ mn x y ≤ 5 := mn_in hx.1 hx.2 hy.1 hy.2
theorem canon_bth {h : Int → Int → Int} {d e : Int} {l m : List Pr} (hq : ∀ x y, (0 ≤ x ∧ x ≤ 5) → (0 ≤ y ∧ y ≤ 5) → 0 ≤ h x y ∧ h x y ≤ 5) (hd : 0 ≤ d ∧ d ≤ 5) (he : 0 ≤ e ∧ e ≤ 5) (ll : ∀ p ∈ l, 0 ≤ p.l ∧ p.l ≤ 5) (lm : ∀ p ∈ m, 0 ≤ p.l ∧ p.l ≤ 5) (al : ascP l) (am : ascP m) : canon (h d e) (bthL h d l e m) = true :=
  canon_of (hq _ _ hd he).2 (bthL_asc al am) fun p hp => ⟨(bthL_q (q := fun x => 0 ≤ x ∧ x ≤ 5) hq hd he ll lm p hp).2, bthL_lv p hp⟩

theorem sp_LabelRises (d : Int) (l : List Pr) (hd : isB d) (hl : l.length ≤ 35184372087808) (hw : ∀ p ∈ l, wfP p) : ACall Try.prog 5 [lab d l] (bo true) := by
  refine acall_of Try.func5 rfl rfl (Nat.le_of_ble_eq_true rfl) T_ok (fun base w0 => ?_)
  refine AWp.seq (AWp.regionW T_ok rfl (WL.all (by simp (decide := true) only [EVs, EVt, Array.toList] <;> exact rfl) ?_))
  refine AWp.seq (AWp.seq (AWp.regionW T_ok rfl ?_))
  (repeat (first | refine WL.c rfl rfl rfl (by simp (decide := true) only [EVs, EVt, Array.toList] <;> exact rfl) (by simp (decide := true) only [EVs, EVt, Array.toList, calleeOf] <;> exact rfl) (by simp (decide := true) only [EVs, EVt, Array.toList, argsOf, frz] <;> exact rfl) (by first | exact sp_begun5) rfl ?_ | refine WL.f rfl rfl rfl (by simp (decide := true) only [EVs, EVt, Array.toList] <;> exact rfl) (by simp (decide := true) only [EVs, EVt, Array.toList, calleeOf] <;> exact rfl) (by simp (decide := true) only [EVs, EVt, Array.toList, argsOf, frz] <;> exact rfl) (by first | exact sp_begun5) ?_ | refine WL.one (by simp (decide := true) only [EVs, EVt, Array.toList] <;> exact rfl) ?_)); refine WL.nil ?_
  refine AWp.cond (t := false) rfl (AWp.skip ?_)
  have g1 := sp_Light d l (by omega)
  cases h1 : lig d l with
  | false =>
    rw [h1] at g1
    refine AWp.seq (AWp.seq (AWp.regionW T_ok rfl ?_))
    (repeat (first | refine WL.c rfl rfl rfl (by simp (decide := true) only [EVs, EVt, Array.toList] <;> exact rfl) (by simp (decide := true) only [EVs, EVt, Array.toList, calleeOf] <;> exact rfl) (by simp (decide := true) only [EVs, EVt, Array.toList, argsOf, frz] <;> exact rfl) (by first | exact g1) rfl ?_ | refine WL.f rfl rfl rfl (by simp (decide := true) only [EVs, EVt, Array.toList] <;> exact rfl) (by simp (decide := true) only [EVs, EVt, Array.toList, calleeOf] <;> exact rfl) (by simp (decide := true) only [EVs, EVt, Array.toList, argsOf, frz] <;> exact rfl) (by first | exact g1) ?_ | refine WL.one (by simp (decide := true) only [EVs, EVt, Array.toList] <;> exact rfl) ?_)); refine WL.nil ?_
    refine AWp.cond (t := true) rfl (AWp.seq (AWp.regionW T_ok rfl (WL.all (by simp (decide := true) only [EVs, EVt, Array.toList] <;> exact rfl) ?_)))
    exact AWp.ret ⟨_, rfl, .inl (.refl _)⟩
  | true =>
    rw [h1] at g1
    refine AWp.seq (AWp.seq (AWp.regionW T_ok rfl ?_))
    (repeat (first | refine WL.c rfl rfl rfl (by simp (decide := true) only [EVs, EVt, Array.toList] <;> exact rfl) (by simp (decide := true) only [EVs, EVt, Array.toList, calleeOf] <;> exact rfl) (by simp (decide := true) only [EVs, EVt, Array.toList, argsOf, frz] <;> exact rfl) (by first | exact g1) rfl ?_ | refine WL.f rfl rfl rfl (by simp (decide := true) only [EVs, EVt, Array.toList] <;> exact rfl) (by simp (decide := true) only [EVs, EVt, Array.toList, calleeOf] <;> exact rfl) (by simp (decide := true) only [EVs, EVt, Array.toList, argsOf, frz] <;> exact rfl) (by first | exact g1) ?_ | refine WL.one (by simp (decide := true) only [EVs, EVt, Array.toList] <;> exact rfl) ?_)); refine WL.nil ?_
    refine AWp.cond (t := false) rfl (AWp.skip ?_)
    obtain ⟨l24, d5, al, ll⟩ := lig_spec h1
    have ll' := lv5 hw ll
    have hd' := rise_in ⟨hd.1, d5⟩
    have rq : ∀ p ∈ risL d l, 0 ≤ p.l ∧ p.l ≤ 5 := bthL_q (h := fun x _ => rise x) (q := fun x => 0 ≤ x ∧ x ≤ 5) (fun x _ hx _ => rise_in hx) ⟨hd.1, d5⟩ ⟨hd.1, d5⟩ ll' ll'
    have rz : ∀ p ∈ risL d l, p.l ≠ 0 := fun p hp => by
      obtain ⟨t, ht, hp⟩ := List.mem_filterMap.1 hp
      split at hp
      · cases hp
      · cases hp; exact rise_ne
    have ra := risL_asc (d := d) al
    have rl : (risL d l).length ≤ l.length + l.length := bthL_len
    have rr : risL (rise d) (risL d l) = risL d l := lab_ext (d := rise d) (risL_asc ra) ra (fun p hp => by have := bthL_lv (h := fun x _ => rise x) (da := rise d) (db := rise d) (a := risL d l) (b := risL d l) p hp; simpa [rise_rise] using this) (fun p hp => bthL_lv (h := fun x _ => rise x) (da := d) (db := d) (a := l) (b := l) p hp) fun c => by
      have h3 := risL_at ra (d := rise d) c
      rw [rise_rise] at h3
      rw [h3, risL_at al, rise_rise]
    have t1 := sp_LRise d l (by omega)
    have t2 := sp_LFlows d l (rise d) (risL d l) (by omega) (by omega) hd.1 hd'.1 (fun p hp => (ll' p hp).1) (fun p hp => (rq p hp).1)
    rw [(flw_iff al ra).2 (fun c => by rw [risL_at al]; exact rise_ge _ (at_le d5 (fun p hp => (ll' p hp).2) c))] at t2
    have t3 := sp_Stars (rise d) (risL d l) (by omega)
    rw [show lvs (risL d l) 0 = [] by
      unfold lvs
      rw [List.map_eq_nil_iff, List.filter_eq_nil_iff]
      intro p hp
      simpa using rz p hp] at t3
    have t4 := sp_LRise (rise d) (risL d l) (by omega)
    rw [rr, rise_rise] at t4
    have t5 := sp_RSame (rise d) (risL d l) (rise d) (risL d l) (by omega) (by omega)
    rw [same_self] at t5
    have t6 := sp_Canon (rise d) (risL d l) (by omega)
    rw [canon_of hd'.2 ra (fun p hp => ⟨(rq p hp).2, bthL_lv (h := fun x _ => rise x) (da := d) (db := d) (a := l) (b := l) p hp⟩)] at t6
    have c1 : eqI (rise d) 0 = false := eqI_f rise_ne
    refine AWp.seq (AWp.regionW T_ok rfl ?_)
    (repeat (first | refine WL.c rfl rfl rfl (by simp (decide := true) only [EVs, EVt, Array.toList] <;> exact rfl) (by simp (decide := true) only [EVs, EVt, Array.toList, calleeOf] <;> exact rfl) (by simp (decide := true) only [EVs, EVt, Array.toList, argsOf, frz] <;> exact rfl) (by first | exact t1) rfl ?_ | refine WL.f rfl rfl rfl (by simp (decide := true) only [EVs, EVt, Array.toList] <;> exact rfl) (by simp (decide := true) only [EVs, EVt, Array.toList, calleeOf] <;> exact rfl) (by simp (decide := true) only [EVs, EVt, Array.toList, argsOf, frz] <;> exact rfl) (by first | exact t1) ?_ | refine WL.one (by simp (decide := true) only [EVs, EVt, Array.toList] <;> exact rfl) ?_)); refine WL.nil ?_
    refine AWp.seq (AWp.drawnW T_ok mixed (by kernel_rfl) rfl ?_)
    (repeat (first | refine WL.c rfl rfl rfl (by simp (decide := true) only [EVs, EVt, Array.toList, eqI_self, c1] <;> exact rfl) (by simp (decide := true) only [EVs, EVt, Array.toList, calleeOf, eqI_self, c1] <;> exact rfl) (by simp (decide := true) only [EVs, EVt, Array.toList, argsOf, frz, eqI_self, c1] <;> exact rfl) (by first | exact t2 | exact t3 | exact t4 | exact t5 | exact t6) rfl ?_ | refine WL.f rfl rfl rfl (by simp (decide := true) only [EVs, EVt, Array.toList, eqI_self, c1] <;> exact rfl) (by simp (decide := true) only [EVs, EVt, Array.toList, calleeOf, eqI_self, c1] <;> exact rfl) (by simp (decide := true) only [EVs, EVt, Array.toList, argsOf, frz, eqI_self, c1] <;> exact rfl) (by first | exact t2 | exact t3 | exact t4 | exact t5 | exact t6) ?_ | refine WL.one (by simp (decide := true) only [EVs, EVt, Array.toList, eqI_self, c1] <;> exact rfl) ?_)); refine WL.nil ?_
    exact AWp.ret ⟨_, rfl, .inl (.refl _)⟩

theorem setR_at5 {d : Int} {l : List Pr} (h : ascP l) (c v x : Int) : at_ d (setR d l c v) x = if c = x then v else at_ d l x := by
  unfold setR
  rw [mkl_at, lvl_snoc, lvl_at h]
theorem setR_len5 (d : Int) (l : List Pr) (c v : Int) : (setR d l c v).length ≤ l.length + 1 := by
  have := mkl_len d (l ++ [⟨c, v⟩])
  simpa [setR] using this
theorem snoc_all {q : Pr → Prop} {l : List Pr} {p : Pr} (h : ∀ x ∈ l, q x) (hp : q p) : ∀ x ∈ l ++ [p], q x := fun x hx => by
  rcases List.mem_append.1 hx with hx | hx
  · exact h x hx
  · simp only [List.mem_cons, List.not_mem_nil, or_false] at hx; subst hx; exact hp
theorem mkl_cats {d : Int} {l : List Pr} (h : ∀ p ∈ l, 0 ≤ p.c ∧ p.c < 65536) : ∀ p ∈ mkl d l, 0 ≤ p.c ∧ p.c < 65536 := fun p hp => by
  obtain ⟨r, hr, e⟩ := mem_cs.1 (mkl_cat p hp)
  have := h r hr
  rw [e] at this; exact this
theorem setR_cats {d : Int} {l : List Pr} {c v : Int} (h : ∀ p ∈ l, 0 ≤ p.c ∧ p.c < 65536) (hc : 0 ≤ c ∧ c < 65536) : ∀ p ∈ setR d l c v, 0 ≤ p.c ∧ p.c < 65536 :=
  mkl_cats (snoc_all (q := fun p => 0 ≤ p.c ∧ p.c < 65536) h hc)

theorem sp_LabelSets (d : Int) (l : List Pr) (c e v : Int) (hd : isB d) (hl : l.length ≤ 35184372087808) (hw : ∀ p ∈ l, wfP p) (hc : 0 ≤ c ∧ c < 65536) (hv : isB v) : ACall Try.prog 4 [lab d l, u16 c, u16 e, u8 v] (bo true) := by
  refine acall_of Try.func4 rfl rfl (Nat.le_of_ble_eq_true rfl) T_ok (fun base w0 => ?_)
  refine AWp.seq (AWp.regionW T_ok rfl (WL.all (by simp (decide := true) only [EVs, EVt, Array.toList] <;> exact rfl) ?_))
  refine AWp.seq (AWp.seq (AWp.regionW T_ok rfl ?_))
  (repeat (first | refine WL.c rfl rfl rfl (by simp (decide := true) only [EVs, EVt, Array.toList] <;> exact rfl) (by simp (decide := true) only [EVs, EVt, Array.toList, calleeOf] <;> exact rfl) (by simp (decide := true) only [EVs, EVt, Array.toList, argsOf, frz] <;> exact rfl) (by first | exact sp_begun5) rfl ?_ | refine WL.f rfl rfl rfl (by simp (decide := true) only [EVs, EVt, Array.toList] <;> exact rfl) (by simp (decide := true) only [EVs, EVt, Array.toList, calleeOf] <;> exact rfl) (by simp (decide := true) only [EVs, EVt, Array.toList, argsOf, frz] <;> exact rfl) (by first | exact sp_begun5) ?_ | refine WL.one (by simp (decide := true) only [EVs, EVt, Array.toList] <;> exact rfl) ?_)); refine WL.nil ?_
  refine AWp.cond (t := false) rfl (AWp.skip ?_)
  have g1 := sp_Light d l (by omega)
  cases h1 : lig d l with
  | false =>
    rw [h1] at g1
    refine AWp.seq (AWp.seq (AWp.regionW T_ok rfl ?_))
    (repeat (first | refine WL.c rfl rfl rfl (by simp (decide := true) only [EVs, EVt, Array.toList] <;> exact rfl) (by simp (decide := true) only [EVs, EVt, Array.toList, calleeOf] <;> exact rfl) (by simp (decide := true) only [EVs, EVt, Array.toList, argsOf, frz] <;> exact rfl) (by first | exact g1) rfl ?_ | refine WL.f rfl rfl rfl (by simp (decide := true) only [EVs, EVt, Array.toList] <;> exact rfl) (by simp (decide := true) only [EVs, EVt, Array.toList, calleeOf] <;> exact rfl) (by simp (decide := true) only [EVs, EVt, Array.toList, argsOf, frz] <;> exact rfl) (by first | exact g1) ?_ | refine WL.one (by simp (decide := true) only [EVs, EVt, Array.toList] <;> exact rfl) ?_)); refine WL.nil ?_
    refine AWp.cond (t := true) rfl (AWp.seq (AWp.regionW T_ok rfl (WL.all (by simp (decide := true) only [EVs, EVt, Array.toList] <;> exact rfl) ?_)))
    exact AWp.ret ⟨_, rfl, .inl (.refl _)⟩
  | true =>
    rw [h1] at g1
    by_cases h5 : 5 < v
    · have c5 : ltI 5 v = true := ltI_t h5
      refine AWp.seq (AWp.seq (AWp.regionW T_ok rfl ?_))
      (repeat (first | refine WL.c rfl rfl rfl (by simp (decide := true) only [EVs, EVt, Array.toList, c5] <;> exact rfl) (by simp (decide := true) only [EVs, EVt, Array.toList, calleeOf, c5] <;> exact rfl) (by simp (decide := true) only [EVs, EVt, Array.toList, argsOf, frz, c5] <;> exact rfl) (by first | exact g1) rfl ?_ | refine WL.f rfl rfl rfl (by simp (decide := true) only [EVs, EVt, Array.toList, c5] <;> exact rfl) (by simp (decide := true) only [EVs, EVt, Array.toList, calleeOf, c5] <;> exact rfl) (by simp (decide := true) only [EVs, EVt, Array.toList, argsOf, frz, c5] <;> exact rfl) (by first | exact g1) ?_ | refine WL.one (by simp (decide := true) only [EVs, EVt, Array.toList, c5] <;> exact rfl) ?_)); refine WL.nil ?_
      refine AWp.cond (t := true) rfl (AWp.seq (AWp.regionW T_ok rfl (WL.all (by simp (decide := true) only [EVs, EVt, Array.toList] <;> exact rfl) ?_)))
      exact AWp.ret ⟨_, rfl, .inl (.refl _)⟩
    have c5 : ltI 5 v = false := ltI_f h5
    refine AWp.seq (AWp.seq (AWp.regionW T_ok rfl ?_))
    (repeat (first | refine WL.c rfl rfl rfl (by simp (decide := true) only [EVs, EVt, Array.toList, c5] <;> exact rfl) (by simp (decide := true) only [EVs, EVt, Array.toList, calleeOf, c5] <;> exact rfl) (by simp (decide := true) only [EVs, EVt, Array.toList, argsOf, frz, c5] <;> exact rfl) (by first | exact g1) rfl ?_ | refine WL.f rfl rfl rfl (by simp (decide := true) only [EVs, EVt, Array.toList, c5] <;> exact rfl) (by simp (decide := true) only [EVs, EVt, Array.toList, calleeOf, c5] <;> exact rfl) (by simp (decide := true) only [EVs, EVt, Array.toList, argsOf, frz, c5] <;> exact rfl) (by first | exact g1) ?_ | refine WL.one (by simp (decide := true) only [EVs, EVt, Array.toList, c5] <;> exact rfl) ?_)); refine WL.nil ?_
    refine AWp.cond (t := false) rfl (AWp.skip ?_)
    obtain ⟨l24, d5, al, ll⟩ := lig_spec h1
    have hcat := wfP_cat hw
    have sl := setR_len5 d l c v
    have scat := setR_cats (d := d) (v := v) hcat hc
    have sa : ascP (setR d l c v) := mkl_asc _ _
    have back : setR d (setR d l c v) c (at_ d l c) = l := lab_ext (d := d) (mkl_asc _ _) al mkl_lv (fun p hp => (ll p hp).2) fun x => by
      rw [setR_at5 sa, setR_at5 al]
      by_cases e : c = x
      · rw [if_pos e, e]
      · rw [if_neg e, if_neg e]
    have t1 := sp_LSet d l c v (by omega) hcat hc.1 hc.2
    have t2 := sp_LAt d (setR d l c v) c (by omega)
    rw [setR_at5 al, if_pos rfl] at t2
    have t3 := sp_LAt d (setR d l c v) e (by omega)
    rw [setR_at5 al] at t3
    have t4 := sp_LAt d l e (by omega)
    have t5 := sp_LAt d l c (by omega)
    have t6 := sp_LSet d (setR d l c v) c (at_ d l c) (by omega) scat hc.1 hc.2
    rw [back] at t6
    have t7 := sp_RSame d l d l (by omega) (by omega)
    rw [same_self] at t7
    have t8 := sp_Canon d (setR d l c v) (by omega)
    rw [canon_of d5 sa (fun p hp => ⟨mkl_q (q := fun x => x ≤ 5) d5 (snoc_all (q := fun p => p.l ≤ 5) (fun p hp => (ll p hp).1) (show v ≤ 5 by omega)) p hp, mkl_lv p hp⟩)] at t8
    refine AWp.seq (AWp.regionW T_ok rfl ?_)
    (repeat (first | refine WL.c rfl rfl rfl (by simp (decide := true) only [EVs, EVt, Array.toList] <;> exact rfl) (by simp (decide := true) only [EVs, EVt, Array.toList, calleeOf] <;> exact rfl) (by simp (decide := true) only [EVs, EVt, Array.toList, argsOf, frz] <;> exact rfl) (by first | exact t1) rfl ?_ | refine WL.f rfl rfl rfl (by simp (decide := true) only [EVs, EVt, Array.toList] <;> exact rfl) (by simp (decide := true) only [EVs, EVt, Array.toList, calleeOf] <;> exact rfl) (by simp (decide := true) only [EVs, EVt, Array.toList, argsOf, frz] <;> exact rfl) (by first | exact t1) ?_ | refine WL.one (by simp (decide := true) only [EVs, EVt, Array.toList] <;> exact rfl) ?_)); refine WL.nil ?_
    by_cases hce : c = e
    · have c1 : eqI c e = true := eqI_t hce
      refine AWp.seq (AWp.drawnW T_ok mixed (by kernel_rfl) rfl ?_)
      simp only [List.append_eq, List.cons_append, List.nil_append]
      (repeat (first | refine WL.c rfl rfl rfl (by simp (decide := true) only [EVs, EVt, Array.toList, eqI_self, c1] <;> exact rfl) (by simp (decide := true) only [EVs, EVt, Array.toList, calleeOf, eqI_self, c1] <;> exact rfl) (by simp (decide := true) only [EVs, EVt, Array.toList, argsOf, frz, eqI_self, c1] <;> exact rfl) (by first | exact t2 | exact t5 | exact t6 | exact t7 | exact t8) rfl ?_ | refine WL.f rfl rfl rfl (by simp (decide := true) only [EVs, EVt, Array.toList, eqI_self, c1] <;> exact rfl) (by simp (decide := true) only [EVs, EVt, Array.toList, calleeOf, eqI_self, c1] <;> exact rfl) (by simp (decide := true) only [EVs, EVt, Array.toList, argsOf, frz, eqI_self, c1] <;> exact rfl) (by first | exact t2 | exact t5 | exact t6 | exact t7 | exact t8) ?_ | refine WL.one (by simp (decide := true) only [EVs, EVt, Array.toList, eqI_self, c1] <;> exact rfl) ?_)); refine WL.nil ?_
      exact AWp.ret ⟨_, rfl, .inl (.refl _)⟩
    · have c1 : eqI c e = false := eqI_f hce
      rw [if_neg hce] at t3
      refine AWp.seq (AWp.drawnW T_ok mixed (by kernel_rfl) rfl ?_)
      simp only [List.append_eq, List.cons_append, List.nil_append]
      (repeat (first | refine WL.c rfl rfl rfl (by simp (decide := true) only [EVs, EVt, Array.toList, eqI_self, c1] <;> exact rfl) (by simp (decide := true) only [EVs, EVt, Array.toList, calleeOf, eqI_self, c1] <;> exact rfl) (by simp (decide := true) only [EVs, EVt, Array.toList, argsOf, frz, eqI_self, c1] <;> exact rfl) (by first | exact t2 | exact t3 | exact t4 | exact t5 | exact t6 | exact t7 | exact t8) rfl ?_ | refine WL.f rfl rfl rfl (by simp (decide := true) only [EVs, EVt, Array.toList, eqI_self, c1] <;> exact rfl) (by simp (decide := true) only [EVs, EVt, Array.toList, calleeOf, eqI_self, c1] <;> exact rfl) (by simp (decide := true) only [EVs, EVt, Array.toList, argsOf, frz, eqI_self, c1] <;> exact rfl) (by first | exact t2 | exact t3 | exact t4 | exact t5 | exact t6 | exact t7 | exact t8) ?_ | refine WL.one (by simp (decide := true) only [EVs, EVt, Array.toList, eqI_self, c1] <;> exact rfl) ?_)); refine WL.nil ?_
      exact AWp.ret ⟨_, rfl, .inl (.refl _)⟩
end Go.Proofs.Ytkmdeahnkfdhjaa.E
