-- Printed by a program of this session (pp.sh: the kit's print.py, turned). Not trusted: Lean checks it.
import Derived.Test.YtfbfgaaaegbihaaPAx0
import Derived.Test.YtfbfgaaaegbihaaPAx1
namespace Go.Proofs.Ytfbfgaaaegbihaa.PA
open Go.RowKit Go.Proofs.YtfbfgaaaegbihaaW.PrintWords Go.Proofs.YtfbfgaaaegbihaaW.PrintLast Go.Proofs.YtfbfgaaaegbihaaW.PrintMore
attribute [local go_sem] max2_int min2_int max_two min_two max_three min_three max_four min_four   -- for this text's walks alone
set_option linter.unusedVariables false
set_option linter.unusedSimpArgs false

/-! ### cats_merge_at_53: function 100000 -/
mutual
def cats_merge_at_53.l0 : Nat → List Int → List Int → List Int → Option (List Int)
 | 0,_,_,_=>none
 | k + 1,x0,x1,x7=>if (wrap64 ((x0.length : Int) + (x1.length : Int))) = 0 then (some x7) else (if (x1.length : Int) = 0 then (cats_merge_at_53.j1 k x0 x1 x7 true) else (if (x0.length : Int) > 0 then (if 0 < (x0.length : Int) then (if 0 < (x1.length : Int) then (cats_merge_at_53.j1 k x0 x1 x7 (decide ((rd x0 0) ≤ (rd x1 0)))) else (none)) else (none)) else (cats_merge_at_53.j1 k x0 x1 x7 false)))
def cats_merge_at_53.j1 : Nat → List Int → List Int → List Int → Bool → Option (List Int)
 | 0,_,_,_,_=>none
 | k + 1,x0,x1,x7,x8=>if (x0.length : Int) = 0 then (cats_merge_at_53.j2 k x0 x1 x7 x8 true) else (if (x1.length : Int) > 0 then (if 0 < (x1.length : Int) then (if 0 < (x0.length : Int) then (cats_merge_at_53.j2 k x0 x1 x7 x8 (decide ((rd x1 0) ≤ (rd x0 0)))) else (none)) else (none)) else (cats_merge_at_53.j2 k x0 x1 x7 x8 false))
def cats_merge_at_53.j2 : Nat → List Int → List Int → List Int → Bool → Bool → Option (List Int)
 | 0,_,_,_,_,_=>none
 | k + 1,x0,x1,x7,x8,x9=>if x9 = true then (if 0 < (x1.length : Int) then (if 1 ≤ (x1.length : Int) then (cats_merge_at_53.j3 k x0 (x1.drop 1) x7 x8 x9 (rd x1 0)) else (none)) else (none)) else (cats_merge_at_53.j3 k x0 x1 x7 x8 x9 0)
def cats_merge_at_53.j3 : Nat → List Int → List Int → List Int → Bool → Bool → Int → Option (List Int)
 | 0,_,_,_,_,_,_=>none
 | k + 1,x0,x1,x7,x8,x9,x10=>if x8 = true then (if 0 < (x0.length : Int) then (if 1 ≤ (x0.length : Int) then ((some (x0.drop 1 : List Int)).bind fun y115=>((cats_Or_1.f x8 x9).bind fun t120=>(if t120 = true then (if x7.length < 70368744177664 then (cats_merge_at_53.l0 k y115 x1 (x7 ++ [rd x0 0])) else (none)) else (cats_merge_at_53.l0 k y115 x1 x7)))) else (none)) else (none)) else ((cats_Or_1.f x8 x9).bind fun t124=>(if t124 = true then (if x7.length < 70368744177664 then (cats_merge_at_53.l0 k x0 x1 (x7 ++ [x10])) else (none)) else (cats_merge_at_53.l0 k x0 x1 x7)))
end
def cats_merge_at_53.f (k : Nat) (l0 : List Int) (l1 : List Int)  : Option (List Int):=cats_merge_at_53.l0 k l0 l1 ([] : List Int)
theorem cats_merge_at_53.mono_l : ∀ k,(∀ y0 y1 y2,LeO (cats_merge_at_53.l0 k y0 y1 y2) (cats_merge_at_53.l0 (k + 1) y0 y1 y2)) ∧ (∀ y0 y1 y2 y3,LeO (cats_merge_at_53.j1 k y0 y1 y2 y3) (cats_merge_at_53.j1 (k + 1) y0 y1 y2 y3)) ∧ (∀ y0 y1 y2 y3 y4,LeO (cats_merge_at_53.j2 k y0 y1 y2 y3 y4) (cats_merge_at_53.j2 (k + 1) y0 y1 y2 y3 y4)) ∧ (∀ y0 y1 y2 y3 y4 y5,LeO (cats_merge_at_53.j3 k y0 y1 y2 y3 y4 y5) (cats_merge_at_53.j3 (k + 1) y0 y1 y2 y3 y4 y5))
 | 0=>⟨fun _ _ _ r h=>by simp [cats_merge_at_53.l0] at h,fun _ _ _ _ r h=>by simp [cats_merge_at_53.j1] at h,fun _ _ _ _ _ r h=>by simp [cats_merge_at_53.j2] at h,fun _ _ _ _ _ _ r h=>by simp [cats_merge_at_53.j3] at h⟩
 | k + 1=>by
  obtain ⟨ih0,ih1,ih2,ih3⟩:=cats_merge_at_53.mono_l k
  refine ⟨?_,?_,?_,?_⟩
  ·intro y0 y1 y2
   unfold cats_merge_at_53.l0
   repeat' first
   | (with_reducible exact ih0 _ _ _)
   | (with_reducible exact ih1 _ _ _ _)
   | (with_reducible exact ih2 _ _ _ _ _)
   | (with_reducible exact ih3 _ _ _ _ _ _)
   | (with_reducible exact LeO.refl _)
   | (with_reducible exact LeO.none _)
   | (with_reducible refine LeO.ite ?_ ?_)
   | (with_reducible refine LeO.bind ?_ (fun _=>?_))
   | exact ih0 _ _ _
   | exact ih1 _ _ _ _
   | exact ih2 _ _ _ _ _
   | exact ih3 _ _ _ _ _ _
   | exact LeO.none _
   | refine LeO.ite ?_ ?_
   | refine LeO.bind ?_ (fun _=>?_)
  ·intro y0 y1 y2 y3
   unfold cats_merge_at_53.j1
   repeat' first
   | (with_reducible exact ih0 _ _ _)
   | (with_reducible exact ih1 _ _ _ _)
   | (with_reducible exact ih2 _ _ _ _ _)
   | (with_reducible exact ih3 _ _ _ _ _ _)
   | (with_reducible exact LeO.refl _)
   | (with_reducible exact LeO.none _)
   | (with_reducible refine LeO.ite ?_ ?_)
   | (with_reducible refine LeO.bind ?_ (fun _=>?_))
   | exact ih0 _ _ _
   | exact ih1 _ _ _ _
   | exact ih2 _ _ _ _ _
   | exact ih3 _ _ _ _ _ _
   | exact LeO.none _
   | refine LeO.ite ?_ ?_
   | refine LeO.bind ?_ (fun _=>?_)
  ·intro y0 y1 y2 y3 y4
   unfold cats_merge_at_53.j2
   repeat' first
   | (with_reducible exact ih0 _ _ _)
   | (with_reducible exact ih1 _ _ _ _)
   | (with_reducible exact ih2 _ _ _ _ _)
   | (with_reducible exact ih3 _ _ _ _ _ _)
   | (with_reducible exact LeO.refl _)
   | (with_reducible exact LeO.none _)
   | (with_reducible refine LeO.ite ?_ ?_)
   | (with_reducible refine LeO.bind ?_ (fun _=>?_))
   | exact ih0 _ _ _
   | exact ih1 _ _ _ _
   | exact ih2 _ _ _ _ _
   | exact ih3 _ _ _ _ _ _
   | exact LeO.none _
   | refine LeO.ite ?_ ?_
   | refine LeO.bind ?_ (fun _=>?_)
  ·intro y0 y1 y2 y3 y4 y5
   unfold cats_merge_at_53.j3
   repeat' first
   | (with_reducible exact ih0 _ _ _)
   | (with_reducible exact ih1 _ _ _ _)
   | (with_reducible exact ih2 _ _ _ _ _)
   | (with_reducible exact ih3 _ _ _ _ _ _)
   | (with_reducible exact LeO.refl _)
   | (with_reducible exact LeO.none _)
   | (with_reducible refine LeO.ite ?_ ?_)
   | (with_reducible refine LeO.bind ?_ (fun _=>?_))
   | exact ih0 _ _ _
   | exact ih1 _ _ _ _
   | exact ih2 _ _ _ _ _
   | exact ih3 _ _ _ _ _ _
   | exact LeO.none _
   | refine LeO.ite ?_ ?_
   | refine LeO.bind ?_ (fun _=>?_)
theorem cats_merge_at_53.mono : ∀ a0 a1 k,LeO (cats_merge_at_53.f k a0 a1) (cats_merge_at_53.f (k + 1) a0 a1):=by
 intro a0 a1 k
 obtain ⟨ih0,ih1,ih2,ih3⟩:=cats_merge_at_53.mono_l k
 unfold cats_merge_at_53.f
 repeat' first
   | (with_reducible exact ih0 _ _ _)
   | (with_reducible exact ih1 _ _ _ _)
   | (with_reducible exact ih2 _ _ _ _ _)
   | (with_reducible exact ih3 _ _ _ _ _ _)
   | (with_reducible exact LeO.refl _)
   | (with_reducible exact LeO.none _)
   | (with_reducible refine LeO.ite ?_ ?_)
   | (with_reducible refine LeO.bind ?_ (fun _=>?_))
   | exact ih0 _ _ _
   | exact ih1 _ _ _ _
   | exact ih2 _ _ _ _ _
   | exact ih3 _ _ _ _ _ _
   | exact LeO.none _
   | refine LeO.ite ?_ ?_
   | refine LeO.bind ?_ (fun _=>?_)
set_option maxHeartbeats 8000000 in
set_option maxRecDepth 100000 in
theorem cats_merge_at_53.calls (k : Nat) (P0_ : Nat → Prop) (A0 : Option Addr) (c0 : Nat) (l0 : List Int) (P1_ : Nat → Prop) (A1 : Option Addr) (c1 : Nat) (l1 : List Int)  (r : List Int) (w : World) (hs0 : Kd.V (Kd.int .u16) 25 w w.heap.size (fun k_=>P0_ k_) (.slice A0 l0.length c0) l0) (hs1 : Kd.V (Kd.int .u16) 25 w w.heap.size (fun k_=>P1_ k_) (.slice A1 l1.length c1) l1) (h : cats_merge_at_53.f k l0 l1 = some r) :
  Calls Try.prog 52 #[.slice A0 l0.length c0,.slice A1 l1.length c1,.func (.func 53) #[] #[]] w fun e w'=>∃ v0_ : Value,e = .returned (v0_) ∧ Kd.R (Kd.int .u16) 25 w' w.heap.size (fun k_=>(w.heap.size ≤ k_)) v0_ r ∧ Below w.heap.size w w':=by
 have HO0:=Aside0.mk (show Kd.V (Kd.int .u16) 25 w w.heap.size (fun k_=>((P0_ k_ ∨ P1_ k_) ∨ w.heap.size ≤ k_)) (.slice A0 l0.length c0) l0 from Kd.V_mono hs0 (fun k_ hk=>.inl (.inl hk)))
 have HO1:=Aside0.mk (show Kd.V (Kd.int .u16) 25 w w.heap.size (fun k_=>((P0_ k_ ∨ P1_ k_) ∨ w.heap.size ≤ k_)) (.slice A1 l1.length c1) l1 from Kd.V_mono hs1 (fun k_ hk=>.inl (.inr hk)))
 have HB:=Aside0.mk (Below.refl w.heap.size w)
 have H : (cats_merge_at_53.l0 k l0 l1 ([] : List Int)) = some r:=h
 clear h
 go_enter Try.func52,Try.ntmps52
 go_wp2
 repeat (go_quiet (fail);try go_wp2)
 refine Go.Proofs.YtfbfgaaaegbihaaW.PJ.scope_back 0 rfl ?_
 have H':=Aside0.mk H
 clear H
 go_wp2
 repeat (go_quiet (fail);try go_wp2)
 apply wp_label
 go_step
 go_step
 refine Go.Proofs.YtfbfgaaaegbihaaW.PJ.label_ghost_k 0 rfl (fun k_ a_ w_=>∃ u0 u1 zz3 zz4 zz5 u6 u7 u8 u9 u10 u11 u12 u13 u14 u15 u16 u17 u18 u19 u20 u21 u22 u23 u24 u25 u26 u27 u28 u29 u30 u31 u32 u33 u34 u35 u36 u37 u38 u39 u40 u41 u42 u43 u44 u45 u46 u47 u48 u49 u50 u51 u52 u53 u54 u55 u56 u57 u58 u59 u60 u61 u62 u63 u64 u65 u66 u67 u68 u69 u70 u71 : Value,(fun kq v0 v1 v7 w'=>∃ (x0_1 : List Int) (x1_1 : List Int) (x7_1 : List Int),Aside0 (cats_merge_at_53.l0 kq x0_1 x1_1 x7_1 = some r) ∧ Aside0 (kq ≤ k) ∧ Aside0 (Kd.V (Kd.int .u16) 25 w' w.heap.size (fun k_=>((P0_ k_ ∨ P1_ k_) ∨ w.heap.size ≤ k_) ∧ some k_ ≠ (v7 : Value).ownBlock) v0 x0_1) ∧ Aside0 (Kd.V (Kd.int .u16) 25 w' w.heap.size (fun k_=>((P0_ k_ ∨ P1_ k_) ∨ w.heap.size ≤ k_) ∧ some k_ ≠ (v7 : Value).ownBlock) v1 x1_1) ∧ Aside0 (Kd.R (Kd.int .u16) 25 w' w.heap.size (fun k_=>(w.heap.size ≤ k_)) v7 x7_1) ∧ Aside0 (Below w.heap.size w w')) k_ u0 u1 u7 w_ ∧ a_ = ⟨[u0,u1,(.func (.func 53) #[] #[]),zz3,zz4,zz5,u6,u7,u8,u9,u10,u11,u12,u13,u14,u15,u16,u17,u18,u19,u20,u21,u22,u23,u24,u25,u26,u27,u28,u29,u30,u31,u32,u33,u34,u35,u36,u37,u38,u39,u40,u41,u42,u43,u44,u45,u46,u47,u48,u49,u50,u51,u52,u53,u54,u55,u56,u57,u58,u59,u60,u61,u62,u63,u64,u65,u66,u67,u68,u69,u70,u71].toArray,[]⟩) k ?atStart ?round
 case atStart=>(repeat apply Exists.intro);refine ⟨?_,rfl⟩;exact ⟨(l0),(l1),(([] : List Int)),H',⟨Nat.le_refl _⟩,⟨by (with_reducible repeat (first|apply Kd.V_alloc|apply Kd.V_drewN|apply Kd.V_drew));exact Kd.V_mono HO0.out (fun _ hk=>⟨hk,(by simp [Value.ownBlock])⟩)⟩,⟨by (with_reducible repeat (first|apply Kd.V_alloc|apply Kd.V_drewN|apply Kd.V_drew));exact Kd.V_mono HO1.out (fun _ hk=>⟨hk,(by simp [Value.ownBlock])⟩)⟩,⟨by first|exact Kd.R_nil _ _ _ _ _|exact Kd.N_nil _ _ _ _ _|exact Kd.V_nil _ _ _ _ _|exact Kd.Q_nil _ _ _ _ _|exact Kd.S_nil _ _ _ _ _⟩,⟨by repeat (first|(with_reducible first|exact HB.out|apply below_alloc|apply pw_below_drewN|apply below_drew1)|exact HB.out)⟩⟩
 case round =>
  intro gk _ wr hinv
  obtain ⟨u0,u1,zz3,zz4,zz5,u6,u7,u8,u9,u10,u11,u12,u13,u14,u15,u16,u17,u18,u19,u20,u21,u22,u23,u24,u25,u26,u27,u28,u29,u30,u31,u32,u33,u34,u35,u36,u37,u38,u39,u40,u41,u42,u43,u44,u45,u46,u47,u48,u49,u50,u51,u52,u53,u54,u55,u56,u57,u58,u59,u60,u61,u62,u63,u64,u65,u66,u67,u68,u69,u70,u71,hrel,ha⟩:=hinv
  subst ha
  (try dsimp only)
  intro _ _ _ _
  clear H'
  try clear c1
  try clear p2
  obtain ⟨x0_1,x1_1,x7_1,HA,HK1,HO_0,HO_1,HO_7,HB⟩:=hrel
  cases gk with
  | zero=>exact absurd HA.out (by simp [cats_merge_at_53.l0])
  | succ k1 =>
   have H:=HA.out
   clear HA
   simp only [cats_merge_at_53.l0] at H
   by_cases c4 : (wrap64 ((x0_1.length : Int) + (x1_1.length : Int))) = 0
   ·rw [if_pos c4] at H
    have c4b0 : ((wrap64 ((x0_1.length : Int) + (x1_1.length : Int))) == 0) = true:=beq_iff_eq.mpr c4
    have c4b1 : ((wrap64 ((x0_1.length : Int) + (x1_1.length : Int))) != 0) = false:=bne_eq_false_iff_eq.mpr c4
    clear c4
    obtain rfl:=Option.some.inj H
    obtain ⟨Ao5,co5,eo5⟩:=Kd.V_slice HO_0.out
    subst eo5
    obtain ⟨Ao6,co6,eo6⟩:=Kd.V_slice HO_1.out
    subst eo6
    go_wp2
    repeat (go_quiet (fail);try go_wp2)
    (try simp only [Exit.then,Exit.inBlock,Go.Proofs.YtfbfgaaaegbihaaW.PJ.jump_ret])
    go_ret
    exact ⟨_,by first|rfl|(simp [errW_none,errW_some] <;> rfl)|(simp [*,errW_none,errW_some] <;> rfl),by (with_reducible repeat (first|apply Kd.R_alloc|apply Kd.R_drewN|apply Kd.R_drew));exact HO_7.out,by repeat (first|(with_reducible first|exact HB.out|apply below_alloc|apply pw_below_drewN|apply below_drew1)|exact HB.out)⟩
   ·rw [if_neg c4] at H
    have c4b0 : ((wrap64 ((x0_1.length : Int) + (x1_1.length : Int))) == 0) = false:=beq_eq_false_iff_ne.mpr c4
    have c4b1 : ((wrap64 ((x0_1.length : Int) + (x1_1.length : Int))) != 0) = true:=bne_iff_ne.mpr c4
    have HC7:=Aside0.mk H
    clear H
    obtain ⟨Ao8,co8,eo8⟩:=Kd.V_slice HO_0.out
    subst eo8
    obtain ⟨Ao9,co9,eo9⟩:=Kd.V_slice HO_1.out
    subst eo9
    go_upto_region 4 with (fail)
    repeat (go_quiet (fail);go_upto_region 4 with (fail))
    go_cut [8] (fun v8 wc=>∃ (kq : Nat) (x8_6 : Bool),v8 = .bool x8_6 ∧ Aside0 (cats_merge_at_53.j1 kq x0_1 x1_1 x7_1 x8_6 = some r) ∧ Aside0 (kq ≤ k1) ∧ Aside0 (Kd.V (Kd.int .u16) 25 wc w.heap.size (fun k_=>((P0_ k_ ∨ P1_ k_) ∨ w.heap.size ≤ k_) ∧ some k_ ≠ (u7 : Value).ownBlock) (.slice Ao8 x0_1.length co8) x0_1) ∧ Aside0 (Kd.V (Kd.int .u16) 25 wc w.heap.size (fun k_=>((P0_ k_ ∨ P1_ k_) ∨ w.heap.size ≤ k_) ∧ some k_ ≠ (u7 : Value).ownBlock) (.slice Ao9 x1_1.length co9) x1_1) ∧ Aside0 (Kd.R (Kd.int .u16) 25 wc w.heap.size (fun k_=>(w.heap.size ≤ k_)) u7 x7_1) ∧ Aside0 (Below w.heap.size w wc))
    case first =>
     have H:=HC7.out
     clear HC7
     by_cases c10 : (x1_1.length : Int) = 0
     ·rw [if_pos c10] at H
      have c10b0 : ((x1_1.length : Int) == 0) = true:=beq_iff_eq.mpr c10
      have c10b1 : ((x1_1.length : Int) != 0) = false:=bne_eq_false_iff_eq.mpr c10
      clear c10
      (first|rw [c10b0]|(simp only [i64_w,i32_w];rw [c10b0])|skip)
      have H':=Aside0.mk H
      clear H
      go_wp2
      repeat (go_quiet (fail);try go_wp2)
      go_meet
      case rel=>exact ⟨_,(true),(by first|rfl|(simp;done)|(simp [*];done)),H',⟨by have:=HK1.out;first|omega|exact Nat.le_refl _⟩,⟨by (with_reducible repeat (first|apply Kd.V_alloc|apply Kd.V_drewN|apply Kd.V_drew));exact HO_0.out⟩,⟨by (with_reducible repeat (first|apply Kd.V_alloc|apply Kd.V_drewN|apply Kd.V_drew));exact HO_1.out⟩,⟨by (with_reducible repeat (first|apply Kd.R_alloc|apply Kd.R_drewN|apply Kd.R_drew));exact HO_7.out⟩,⟨by repeat (first|(with_reducible first|exact HB.out|apply below_alloc|apply pw_below_drewN|apply below_drew1)|exact HB.out)⟩⟩
     ·rw [if_neg c10] at H
      have c10b0 : ((x1_1.length : Int) == 0) = false:=beq_eq_false_iff_ne.mpr c10
      have c10b1 : ((x1_1.length : Int) != 0) = true:=bne_iff_ne.mpr c10
      have c10b2 : ¬ (x1_1 = []):=fun h_=>c10 (by rw [h_];rfl)
      (first|rw [c10b0]|(simp only [i64_w,i32_w];rw [c10b0])|skip)
      by_cases c11 : (x0_1.length : Int) > 0
      ·rw [if_pos c11] at H
       have c11b0 : decide (0 < (x0_1.length : Int)) = true:=decide_eq_true c11
       have c11b1 : decide (0 < x0_1.length) = true:=decide_eq_true (by omega)
       clear c11
       by_cases c12 : 0 < (x0_1.length : Int)
       ·rw [if_pos c12] at H
        have c12b0 : decide (0 < (x0_1.length : Int)) = true:=decide_eq_true c12
        have c12b1 : decide (0 < x0_1.length) = true:=decide_eq_true (by omega)
        clear c12
        by_cases c13 : 0 < (x1_1.length : Int)
        ·rw [if_pos c13] at H
         have c13b0 : decide (0 < (x1_1.length : Int)) = true:=decide_eq_true c13
         have c13b1 : decide (0 < x1_1.length) = true:=decide_eq_true (by omega)
         clear c13
         have H':=Aside0.mk H
         clear H
         have p104 : 0 ≤ (0 : Int):=(by omega)
         have q104 : 0 < (x0_1.length : Int):=of_decide_eq_true (by first|(with_reducible assumption)|assumption)
         obtain ⟨ad104,e104,hx104_0⟩:=Kd.at_int (Kd.V_reads' HO_0.out).2.2 0 p104 q104
         cases e104
         have qi104 : (0 < x0_1.length) = True:=eq_true (by omega)
         (try rw [show ((0 : Int)).toNat = 0 from rfl] at hx104_0)
         (try rw [Addr.add_zero'] at hx104_0)
         replace p104:=eq_true p104
         replace q104:=eq_true q104
         have p105 : 0 ≤ (0 : Int):=(by omega)
         have q105 : 0 < (x1_1.length : Int):=of_decide_eq_true (by first|(with_reducible assumption)|assumption)
         obtain ⟨ad105,e105,hx105_0⟩:=Kd.at_int (Kd.V_reads' HO_1.out).2.2 0 p105 q105
         cases e105
         have qi105 : (0 < x1_1.length) = True:=eq_true (by omega)
         (try rw [show ((0 : Int)).toNat = 0 from rfl] at hx105_0)
         (try rw [Addr.add_zero'] at hx105_0)
         replace p105:=eq_true p105
         replace q105:=eq_true q105
         go_wp2
         repeat (go_quiet (fail);try go_wp2)
         go_meet
         case rel=>exact ⟨_,(decide ((rd x0_1 0) ≤ (rd x1_1 0))),(by first|rfl|(simp;done)|(simp [*];done)),H',⟨by have:=HK1.out;first|omega|exact Nat.le_refl _⟩,⟨by (with_reducible repeat (first|apply Kd.V_alloc|apply Kd.V_drewN|apply Kd.V_drew));exact HO_0.out⟩,⟨by (with_reducible repeat (first|apply Kd.V_alloc|apply Kd.V_drewN|apply Kd.V_drew));exact HO_1.out⟩,⟨by (with_reducible repeat (first|apply Kd.R_alloc|apply Kd.R_drewN|apply Kd.R_drew));exact HO_7.out⟩,⟨by repeat (first|(with_reducible first|exact HB.out|apply below_alloc|apply pw_below_drewN|apply below_drew1)|exact HB.out)⟩⟩
        ·rw [if_neg c13] at H
         exact absurd H (by simp)
       ·rw [if_neg c12] at H
        exact absurd H (by simp)
      ·rw [if_neg c11] at H
       have c11b0 : decide (0 < (x0_1.length : Int)) = false:=decide_eq_false c11
       have c11b1 : decide (0 < x0_1.length) = false:=decide_eq_false (by omega)
       clear c11
       have H':=Aside0.mk H
       clear H
       go_wp2
       repeat (go_quiet (fail);try go_wp2)
       go_meet
       case rel=>exact ⟨_,(false),(by first|rfl|(simp;done)|(simp [*];done)),H',⟨by have:=HK1.out;first|omega|exact Nat.le_refl _⟩,⟨by (with_reducible repeat (first|apply Kd.V_alloc|apply Kd.V_drewN|apply Kd.V_drew));exact HO_0.out⟩,⟨by (with_reducible repeat (first|apply Kd.V_alloc|apply Kd.V_drewN|apply Kd.V_drew));exact HO_1.out⟩,⟨by (with_reducible repeat (first|apply Kd.R_alloc|apply Kd.R_drewN|apply Kd.R_drew));exact HO_7.out⟩,⟨by repeat (first|(with_reducible first|exact HB.out|apply below_alloc|apply pw_below_drewN|apply below_drew1)|exact HB.out)⟩⟩
    case rest =>
     clear HC7
     try clear c1
     try clear p1
     try clear q1
     try clear hx1
     try clear qi1
     try clear p2
     try clear c4
     try clear c4b0
     try clear c4b1
     try clear c5
     try clear p6
     try clear c10
     try clear c10b0
     try clear c10b1
     try clear c10b2
     try clear p10
     try clear q10
     try clear hx10
     try clear qi10
     try clear c11
     try clear c11b0
     try clear c11b1
     try clear c12
     try clear c12b0
     try clear c12b1
     try clear c13
     try clear c13b0
     try clear c13b1
     try clear hx104_0
     try clear hx105_0
     try clear p104
     try clear p105
     try clear p2
     try clear q104
     try clear q105
     obtain ⟨kq,x8_6,rfl,HA,HJ6,HO_0,HO_1,HO_7,HB⟩:=hcut
     cases kq with
     | zero=>exact absurd HA.out (by simp [cats_merge_at_53.j1])
     | succ kj6 =>
      have H:=HA.out
      clear HA
      simp only [cats_merge_at_53.j1] at H
      have HC14:=Aside0.mk H
      clear H
      go_upto_region 5 with (fail)
      repeat (go_quiet (fail);go_upto_region 5 with (fail))
      go_cut [9] (fun v9 wc=>∃ (kq : Nat) (x9_13 : Bool),v9 = .bool x9_13 ∧ Aside0 (cats_merge_at_53.j2 kq x0_1 x1_1 x7_1 x8_6 x9_13 = some r) ∧ Aside0 (kq ≤ kj6) ∧ Aside0 (Kd.V (Kd.int .u16) 25 wc w.heap.size (fun k_=>((P0_ k_ ∨ P1_ k_) ∨ w.heap.size ≤ k_) ∧ some k_ ≠ (u7 : Value).ownBlock) (.slice Ao8 x0_1.length co8) x0_1) ∧ Aside0 (Kd.V (Kd.int .u16) 25 wc w.heap.size (fun k_=>((P0_ k_ ∨ P1_ k_) ∨ w.heap.size ≤ k_) ∧ some k_ ≠ (u7 : Value).ownBlock) (.slice Ao9 x1_1.length co9) x1_1) ∧ Aside0 (Kd.R (Kd.int .u16) 25 wc w.heap.size (fun k_=>(w.heap.size ≤ k_)) u7 x7_1) ∧ Aside0 (Below w.heap.size w wc))
      case first =>
       have H:=HC14.out
       clear HC14
       by_cases c15 : (x0_1.length : Int) = 0
       ·rw [if_pos c15] at H
        have c15b0 : ((x0_1.length : Int) == 0) = true:=beq_iff_eq.mpr c15
        have c15b1 : ((x0_1.length : Int) != 0) = false:=bne_eq_false_iff_eq.mpr c15
        clear c15
        (first|rw [c15b0]|(simp only [i64_w,i32_w];rw [c15b0])|skip)
        have H':=Aside0.mk H
        clear H
        go_wp2
        repeat (go_quiet (fail);try go_wp2)
        go_meet
        case rel=>exact ⟨_,(true),(by first|rfl|(simp;done)|(simp [*];done)),H',⟨by have:=HK1.out;have:=HJ6.out;first|omega|exact Nat.le_refl _⟩,⟨by (with_reducible repeat (first|apply Kd.V_alloc|apply Kd.V_drewN|apply Kd.V_drew));exact HO_0.out⟩,⟨by (with_reducible repeat (first|apply Kd.V_alloc|apply Kd.V_drewN|apply Kd.V_drew));exact HO_1.out⟩,⟨by (with_reducible repeat (first|apply Kd.R_alloc|apply Kd.R_drewN|apply Kd.R_drew));exact HO_7.out⟩,⟨by repeat (first|(with_reducible first|exact HB.out|apply below_alloc|apply pw_below_drewN|apply below_drew1)|exact HB.out)⟩⟩
       ·rw [if_neg c15] at H
        have c15b0 : ((x0_1.length : Int) == 0) = false:=beq_eq_false_iff_ne.mpr c15
        have c15b1 : ((x0_1.length : Int) != 0) = true:=bne_iff_ne.mpr c15
        have c15b2 : ¬ (x0_1 = []):=fun h_=>c15 (by rw [h_];rfl)
        (first|rw [c15b0]|(simp only [i64_w,i32_w];rw [c15b0])|skip)
        by_cases c16 : (x1_1.length : Int) > 0
        ·rw [if_pos c16] at H
         have c16b0 : decide (0 < (x1_1.length : Int)) = true:=decide_eq_true c16
         have c16b1 : decide (0 < x1_1.length) = true:=decide_eq_true (by omega)
         clear c16
         by_cases c17 : 0 < (x1_1.length : Int)
         ·rw [if_pos c17] at H
          have c17b0 : decide (0 < (x1_1.length : Int)) = true:=decide_eq_true c17
          have c17b1 : decide (0 < x1_1.length) = true:=decide_eq_true (by omega)
          clear c17
          by_cases c18 : 0 < (x0_1.length : Int)
          ·rw [if_pos c18] at H
           have c18b0 : decide (0 < (x0_1.length : Int)) = true:=decide_eq_true c18
           have c18b1 : decide (0 < x0_1.length) = true:=decide_eq_true (by omega)
           clear c18
           have H':=Aside0.mk H
           clear H
           have p106 : 0 ≤ (0 : Int):=(by omega)
           have q106 : 0 < (x1_1.length : Int):=of_decide_eq_true (by first|(with_reducible assumption)|assumption)
           obtain ⟨ad106,e106,hx106_0⟩:=Kd.at_int (Kd.V_reads' HO_1.out).2.2 0 p106 q106
           cases e106
           have qi106 : (0 < x1_1.length) = True:=eq_true (by omega)
           (try rw [show ((0 : Int)).toNat = 0 from rfl] at hx106_0)
           (try rw [Addr.add_zero'] at hx106_0)
           replace p106:=eq_true p106
           replace q106:=eq_true q106
           have p107 : 0 ≤ (0 : Int):=(by omega)
           have q107 : 0 < (x0_1.length : Int):=of_decide_eq_true (by first|(with_reducible assumption)|assumption)
           obtain ⟨ad107,e107,hx107_0⟩:=Kd.at_int (Kd.V_reads' HO_0.out).2.2 0 p107 q107
           cases e107
           have qi107 : (0 < x0_1.length) = True:=eq_true (by omega)
           (try rw [show ((0 : Int)).toNat = 0 from rfl] at hx107_0)
           (try rw [Addr.add_zero'] at hx107_0)
           replace p107:=eq_true p107
           replace q107:=eq_true q107
           go_wp2
           repeat (go_quiet (fail);try go_wp2)
           go_meet
           case rel=>exact ⟨_,(decide ((rd x1_1 0) ≤ (rd x0_1 0))),(by first|rfl|(simp;done)|(simp [*];done)),H',⟨by have:=HK1.out;have:=HJ6.out;first|omega|exact Nat.le_refl _⟩,⟨by (with_reducible repeat (first|apply Kd.V_alloc|apply Kd.V_drewN|apply Kd.V_drew));exact HO_0.out⟩,⟨by (with_reducible repeat (first|apply Kd.V_alloc|apply Kd.V_drewN|apply Kd.V_drew));exact HO_1.out⟩,⟨by (with_reducible repeat (first|apply Kd.R_alloc|apply Kd.R_drewN|apply Kd.R_drew));exact HO_7.out⟩,⟨by repeat (first|(with_reducible first|exact HB.out|apply below_alloc|apply pw_below_drewN|apply below_drew1)|exact HB.out)⟩⟩
          ·rw [if_neg c18] at H
           exact absurd H (by simp)
         ·rw [if_neg c17] at H
          exact absurd H (by simp)
        ·rw [if_neg c16] at H
         have c16b0 : decide (0 < (x1_1.length : Int)) = false:=decide_eq_false c16
         have c16b1 : decide (0 < x1_1.length) = false:=decide_eq_false (by omega)
         clear c16
         have H':=Aside0.mk H
         clear H
         go_wp2
         repeat (go_quiet (fail);try go_wp2)
         go_meet
         case rel=>exact ⟨_,(false),(by first|rfl|(simp;done)|(simp [*];done)),H',⟨by have:=HK1.out;have:=HJ6.out;first|omega|exact Nat.le_refl _⟩,⟨by (with_reducible repeat (first|apply Kd.V_alloc|apply Kd.V_drewN|apply Kd.V_drew));exact HO_0.out⟩,⟨by (with_reducible repeat (first|apply Kd.V_alloc|apply Kd.V_drewN|apply Kd.V_drew));exact HO_1.out⟩,⟨by (with_reducible repeat (first|apply Kd.R_alloc|apply Kd.R_drewN|apply Kd.R_drew));exact HO_7.out⟩,⟨by repeat (first|(with_reducible first|exact HB.out|apply below_alloc|apply pw_below_drewN|apply below_drew1)|exact HB.out)⟩⟩
      case rest =>
       clear HC14
       try clear c1
       try clear p1
       try clear q1
       try clear hx1
       try clear qi1
       try clear p2
       try clear c4
       try clear c4b0
       try clear c4b1
       try clear c5
       try clear p6
       try clear c10
       try clear c10b0
       try clear c10b1
       try clear c10b2
       try clear p10
       try clear q10
       try clear hx10
       try clear qi10
       try clear c11
       try clear c11b0
       try clear c11b1
       try clear c12
       try clear c12b0
       try clear c12b1
       try clear c13
       try clear c13b0
       try clear c13b1
       try clear c15
       try clear c15b0
       try clear c15b1
       try clear c15b2
       try clear c16
       try clear c16b0
       try clear c16b1
       try clear c17
       try clear c17b0
       try clear c17b1
       try clear c18
       try clear c18b0
       try clear c18b1
       try clear hx104_0
       try clear hx105_0
       try clear hx106_0
       try clear hx107_0
       try clear p1
       try clear p10
       try clear p104
       try clear p105
       try clear p106
       try clear p107
       try clear p2
       try clear p6
       try clear q1
       try clear q10
       try clear q104
       try clear q105
       try clear q106
       try clear q107
       obtain ⟨kq,x9_13,rfl,HA,HJ13,HO_0,HO_1,HO_7,HB⟩:=hcut
       cases kq with
       | zero=>exact absurd HA.out (by simp [cats_merge_at_53.j2])
       | succ kj13 =>
        have H:=HA.out
        clear HA
        simp only [cats_merge_at_53.j2] at H
        have HC19:=Aside0.mk H
        clear H
        go_upto_if 52 with (fail)
        repeat (go_quiet (fail);go_upto_if 52 with (fail))
        go_cut [1,10] (fun v1 v10 wc=>∃ (kq : Nat) (x1_18 : List Int) (x10_18 : Int),v10 = .int .u16 x10_18 ∧ Aside0 (cats_merge_at_53.j3 kq x0_1 x1_18 x7_1 x8_6 x9_13 x10_18 = some r) ∧ Aside0 (kq ≤ kj13) ∧ Aside0 (Kd.V (Kd.int .u16) 25 wc w.heap.size (fun k_=>((P0_ k_ ∨ P1_ k_) ∨ w.heap.size ≤ k_) ∧ some k_ ≠ (u7 : Value).ownBlock) (.slice Ao8 x0_1.length co8) x0_1) ∧ Aside0 (Kd.V (Kd.int .u16) 25 wc w.heap.size (fun k_=>((P0_ k_ ∨ P1_ k_) ∨ w.heap.size ≤ k_) ∧ some k_ ≠ (u7 : Value).ownBlock) v1 x1_18) ∧ Aside0 (Kd.R (Kd.int .u16) 25 wc w.heap.size (fun k_=>(w.heap.size ≤ k_)) u7 x7_1) ∧ Aside0 (Below w.heap.size w wc))
        case first =>
         have H:=HC19.out
         clear HC19
         by_cases c20 : x9_13 = true
         ·subst c20
          have H1 : (if 0 < (x1_1.length : Int) then (if 1 ≤ (x1_1.length : Int) then (cats_merge_at_53.j3 kj13 x0_1 (x1_1.drop 1) x7_1 x8_6 true (rd x1_1 0)) else (none)) else (none)) = some r:=by rw [if_pos rfl] at H;exact H
          clear H
          have H:=H1
          clear H1
          by_cases c21 : 0 < (x1_1.length : Int)
          ·rw [if_pos c21] at H
           have c21b0 : decide (0 < (x1_1.length : Int)) = true:=decide_eq_true c21
           have c21b1 : decide (0 < x1_1.length) = true:=decide_eq_true (by omega)
           clear c21
           (first|rw [c21b0]|(simp only [i64_w,i32_w];rw [c21b0])|skip)
           by_cases c22 : 1 ≤ (x1_1.length : Int)
           ·rw [if_pos c22] at H
            have c22b0:=eq_true c22
            have c22b1 : decide (1 ≤ (x1_1.length : Int)) = true:=decide_eq_true c22
            clear c22
            obtain ⟨y109,hy109⟩ : ∃ y_ : List Int,y_ = (x1_1.drop 1):=⟨_,rfl⟩
            replace H : (cats_merge_at_53.j3 kj13 x0_1 y109 x7_1 x8_6 true (rd x1_1 0)) = some r:=by first|(rw [hy109];with_reducible exact H)|(have H2_:=(Option.bind_some _ _).symm.trans H;rw [hy109];with_reducible exact H2_)|(have H2_:=(Option.bind_some _ _).symm.trans H;with_reducible exact H2_)|with_reducible exact H|(rw [hy109];exact H)|exact H
            have Ny109:=Aside0.mk hy109
            clear hy109
            have H':=Aside0.mk H
            clear H
            have p108 : 0 ≤ (0 : Int):=(by omega)
            have q108 : 0 < (x1_1.length : Int):=of_decide_eq_true (by first|(with_reducible assumption)|assumption)
            obtain ⟨ad108,e108,hx108_0⟩:=Kd.at_int (Kd.V_reads' HO_1.out).2.2 0 p108 q108
            cases e108
            have qi108 : (0 < x1_1.length) = True:=eq_true (by omega)
            (try rw [show ((0 : Int)).toNat = 0 from rfl] at hx108_0)
            (try rw [Addr.add_zero'] at hx108_0)
            replace p108:=eq_true p108
            replace q108:=eq_true q108
            have q23 : (1 : Int) ≤ ((x1_1.length : Int) : Int):=of_decide_eq_true (by first|(with_reducible assumption)|assumption)
            obtain ⟨i023,hi023,_,hsz23,_⟩:=info_parts info25
            have hroom23 : x1_1.length ≤ co9:=(Kd.V_reads' HO_1.out).2.1
            have hC23 : Kd.F (Kd.int .u16) _ _ (some ad108) x1_1.length x1_1:=(Kd.V_at (base:=w.heap.size) HO_1.out).2.2
            have hcut23:=cut_from (P:=Try.prog) 22 25 .i64 Try.underlying22 hi023 1 hsz23 (some ad108) x1_1.length co9 1 (by omega) q23
            have hr23:=Kd.F_cut (m:=(1 : Int).toNat) (c:=co9) hC23 (by omega) hroom23
            obtain ⟨A23,hA23⟩ : ∃ A1,A1 = (if co9 = (1 : Int).toNat then (some ad108) else ((some ad108) : Option Addr).map (·.add ((1 : Int).toNat * 1))):=⟨_,rfl⟩
            obtain ⟨c23,hc23⟩ : ∃ c1,c1 = co9 - (1 : Int).toNat:=⟨_,rfl⟩
            have hy23 : y109.length = x1_1.length - (1 : Int).toNat:=(by rw [Ny109.out,List.length_drop] <;> omega)
            rw [show (x1_1).drop (1 : Int).toNat = y109 from Ny109.out.symm] at hr23
            replace hr23 : Kd.F (Kd.int .u16) _ _ A23 y109.length y109:=(by rw [hA23];exact hr23)
            rw [← hy23,← hA23,← hc23] at hcut23
            have HO113:=Aside0.mk (show Kd.V (Kd.int .u16) 25 _ w.heap.size _ (.slice A23 y109.length c23) y109 from Kd.V_mk (by rw [hy23,hc23];exact Nat.sub_le_sub_right hroom23 _) hr23)
            have HC113:=Aside0.mk (show y109.length ≤ c23 from by rw [hy23,hc23];exact Nat.sub_le_sub_right hroom23 _)
            clear hr23 hC23 hroom23 hi023 hsz23 hc23
            have KY23:=Aside0.mk hy23
            have KA23:=Aside0.mk hA23
            clear hy23 hA23
            replace q23:=eq_true q23
            go_wp2
            repeat (go_quiet (fail);try go_wp2)
            go_meet
            case rel=>exact ⟨_,(y109),(rd x1_1 0),(by first|rfl|(simp;done)|(simp [*];done)),H',⟨by have:=HK1.out;have:=HJ6.out;have:=HJ13.out;first|omega|exact Nat.le_refl _⟩,⟨by (with_reducible repeat (first|apply Kd.V_alloc|apply Kd.V_drewN|apply Kd.V_drew));exact HO_0.out⟩,⟨by (with_reducible repeat (first|apply Kd.V_alloc|apply Kd.V_drewN|apply Kd.V_drew));exact HO113.out⟩,⟨by (with_reducible repeat (first|apply Kd.R_alloc|apply Kd.R_drewN|apply Kd.R_drew));exact HO_7.out⟩,⟨by repeat (first|(with_reducible first|exact HB.out|apply below_alloc|apply pw_below_drewN|apply below_drew1)|exact HB.out)⟩⟩
           ·rw [if_neg c22] at H
            exact absurd H (by simp)
          ·rw [if_neg c21] at H
           exact absurd H (by simp)
         ·replace c20:=Bool.eq_false_iff.mpr c20
          subst c20
          have H1 : (cats_merge_at_53.j3 kj13 x0_1 x1_1 x7_1 x8_6 false 0) = some r:=by rw [if_neg (show ¬ (false = true) by decide)] at H;exact H
          clear H
          have H:=H1
          clear H1
          have H':=Aside0.mk H
          clear H
          go_wp2
          repeat (go_quiet (fail);try go_wp2)
          go_meet
          case rel=>exact ⟨_,(x1_1),(0),(by first|rfl|(simp;done)|(simp [*];done)),H',⟨by have:=HK1.out;have:=HJ6.out;have:=HJ13.out;first|omega|exact Nat.le_refl _⟩,⟨by (with_reducible repeat (first|apply Kd.V_alloc|apply Kd.V_drewN|apply Kd.V_drew));exact HO_0.out⟩,⟨by (with_reducible repeat (first|apply Kd.V_alloc|apply Kd.V_drewN|apply Kd.V_drew));exact HO_1.out⟩,⟨by (with_reducible repeat (first|apply Kd.R_alloc|apply Kd.R_drewN|apply Kd.R_drew));exact HO_7.out⟩,⟨by repeat (first|(with_reducible first|exact HB.out|apply below_alloc|apply pw_below_drewN|apply below_drew1)|exact HB.out)⟩⟩
        case rest =>
         clear HC19
         try clear c1
         try clear p1
         try clear q1
         try clear hx1
         try clear qi1
         try clear c2
         try clear p2
         try clear q2
         try clear c4
         try clear c4b0
         try clear c4b1
         try clear c5
         try clear p6
         try clear c10
         try clear c10b0
         try clear c10b1
         try clear c10b2
         try clear p10
         try clear q10
         try clear hx10
         try clear qi10
         try clear c11
         try clear c11b0
         try clear c11b1
         try clear c12
         try clear c12b0
         try clear c12b1
         try clear c13
         try clear c13b0
         try clear c13b1
         try clear c15
         try clear c15b0
         try clear c15b1
         try clear c15b2
         try clear c16
         try clear c16b0
         try clear c16b1
         try clear c17
         try clear c17b0
         try clear c17b1
         try clear c18
         try clear c18b0
         try clear c18b1
         try clear c20
         try clear c21
         try clear c21b0
         try clear c21b1
         try clear c22
         try clear c22b0
         try clear c22b1
         try clear c23
         try clear q23
         try clear hx104_0
         try clear hx105_0
         try clear hx106_0
         try clear hx107_0
         try clear hx108_0
         try clear p1
         try clear p10
         try clear p104
         try clear p105
         try clear p106
         try clear p107
         try clear p108
         try clear p2
         try clear p6
         try clear q1
         try clear q10
         try clear q104
         try clear q105
         try clear q106
         try clear q107
         try clear q108
         try clear q23
         obtain ⟨kq,x1_18,x10_18,rfl,HA,HJ18,HO_0,HO_1,HO_7,HB⟩:=hcut
         cases kq with
         | zero=>exact absurd HA.out (by simp [cats_merge_at_53.j3])
         | succ kj18 =>
          have H:=HA.out
          clear HA
          simp only [cats_merge_at_53.j3] at H
          by_cases c24 : x8_6 = true
          ·subst c24
           have H1 : (if 0 < (x0_1.length : Int) then (if 1 ≤ (x0_1.length : Int) then ((some (x0_1.drop 1 : List Int)).bind fun y115=>((cats_Or_1.f true x9_13).bind fun t120=>(if t120 = true then (if x7_1.length < 70368744177664 then (cats_merge_at_53.l0 kj18 y115 x1_18 (x7_1 ++ [rd x0_1 0])) else (none)) else (cats_merge_at_53.l0 kj18 y115 x1_18 x7_1)))) else (none)) else (none)) = some r:=by rw [if_pos rfl] at H;exact H
           clear H
           have H:=H1
           clear H1
           by_cases c25 : 0 < (x0_1.length : Int)
           ·rw [if_pos c25] at H
            have c25b0 : decide (0 < (x0_1.length : Int)) = true:=decide_eq_true c25
            have c25b1 : decide (0 < x0_1.length) = true:=decide_eq_true (by omega)
            clear c25
            by_cases c26 : 1 ≤ (x0_1.length : Int)
            ·rw [if_pos c26] at H
             have c26b0:=eq_true c26
             have c26b1 : decide (1 ≤ (x0_1.length : Int)) = true:=decide_eq_true c26
             clear c26
             obtain ⟨y115,hy115⟩ : ∃ y_ : List Int,y_ = (x0_1.drop 1):=⟨_,rfl⟩
             replace H : ((cats_Or_1.f true x9_13).bind fun t120=>(if t120 = true then (if x7_1.length < 70368744177664 then (cats_merge_at_53.l0 kj18 y115 x1_18 (x7_1 ++ [rd x0_1 0])) else (none)) else (cats_merge_at_53.l0 kj18 y115 x1_18 x7_1))) = some r:=by first|(rw [hy115];with_reducible exact H)|(have H2_:=(Option.bind_some _ _).symm.trans H;rw [hy115];with_reducible exact H2_)|(have H2_:=(Option.bind_some _ _).symm.trans H;with_reducible exact H2_)|with_reducible exact H|(rw [hy115];exact H)|exact H
             have Ny115:=Aside0.mk hy115
             clear hy115
             replace H:=Option.bind_eq_some_iff.mp H
             obtain ⟨t120,A270,H⟩:=H
             replace H : (if t120 = true then (if x7_1.length < 70368744177664 then (cats_merge_at_53.l0 kj18 y115 x1_18 (x7_1 ++ [rd x0_1 0])) else (none)) else (cats_merge_at_53.l0 kj18 y115 x1_18 x7_1)) = some r:=H
             have A27:=Aside0.mk A270
             clear A270
             by_cases c28 : t120 = true
             ·subst c28
              have H1 : (if x7_1.length < 70368744177664 then (cats_merge_at_53.l0 kj18 y115 x1_18 (x7_1 ++ [rd x0_1 0])) else (none)) = some r:=by rw [if_pos rfl] at H;exact H
              clear H
              have H:=H1
              clear H1
              by_cases c29 : x7_1.length < 70368744177664
              ·rw [if_pos c29] at H
               have LMc29:=Aside0.mk c29
               clear c29
               obtain ⟨y121,hy121⟩ : ∃ y_ : List Int,y_ = (x7_1 ++ [rd x0_1 0]):=⟨_,rfl⟩
               replace H : (cats_merge_at_53.l0 kj18 y115 x1_18 y121) = some r:=by first|(rw [hy121];with_reducible exact H)|(have H2_:=(Option.bind_some _ _).symm.trans H;rw [hy121];with_reducible exact H2_)|(have H2_:=(Option.bind_some _ _).symm.trans H;with_reducible exact H2_)|with_reducible exact H|(rw [hy121];exact H)|exact H
               have Ny121:=Aside0.mk hy121
               clear hy121
               have H':=Aside0.mk H
               clear H
               have p114 : 0 ≤ (0 : Int):=(by omega)
               have q114 : 0 < (x0_1.length : Int):=of_decide_eq_true (by first|(with_reducible assumption)|assumption)
               obtain ⟨ad114,e114,hx114_0⟩:=Kd.at_int (Kd.V_reads' HO_0.out).2.2 0 p114 q114
               cases e114
               have qi114 : (0 < x0_1.length) = True:=eq_true (by omega)
               (try rw [show ((0 : Int)).toNat = 0 from rfl] at hx114_0)
               (try rw [Addr.add_zero'] at hx114_0)
               replace p114:=eq_true p114
               replace q114:=eq_true q114
               have q30 : (1 : Int) ≤ ((x0_1.length : Int) : Int):=of_decide_eq_true (by first|(with_reducible assumption)|assumption)
               obtain ⟨i030,hi030,_,hsz30,_⟩:=info_parts info25
               have hroom30 : x0_1.length ≤ co8:=(Kd.V_reads' HO_0.out).2.1
               have hC30 : Kd.F (Kd.int .u16) _ _ (some ad114) x0_1.length x0_1:=(Kd.V_at (base:=w.heap.size) HO_0.out).2.2
               have hcut30:=cut_from (P:=Try.prog) 22 25 .i64 Try.underlying22 hi030 1 hsz30 (some ad114) x0_1.length co8 1 (by omega) q30
               have hr30:=Kd.F_cut (m:=(1 : Int).toNat) (c:=co8) hC30 (by omega) hroom30
               obtain ⟨A30,hA30⟩ : ∃ A1,A1 = (if co8 = (1 : Int).toNat then (some ad114) else ((some ad114) : Option Addr).map (·.add ((1 : Int).toNat * 1))):=⟨_,rfl⟩
               obtain ⟨c30,hc30⟩ : ∃ c1,c1 = co8 - (1 : Int).toNat:=⟨_,rfl⟩
               have hy30 : y115.length = x0_1.length - (1 : Int).toNat:=(by rw [Ny115.out,List.length_drop] <;> omega)
               rw [show (x0_1).drop (1 : Int).toNat = y115 from Ny115.out.symm] at hr30
               replace hr30 : Kd.F (Kd.int .u16) _ _ A30 y115.length y115:=(by rw [hA30];exact hr30)
               rw [← hy30,← hA30,← hc30] at hcut30
               have HO119:=Aside0.mk (show Kd.V (Kd.int .u16) 25 _ w.heap.size _ (.slice A30 y115.length c30) y115 from Kd.V_mk (by rw [hy30,hc30];exact Nat.sub_le_sub_right hroom30 _) hr30)
               have HC119:=Aside0.mk (show y115.length ≤ c30 from by rw [hy30,hc30];exact Nat.sub_le_sub_right hroom30 _)
               clear hr30 hC30 hroom30 hi030 hsz30 hc30
               have KY30:=Aside0.mk hy30
               have KA30:=Aside0.mk hA30
               clear hy30 hA30
               replace q30:=eq_true q30
               go_wp2_with (first|(go_at_call 53;(with_reducible refine (cats_Or_1.calls true x9_13 true _ A27.out).mono ?_);rintro e w' ⟨rfl,⟨nd,rfl⟩⟩;(try first|exact ⟨rfl,_,World.drewN_drewN _ _ _⟩|exact ⟨rfl,_,Eq.trans (World.drewN_drewN _ _ _) (congrArg (World.drewN _) (Nat.add_assoc _ _ _))⟩))|((with_reducible refine gate_builtin (b:=.append) (xs:=#[.tmp 68,.tmp 70]) rfl ?_);(try (refine gate_guard (by rfl) ?_;dsimp only));at_builtin;refine Kd.R_append (Kd.int .u16) (w0:=w) w.heap.size rfl (.tmp 68) (.tmp 70) 22 25 (.int .u16 0) 2 rfl Try.underlying22 info25 rfl (by decide) (by omega) u7 x7_1 (rd x0_1 0) [.int .u16 (rd x0_1 0)] (fun k_=>(w.heap.size ≤ k_)) (fun _=>False) rfl rfl ?aP (fun _ hk=>hk.elim) ?aF ?aO ?aB ?aS ?aL ?_;(case aP=>exact rfl);(case aB=>exact (by repeat (first|(with_reducible first|exact HB.out|apply below_alloc|apply pw_below_drewN|apply below_drew1)|exact HB.out)));(case aF=>exact (fun k_ hk=>(Nat.le_trans (below_size (by repeat (first|(with_reducible first|exact HB.out|apply below_alloc|apply pw_below_drewN|apply below_drew1)|exact HB.out))) hk)));(case aO=>exact (by (with_reducible repeat (first|apply Kd.R_alloc|apply Kd.R_drewN|apply Kd.R_drew));exact HO_7.out));(case aS=>exact (below_size (by repeat (first|(with_reducible first|exact HB.out|apply below_alloc|apply pw_below_drewN|apply below_drew1)|exact HB.out))));(case aL=>have:=LMc29.out;omega);intro v122 w31 ho hb hg hat;rw [← Ny121.out] at ho;have n0_:=Aside0.mk (Kd.V_afterv (ok:=(fun k_=>((P0_ k_ ∨ P1_ k_) ∨ w.heap.size ≤ k_))) (by (with_reducible repeat (first|apply Kd.V_alloc|apply Kd.V_drewN|apply Kd.V_drew));exact HO_0.out) hg hat);have n1_:=Aside0.mk (Kd.V_afterv (ok:=(fun k_=>((P0_ k_ ∨ P1_ k_) ∨ w.heap.size ≤ k_))) (by (with_reducible repeat (first|apply Kd.V_alloc|apply Kd.V_drewN|apply Kd.V_drew));exact HO_1.out) hg hat);have n2_:=Aside0.mk (Kd.V_afterv (ok:=(fun k_=>((P0_ k_ ∨ P1_ k_) ∨ w.heap.size ≤ k_))) (by (with_reducible repeat (first|apply Kd.V_alloc|apply Kd.V_drewN|apply Kd.V_drew));exact HO119.out) hg hat);have n3_:=Aside0.mk (hb);have n4_:=Aside0.mk (ho);clear HO_0;clear HO_1;clear HO119;clear HB;clear HO_7;have HO_0:=n0_;have HO_1:=n1_;have HO119:=n2_;have HB:=n3_;have HO123:=n4_;clear n0_ n1_ n2_ n3_ n4_;clear ho hb hg hat))
               repeat (go_quiet (first|(go_at_call 53;(with_reducible refine (cats_Or_1.calls true x9_13 true _ A27.out).mono ?_);rintro e w' ⟨rfl,⟨nd,rfl⟩⟩;(try first|exact ⟨rfl,_,World.drewN_drewN _ _ _⟩|exact ⟨rfl,_,Eq.trans (World.drewN_drewN _ _ _) (congrArg (World.drewN _) (Nat.add_assoc _ _ _))⟩))|((with_reducible refine gate_builtin (b:=.append) (xs:=#[.tmp 68,.tmp 70]) rfl ?_);(try (refine gate_guard (by rfl) ?_;dsimp only));at_builtin;refine Kd.R_append (Kd.int .u16) (w0:=w) w.heap.size rfl (.tmp 68) (.tmp 70) 22 25 (.int .u16 0) 2 rfl Try.underlying22 info25 rfl (by decide) (by omega) u7 x7_1 (rd x0_1 0) [.int .u16 (rd x0_1 0)] (fun k_=>(w.heap.size ≤ k_)) (fun _=>False) rfl rfl ?aP (fun _ hk=>hk.elim) ?aF ?aO ?aB ?aS ?aL ?_;(case aP=>exact rfl);(case aB=>exact (by repeat (first|(with_reducible first|exact HB.out|apply below_alloc|apply pw_below_drewN|apply below_drew1)|exact HB.out)));(case aF=>exact (fun k_ hk=>(Nat.le_trans (below_size (by repeat (first|(with_reducible first|exact HB.out|apply below_alloc|apply pw_below_drewN|apply below_drew1)|exact HB.out))) hk)));(case aO=>exact (by (with_reducible repeat (first|apply Kd.R_alloc|apply Kd.R_drewN|apply Kd.R_drew));exact HO_7.out));(case aS=>exact (below_size (by repeat (first|(with_reducible first|exact HB.out|apply below_alloc|apply pw_below_drewN|apply below_drew1)|exact HB.out))));(case aL=>have:=LMc29.out;omega);intro v122 w31 ho hb hg hat;rw [← Ny121.out] at ho;have n0_:=Aside0.mk (Kd.V_afterv (ok:=(fun k_=>((P0_ k_ ∨ P1_ k_) ∨ w.heap.size ≤ k_))) (by (with_reducible repeat (first|apply Kd.V_alloc|apply Kd.V_drewN|apply Kd.V_drew));exact HO_0.out) hg hat);have n1_:=Aside0.mk (Kd.V_afterv (ok:=(fun k_=>((P0_ k_ ∨ P1_ k_) ∨ w.heap.size ≤ k_))) (by (with_reducible repeat (first|apply Kd.V_alloc|apply Kd.V_drewN|apply Kd.V_drew));exact HO_1.out) hg hat);have n2_:=Aside0.mk (Kd.V_afterv (ok:=(fun k_=>((P0_ k_ ∨ P1_ k_) ∨ w.heap.size ≤ k_))) (by (with_reducible repeat (first|apply Kd.V_alloc|apply Kd.V_drewN|apply Kd.V_drew));exact HO119.out) hg hat);have n3_:=Aside0.mk (hb);have n4_:=Aside0.mk (ho);clear HO_0;clear HO_1;clear HO119;clear HB;clear HO_7;have HO_0:=n0_;have HO_1:=n1_;have HO119:=n2_;have HB:=n3_;have HO123:=n4_;clear n0_ n1_ n2_ n3_ n4_;clear ho hb hg hat));try go_wp2_with (first|(go_at_call 53;(with_reducible refine (cats_Or_1.calls true x9_13 true _ A27.out).mono ?_);rintro e w' ⟨rfl,⟨nd,rfl⟩⟩;(try first|exact ⟨rfl,_,World.drewN_drewN _ _ _⟩|exact ⟨rfl,_,Eq.trans (World.drewN_drewN _ _ _) (congrArg (World.drewN _) (Nat.add_assoc _ _ _))⟩))|((with_reducible refine gate_builtin (b:=.append) (xs:=#[.tmp 68,.tmp 70]) rfl ?_);(try (refine gate_guard (by rfl) ?_;dsimp only));at_builtin;refine Kd.R_append (Kd.int .u16) (w0:=w) w.heap.size rfl (.tmp 68) (.tmp 70) 22 25 (.int .u16 0) 2 rfl Try.underlying22 info25 rfl (by decide) (by omega) u7 x7_1 (rd x0_1 0) [.int .u16 (rd x0_1 0)] (fun k_=>(w.heap.size ≤ k_)) (fun _=>False) rfl rfl ?aP (fun _ hk=>hk.elim) ?aF ?aO ?aB ?aS ?aL ?_;(case aP=>exact rfl);(case aB=>exact (by repeat (first|(with_reducible first|exact HB.out|apply below_alloc|apply pw_below_drewN|apply below_drew1)|exact HB.out)));(case aF=>exact (fun k_ hk=>(Nat.le_trans (below_size (by repeat (first|(with_reducible first|exact HB.out|apply below_alloc|apply pw_below_drewN|apply below_drew1)|exact HB.out))) hk)));(case aO=>exact (by (with_reducible repeat (first|apply Kd.R_alloc|apply Kd.R_drewN|apply Kd.R_drew));exact HO_7.out));(case aS=>exact (below_size (by repeat (first|(with_reducible first|exact HB.out|apply below_alloc|apply pw_below_drewN|apply below_drew1)|exact HB.out))));(case aL=>have:=LMc29.out;omega);intro v122 w31 ho hb hg hat;rw [← Ny121.out] at ho;have n0_:=Aside0.mk (Kd.V_afterv (ok:=(fun k_=>((P0_ k_ ∨ P1_ k_) ∨ w.heap.size ≤ k_))) (by (with_reducible repeat (first|apply Kd.V_alloc|apply Kd.V_drewN|apply Kd.V_drew));exact HO_0.out) hg hat);have n1_:=Aside0.mk (Kd.V_afterv (ok:=(fun k_=>((P0_ k_ ∨ P1_ k_) ∨ w.heap.size ≤ k_))) (by (with_reducible repeat (first|apply Kd.V_alloc|apply Kd.V_drewN|apply Kd.V_drew));exact HO_1.out) hg hat);have n2_:=Aside0.mk (Kd.V_afterv (ok:=(fun k_=>((P0_ k_ ∨ P1_ k_) ∨ w.heap.size ≤ k_))) (by (with_reducible repeat (first|apply Kd.V_alloc|apply Kd.V_drewN|apply Kd.V_drew));exact HO119.out) hg hat);have n3_:=Aside0.mk (hb);have n4_:=Aside0.mk (ho);clear HO_0;clear HO_1;clear HO119;clear HB;clear HO_7;have HO_0:=n0_;have HO_1:=n1_;have HO119:=n2_;have HB:=n3_;have HO123:=n4_;clear n0_ n1_ n2_ n3_ n4_;clear ho hb hg hat)))
               (try simp only [Exit.then,Exit.inBlock])
               apply wp_goto
               (try simp only [Exit.then,Exit.inBlock])
               refine Go.Proofs.YtfbfgaaaegbihaaW.PJ.jump_goto ?_
               go_step
               go_roundg kj18
               case measure=>have:=HK1.out;have:=HJ6.out;have:=HJ13.out;have:=HJ18.out;omega
               case rel=>exact ⟨(y115),(x1_18),(y121),H',⟨by have:=HK1.out;have:=HJ6.out;have:=HJ13.out;have:=HJ18.out;omega⟩,⟨by (with_reducible repeat (first|apply Kd.V_alloc|apply Kd.V_drewN|apply Kd.V_drew));exact HO119.out⟩,⟨by (with_reducible repeat (first|apply Kd.V_alloc|apply Kd.V_drewN|apply Kd.V_drew));exact HO_1.out⟩,⟨by (with_reducible repeat (first|apply Kd.R_alloc|apply Kd.R_drewN|apply Kd.R_drew));exact HO123.out⟩,⟨by repeat (first|(with_reducible first|exact HB.out|apply below_alloc|apply pw_below_drewN|apply below_drew1)|exact HB.out)⟩⟩
              ·rw [if_neg c29] at H
               exact absurd H (by simp)
             ·replace c28:=Bool.eq_false_iff.mpr c28
              subst c28
              have H1 : (cats_merge_at_53.l0 kj18 y115 x1_18 x7_1) = some r:=by rw [if_neg (show ¬ (false = true) by decide)] at H;exact H
              clear H
              have H:=H1
              clear H1
              have H':=Aside0.mk H
              clear H
              have p114 : 0 ≤ (0 : Int):=(by omega)
              have q114 : 0 < (x0_1.length : Int):=of_decide_eq_true (by first|(with_reducible assumption)|assumption)
              obtain ⟨ad114,e114,hx114_0⟩:=Kd.at_int (Kd.V_reads' HO_0.out).2.2 0 p114 q114
              cases e114
              have qi114 : (0 < x0_1.length) = True:=eq_true (by omega)
              (try rw [show ((0 : Int)).toNat = 0 from rfl] at hx114_0)
              (try rw [Addr.add_zero'] at hx114_0)
              replace p114:=eq_true p114
              replace q114:=eq_true q114
              have q32 : (1 : Int) ≤ ((x0_1.length : Int) : Int):=of_decide_eq_true (by first|(with_reducible assumption)|assumption)
              obtain ⟨i032,hi032,_,hsz32,_⟩:=info_parts info25
              have hroom32 : x0_1.length ≤ co8:=(Kd.V_reads' HO_0.out).2.1
              have hC32 : Kd.F (Kd.int .u16) _ _ (some ad114) x0_1.length x0_1:=(Kd.V_at (base:=w.heap.size) HO_0.out).2.2
              have hcut32:=cut_from (P:=Try.prog) 22 25 .i64 Try.underlying22 hi032 1 hsz32 (some ad114) x0_1.length co8 1 (by omega) q32
              have hr32:=Kd.F_cut (m:=(1 : Int).toNat) (c:=co8) hC32 (by omega) hroom32
              obtain ⟨A32,hA32⟩ : ∃ A1,A1 = (if co8 = (1 : Int).toNat then (some ad114) else ((some ad114) : Option Addr).map (·.add ((1 : Int).toNat * 1))):=⟨_,rfl⟩
              obtain ⟨c32,hc32⟩ : ∃ c1,c1 = co8 - (1 : Int).toNat:=⟨_,rfl⟩
              have hy32 : y115.length = x0_1.length - (1 : Int).toNat:=(by rw [Ny115.out,List.length_drop] <;> omega)
              rw [show (x0_1).drop (1 : Int).toNat = y115 from Ny115.out.symm] at hr32
              replace hr32 : Kd.F (Kd.int .u16) _ _ A32 y115.length y115:=(by rw [hA32];exact hr32)
              rw [← hy32,← hA32,← hc32] at hcut32
              have HO119:=Aside0.mk (show Kd.V (Kd.int .u16) 25 _ w.heap.size _ (.slice A32 y115.length c32) y115 from Kd.V_mk (by rw [hy32,hc32];exact Nat.sub_le_sub_right hroom32 _) hr32)
              have HC119:=Aside0.mk (show y115.length ≤ c32 from by rw [hy32,hc32];exact Nat.sub_le_sub_right hroom32 _)
              clear hr32 hC32 hroom32 hi032 hsz32 hc32
              have KY32:=Aside0.mk hy32
              have KA32:=Aside0.mk hA32
              clear hy32 hA32
              replace q32:=eq_true q32
              go_wp2_with (first|(go_at_call 53;(with_reducible refine (cats_Or_1.calls true x9_13 false _ A27.out).mono ?_);rintro e w' ⟨rfl,⟨nd,rfl⟩⟩;(try first|exact ⟨rfl,_,World.drewN_drewN _ _ _⟩|exact ⟨rfl,_,Eq.trans (World.drewN_drewN _ _ _) (congrArg (World.drewN _) (Nat.add_assoc _ _ _))⟩)))
              repeat (go_quiet (first|(go_at_call 53;(with_reducible refine (cats_Or_1.calls true x9_13 false _ A27.out).mono ?_);rintro e w' ⟨rfl,⟨nd,rfl⟩⟩;(try first|exact ⟨rfl,_,World.drewN_drewN _ _ _⟩|exact ⟨rfl,_,Eq.trans (World.drewN_drewN _ _ _) (congrArg (World.drewN _) (Nat.add_assoc _ _ _))⟩)));try go_wp2_with (first|(go_at_call 53;(with_reducible refine (cats_Or_1.calls true x9_13 false _ A27.out).mono ?_);rintro e w' ⟨rfl,⟨nd,rfl⟩⟩;(try first|exact ⟨rfl,_,World.drewN_drewN _ _ _⟩|exact ⟨rfl,_,Eq.trans (World.drewN_drewN _ _ _) (congrArg (World.drewN _) (Nat.add_assoc _ _ _))⟩))))
              (try simp only [Exit.then,Exit.inBlock])
              apply wp_goto
              (try simp only [Exit.then,Exit.inBlock])
              refine Go.Proofs.YtfbfgaaaegbihaaW.PJ.jump_goto ?_
              go_step
              go_roundg kj18
              case measure=>have:=HK1.out;have:=HJ6.out;have:=HJ13.out;have:=HJ18.out;omega
              case rel=>exact ⟨(y115),(x1_18),(x7_1),H',⟨by have:=HK1.out;have:=HJ6.out;have:=HJ13.out;have:=HJ18.out;omega⟩,⟨by (with_reducible repeat (first|apply Kd.V_alloc|apply Kd.V_drewN|apply Kd.V_drew));exact HO119.out⟩,⟨by (with_reducible repeat (first|apply Kd.V_alloc|apply Kd.V_drewN|apply Kd.V_drew));exact HO_1.out⟩,⟨by (with_reducible repeat (first|apply Kd.R_alloc|apply Kd.R_drewN|apply Kd.R_drew));exact HO_7.out⟩,⟨by repeat (first|(with_reducible first|exact HB.out|apply below_alloc|apply pw_below_drewN|apply below_drew1)|exact HB.out)⟩⟩
            ·rw [if_neg c26] at H
             exact absurd H (by simp)
           ·rw [if_neg c25] at H
            exact absurd H (by simp)
          ·replace c24:=Bool.eq_false_iff.mpr c24
           subst c24
           have H1 : ((cats_Or_1.f false x9_13).bind fun t124=>(if t124 = true then (if x7_1.length < 70368744177664 then (cats_merge_at_53.l0 kj18 x0_1 x1_18 (x7_1 ++ [x10_18])) else (none)) else (cats_merge_at_53.l0 kj18 x0_1 x1_18 x7_1))) = some r:=by rw [if_neg (show ¬ (false = true) by decide)] at H;exact H
           clear H
           have H:=H1
           clear H1
           replace H:=Option.bind_eq_some_iff.mp H
           obtain ⟨t124,A330,H⟩:=H
           replace H : (if t124 = true then (if x7_1.length < 70368744177664 then (cats_merge_at_53.l0 kj18 x0_1 x1_18 (x7_1 ++ [x10_18])) else (none)) else (cats_merge_at_53.l0 kj18 x0_1 x1_18 x7_1)) = some r:=H
           have A33:=Aside0.mk A330
           clear A330
           by_cases c34 : t124 = true
           ·subst c34
            have H1 : (if x7_1.length < 70368744177664 then (cats_merge_at_53.l0 kj18 x0_1 x1_18 (x7_1 ++ [x10_18])) else (none)) = some r:=by rw [if_pos rfl] at H;exact H
            clear H
            have H:=H1
            clear H1
            by_cases c35 : x7_1.length < 70368744177664
            ·rw [if_pos c35] at H
             have LMc35:=Aside0.mk c35
             clear c35
             obtain ⟨y125,hy125⟩ : ∃ y_ : List Int,y_ = (x7_1 ++ [x10_18]):=⟨_,rfl⟩
             replace H : (cats_merge_at_53.l0 kj18 x0_1 x1_18 y125) = some r:=by first|(rw [hy125];with_reducible exact H)|(have H2_:=(Option.bind_some _ _).symm.trans H;rw [hy125];with_reducible exact H2_)|(have H2_:=(Option.bind_some _ _).symm.trans H;with_reducible exact H2_)|with_reducible exact H|(rw [hy125];exact H)|exact H
             have Ny125:=Aside0.mk hy125
             clear hy125
             have H':=Aside0.mk H
             clear H
             go_wp2_with (first|(go_at_call 53;(with_reducible refine (cats_Or_1.calls false x9_13 true _ A33.out).mono ?_);rintro e w' ⟨rfl,⟨nd,rfl⟩⟩;(try first|exact ⟨rfl,_,World.drewN_drewN _ _ _⟩|exact ⟨rfl,_,Eq.trans (World.drewN_drewN _ _ _) (congrArg (World.drewN _) (Nat.add_assoc _ _ _))⟩))|((with_reducible refine gate_builtin (b:=.append) (xs:=#[.tmp 68,.tmp 70]) rfl ?_);(try (refine gate_guard (by rfl) ?_;dsimp only));at_builtin;refine Kd.R_append (Kd.int .u16) (w0:=w) w.heap.size rfl (.tmp 68) (.tmp 70) 22 25 (.int .u16 0) 2 rfl Try.underlying22 info25 rfl (by decide) (by omega) u7 x7_1 x10_18 [.int .u16 x10_18] (fun k_=>(w.heap.size ≤ k_)) (fun _=>False) rfl rfl ?aP (fun _ hk=>hk.elim) ?aF ?aO ?aB ?aS ?aL ?_;(case aP=>exact rfl);(case aB=>exact (by repeat (first|(with_reducible first|exact HB.out|apply below_alloc|apply pw_below_drewN|apply below_drew1)|exact HB.out)));(case aF=>exact (fun k_ hk=>(Nat.le_trans (below_size (by repeat (first|(with_reducible first|exact HB.out|apply below_alloc|apply pw_below_drewN|apply below_drew1)|exact HB.out))) hk)));(case aO=>exact (by (with_reducible repeat (first|apply Kd.R_alloc|apply Kd.R_drewN|apply Kd.R_drew));exact HO_7.out));(case aS=>exact (below_size (by repeat (first|(with_reducible first|exact HB.out|apply below_alloc|apply pw_below_drewN|apply below_drew1)|exact HB.out))));(case aL=>have:=LMc35.out;omega);intro v126 w36 ho hb hg hat;rw [← Ny125.out] at ho;have n0_:=Aside0.mk (Kd.V_afterv (ok:=(fun k_=>((P0_ k_ ∨ P1_ k_) ∨ w.heap.size ≤ k_))) (by (with_reducible repeat (first|apply Kd.V_alloc|apply Kd.V_drewN|apply Kd.V_drew));exact HO_0.out) hg hat);have n1_:=Aside0.mk (Kd.V_afterv (ok:=(fun k_=>((P0_ k_ ∨ P1_ k_) ∨ w.heap.size ≤ k_))) (by (with_reducible repeat (first|apply Kd.V_alloc|apply Kd.V_drewN|apply Kd.V_drew));exact HO_1.out) hg hat);have n2_:=Aside0.mk (hb);have n3_:=Aside0.mk (ho);clear HO_0;clear HO_1;clear HB;clear HO_7;have HO_0:=n0_;have HO_1:=n1_;have HB:=n2_;have HO127:=n3_;clear n0_ n1_ n2_ n3_;clear ho hb hg hat))
             repeat (go_quiet (first|(go_at_call 53;(with_reducible refine (cats_Or_1.calls false x9_13 true _ A33.out).mono ?_);rintro e w' ⟨rfl,⟨nd,rfl⟩⟩;(try first|exact ⟨rfl,_,World.drewN_drewN _ _ _⟩|exact ⟨rfl,_,Eq.trans (World.drewN_drewN _ _ _) (congrArg (World.drewN _) (Nat.add_assoc _ _ _))⟩))|((with_reducible refine gate_builtin (b:=.append) (xs:=#[.tmp 68,.tmp 70]) rfl ?_);(try (refine gate_guard (by rfl) ?_;dsimp only));at_builtin;refine Kd.R_append (Kd.int .u16) (w0:=w) w.heap.size rfl (.tmp 68) (.tmp 70) 22 25 (.int .u16 0) 2 rfl Try.underlying22 info25 rfl (by decide) (by omega) u7 x7_1 x10_18 [.int .u16 x10_18] (fun k_=>(w.heap.size ≤ k_)) (fun _=>False) rfl rfl ?aP (fun _ hk=>hk.elim) ?aF ?aO ?aB ?aS ?aL ?_;(case aP=>exact rfl);(case aB=>exact (by repeat (first|(with_reducible first|exact HB.out|apply below_alloc|apply pw_below_drewN|apply below_drew1)|exact HB.out)));(case aF=>exact (fun k_ hk=>(Nat.le_trans (below_size (by repeat (first|(with_reducible first|exact HB.out|apply below_alloc|apply pw_below_drewN|apply below_drew1)|exact HB.out))) hk)));(case aO=>exact (by (with_reducible repeat (first|apply Kd.R_alloc|apply Kd.R_drewN|apply Kd.R_drew));exact HO_7.out));(case aS=>exact (below_size (by repeat (first|(with_reducible first|exact HB.out|apply below_alloc|apply pw_below_drewN|apply below_drew1)|exact HB.out))));(case aL=>have:=LMc35.out;omega);intro v126 w36 ho hb hg hat;rw [← Ny125.out] at ho;have n0_:=Aside0.mk (Kd.V_afterv (ok:=(fun k_=>((P0_ k_ ∨ P1_ k_) ∨ w.heap.size ≤ k_))) (by (with_reducible repeat (first|apply Kd.V_alloc|apply Kd.V_drewN|apply Kd.V_drew));exact HO_0.out) hg hat);have n1_:=Aside0.mk (Kd.V_afterv (ok:=(fun k_=>((P0_ k_ ∨ P1_ k_) ∨ w.heap.size ≤ k_))) (by (with_reducible repeat (first|apply Kd.V_alloc|apply Kd.V_drewN|apply Kd.V_drew));exact HO_1.out) hg hat);have n2_:=Aside0.mk (hb);have n3_:=Aside0.mk (ho);clear HO_0;clear HO_1;clear HB;clear HO_7;have HO_0:=n0_;have HO_1:=n1_;have HB:=n2_;have HO127:=n3_;clear n0_ n1_ n2_ n3_;clear ho hb hg hat));try go_wp2_with (first|(go_at_call 53;(with_reducible refine (cats_Or_1.calls false x9_13 true _ A33.out).mono ?_);rintro e w' ⟨rfl,⟨nd,rfl⟩⟩;(try first|exact ⟨rfl,_,World.drewN_drewN _ _ _⟩|exact ⟨rfl,_,Eq.trans (World.drewN_drewN _ _ _) (congrArg (World.drewN _) (Nat.add_assoc _ _ _))⟩))|((with_reducible refine gate_builtin (b:=.append) (xs:=#[.tmp 68,.tmp 70]) rfl ?_);(try (refine gate_guard (by rfl) ?_;dsimp only));at_builtin;refine Kd.R_append (Kd.int .u16) (w0:=w) w.heap.size rfl (.tmp 68) (.tmp 70) 22 25 (.int .u16 0) 2 rfl Try.underlying22 info25 rfl (by decide) (by omega) u7 x7_1 x10_18 [.int .u16 x10_18] (fun k_=>(w.heap.size ≤ k_)) (fun _=>False) rfl rfl ?aP (fun _ hk=>hk.elim) ?aF ?aO ?aB ?aS ?aL ?_;(case aP=>exact rfl);(case aB=>exact (by repeat (first|(with_reducible first|exact HB.out|apply below_alloc|apply pw_below_drewN|apply below_drew1)|exact HB.out)));(case aF=>exact (fun k_ hk=>(Nat.le_trans (below_size (by repeat (first|(with_reducible first|exact HB.out|apply below_alloc|apply pw_below_drewN|apply below_drew1)|exact HB.out))) hk)));(case aO=>exact (by (with_reducible repeat (first|apply Kd.R_alloc|apply Kd.R_drewN|apply Kd.R_drew));exact HO_7.out));(case aS=>exact (below_size (by repeat (first|(with_reducible first|exact HB.out|apply below_alloc|apply pw_below_drewN|apply below_drew1)|exact HB.out))));(case aL=>have:=LMc35.out;omega);intro v126 w36 ho hb hg hat;rw [← Ny125.out] at ho;have n0_:=Aside0.mk (Kd.V_afterv (ok:=(fun k_=>((P0_ k_ ∨ P1_ k_) ∨ w.heap.size ≤ k_))) (by (with_reducible repeat (first|apply Kd.V_alloc|apply Kd.V_drewN|apply Kd.V_drew));exact HO_0.out) hg hat);have n1_:=Aside0.mk (Kd.V_afterv (ok:=(fun k_=>((P0_ k_ ∨ P1_ k_) ∨ w.heap.size ≤ k_))) (by (with_reducible repeat (first|apply Kd.V_alloc|apply Kd.V_drewN|apply Kd.V_drew));exact HO_1.out) hg hat);have n2_:=Aside0.mk (hb);have n3_:=Aside0.mk (ho);clear HO_0;clear HO_1;clear HB;clear HO_7;have HO_0:=n0_;have HO_1:=n1_;have HB:=n2_;have HO127:=n3_;clear n0_ n1_ n2_ n3_;clear ho hb hg hat)))
             (try simp only [Exit.then,Exit.inBlock])
             apply wp_goto
             (try simp only [Exit.then,Exit.inBlock])
             refine Go.Proofs.YtfbfgaaaegbihaaW.PJ.jump_goto ?_
             go_step
             go_roundg kj18
             case measure=>have:=HK1.out;have:=HJ6.out;have:=HJ13.out;have:=HJ18.out;omega
             case rel=>exact ⟨(x0_1),(x1_18),(y125),H',⟨by have:=HK1.out;have:=HJ6.out;have:=HJ13.out;have:=HJ18.out;omega⟩,⟨by (with_reducible repeat (first|apply Kd.V_alloc|apply Kd.V_drewN|apply Kd.V_drew));exact HO_0.out⟩,⟨by (with_reducible repeat (first|apply Kd.V_alloc|apply Kd.V_drewN|apply Kd.V_drew));exact HO_1.out⟩,⟨by (with_reducible repeat (first|apply Kd.R_alloc|apply Kd.R_drewN|apply Kd.R_drew));exact HO127.out⟩,⟨by repeat (first|(with_reducible first|exact HB.out|apply below_alloc|apply pw_below_drewN|apply below_drew1)|exact HB.out)⟩⟩
            ·rw [if_neg c35] at H
             exact absurd H (by simp)
           ·replace c34:=Bool.eq_false_iff.mpr c34
            subst c34
            have H1 : (cats_merge_at_53.l0 kj18 x0_1 x1_18 x7_1) = some r:=by rw [if_neg (show ¬ (false = true) by decide)] at H;exact H
            clear H
            have H:=H1
            clear H1
            have H':=Aside0.mk H
            clear H
            go_wp2_with (first|(go_at_call 53;(with_reducible refine (cats_Or_1.calls false x9_13 false _ A33.out).mono ?_);rintro e w' ⟨rfl,⟨nd,rfl⟩⟩;(try first|exact ⟨rfl,_,World.drewN_drewN _ _ _⟩|exact ⟨rfl,_,Eq.trans (World.drewN_drewN _ _ _) (congrArg (World.drewN _) (Nat.add_assoc _ _ _))⟩)))
            repeat (go_quiet (first|(go_at_call 53;(with_reducible refine (cats_Or_1.calls false x9_13 false _ A33.out).mono ?_);rintro e w' ⟨rfl,⟨nd,rfl⟩⟩;(try first|exact ⟨rfl,_,World.drewN_drewN _ _ _⟩|exact ⟨rfl,_,Eq.trans (World.drewN_drewN _ _ _) (congrArg (World.drewN _) (Nat.add_assoc _ _ _))⟩)));try go_wp2_with (first|(go_at_call 53;(with_reducible refine (cats_Or_1.calls false x9_13 false _ A33.out).mono ?_);rintro e w' ⟨rfl,⟨nd,rfl⟩⟩;(try first|exact ⟨rfl,_,World.drewN_drewN _ _ _⟩|exact ⟨rfl,_,Eq.trans (World.drewN_drewN _ _ _) (congrArg (World.drewN _) (Nat.add_assoc _ _ _))⟩))))
            (try simp only [Exit.then,Exit.inBlock])
            apply wp_goto
            (try simp only [Exit.then,Exit.inBlock])
            refine Go.Proofs.YtfbfgaaaegbihaaW.PJ.jump_goto ?_
            go_step
            go_roundg kj18
            case measure=>have:=HK1.out;have:=HJ6.out;have:=HJ13.out;have:=HJ18.out;omega
            case rel=>exact ⟨(x0_1),(x1_18),(x7_1),H',⟨by have:=HK1.out;have:=HJ6.out;have:=HJ13.out;have:=HJ18.out;omega⟩,⟨by (with_reducible repeat (first|apply Kd.V_alloc|apply Kd.V_drewN|apply Kd.V_drew));exact HO_0.out⟩,⟨by (with_reducible repeat (first|apply Kd.V_alloc|apply Kd.V_drewN|apply Kd.V_drew));exact HO_1.out⟩,⟨by (with_reducible repeat (first|apply Kd.R_alloc|apply Kd.R_drewN|apply Kd.R_drew));exact HO_7.out⟩,⟨by repeat (first|(with_reducible first|exact HB.out|apply below_alloc|apply pw_below_drewN|apply below_drew1)|exact HB.out)⟩⟩

/-! ### cats_Or: function 34 -/
def cats_Or.f (k : Nat) (l0 : List Int) (l1 : List Int) : Option (List Int):=(cats_merge_at_53.f k l0 l1).bind fun t128=>(some t128)
theorem cats_Or.mono : ∀ a0 a1 k,LeO (cats_Or.f k a0 a1) (cats_Or.f (k + 1) a0 a1):=by
 intro a0 a1 k
 unfold cats_Or.f
 repeat' first
   | (with_reducible exact cats_merge_at_53.mono _ _ _)
   | (with_reducible exact LeO.refl _)
   | (with_reducible exact LeO.none _)
   | (with_reducible refine LeO.ite ?_ ?_)
   | (with_reducible refine LeO.bind ?_ (fun _=>?_))
   | exact cats_merge_at_53.mono _ _ _
   | exact LeO.none _
   | refine LeO.ite ?_ ?_
   | refine LeO.bind ?_ (fun _=>?_)
set_option maxHeartbeats 8000000 in
set_option maxRecDepth 100000 in
theorem cats_Or.calls (k : Nat) (A0 : Option Addr) (c0 : Nat) (l0 : List Int) (A1 : Option Addr) (c1 : Nat) (l1 : List Int) (r : List Int) (w : World) (hr0 : Kd.C (Kd.int .u16) w A0 l0.length l0) (hc0 : l0.length ≤ c0) (hr1 : Kd.C (Kd.int .u16) w A1 l1.length l1) (hc1 : l1.length ≤ c1) (h : cats_Or.f k l0 l1 = some r) :
  Calls Try.prog 34 #[.slice A0 l0.length c0,.slice A1 l1.length c1] w fun e w'=>∃ v0_ : Value,e = .returned (v0_) ∧ Kd.R (Kd.int .u16) 25 w' w.heap.size (fun _=>True) v0_ r ∧ Below w.heap.size w w':=by
 have HR0:=Aside0.mk hr0
 have HC0:=Aside0.mk hc0
 clear hr0 hc0
 have HR1:=Aside0.mk hr1
 have HC1:=Aside0.mk hc1
 clear hr1 hc1
 have HB:=Aside0.mk (Below.refl w.heap.size w)
 have H : ((cats_merge_at_53.f k l0 l1).bind fun t128=>(some t128)) = some r:=h
 clear h
 replace H:=Option.bind_eq_some_iff.mp H
 obtain ⟨t128,A30,H⟩:=H
 replace H : (some t128) = some r:=H
 have A3:=Aside0.mk A30
 clear A30
 obtain rfl:=Option.some.inj H
 go_enter Try.func34,Try.ntmps34
 go_wp2_with (first|((with_reducible refine gate_callee (f:=52) rfl ?_);refine goesL_ (some 7) rfl rfl Try.func52 (by kernel_rfl) rfl #[.slice A0 l0.length c0,.slice A1 l1.length c1,.func (.func 53) #[] #[]] rfl (by (try simp only [List.map_toArray,List.map_cons,List.map_nil]);first|done|rfl|(simp only [List.length_drop,List.length_take];rfl)) ?_;(with_reducible refine (cats_merge_at_53.calls k (fun k_=>k_ < w.heap.size) _ _ l0 (fun k_=>k_ < w.heap.size) _ _ l1  t128 _ ?side1 ?side2 A3.out).mono ?_);(case side1=>exact Kd.V_mk HC0.out (Kd.F_below (Kd.C_F (Kd.heap_int .u16) HR0.out) (by repeat (first|(with_reducible first|exact HB.out|apply below_alloc|apply pw_below_drewN|apply below_drew1)|exact HB.out))));(case side2=>exact Kd.V_mk HC1.out (Kd.F_below (Kd.C_F (Kd.heap_int .u16) HR1.out) (by repeat (first|(with_reducible first|exact HB.out|apply below_alloc|apply pw_below_drewN|apply below_drew1)|exact HB.out))));rintro e w4 ⟨v129,rfl,ho0,hb⟩;refine ⟨_,rfl,?_⟩;have n0_:=Aside0.mk (Kd.R_lower (Kd.R_mono (ok':=fun k_=>True) ho0 (fun _ hk_=>trivial)) (below_size (by repeat (first|(with_reducible first|exact HB.out|apply below_alloc|apply pw_below_drewN|apply below_drew1)|exact HB.out))));have n1_:=Aside0.mk (below_step (by repeat (first|(with_reducible first|exact HB.out|apply below_alloc|apply pw_below_drewN|apply below_drew1)|exact HB.out)) hb);clear HB;have HO130:=n0_;have HB:=n1_;clear n0_ n1_;(try clear hb);(try clear hb2);(try clear hk);(try clear hi);(try clear ho0)))
 go_ret
 exact ⟨_,by first|rfl|(simp [errW_none,errW_some] <;> rfl)|(simp [*,errW_none,errW_some] <;> rfl),by (with_reducible repeat (first|apply Kd.R_alloc|apply Kd.R_drewN|apply Kd.R_drew));exact HO130.out,by repeat (first|(with_reducible first|exact HB.out|apply below_alloc|apply pw_below_drewN|apply below_drew1)|exact HB.out)⟩

end Go.Proofs.Ytfbfgaaaegbihaa.PA
