-- Printed by a program of this session (pp.sh: the kit's print.py, turned). Not trusted: Lean checks it.
import Derived.Test.YtfbfgaaaegbihaaPAx0
namespace Go.Proofs.Ytfbfgaaaegbihaa.PA
open Go.RowKit Go.Proofs.YtfbfgaaaegbihaaW.PrintWords Go.Proofs.YtfbfgaaaegbihaaW.PrintLast Go.Proofs.YtfbfgaaaegbihaaW.PrintMore
attribute [local go_sem] max2_int min2_int max_two min_two max_three min_three max_four min_four   -- for this text's walks alone
set_option linter.unusedVariables false
set_option linter.unusedSimpArgs false

/-! ### transomref1_Make: function 54 -/
mutual
def transomref1_Make.l0 : Nat → List Int → List Int → Int → Option (List Int)
 | 0,_,_,_=>none
 | k + 1,x0,x3,x4=>if x4 < (x0.length : Int) then (transomref1_Make.l1 k x0 x3 x4 0) else (some x3)
def transomref1_Make.l1 : Nat → List Int → List Int → Int → Int → Option (List Int)
 | 0,_,_,_,_=>none
 | k + 1,x0,x3,x4,x5=>if x5 < (x3.length : Int) then (if 0 ≤ x5 then (if 0 ≤ x4 then (if x4 < (x0.length : Int) then (transomref1_Make.j2 k x0 x3 x4 x5 (decide ((rd x3 x5) < (rd x0 x4)))) else (none)) else (none)) else (none)) else (transomref1_Make.j2 k x0 x3 x4 x5 false)
def transomref1_Make.j2 : Nat → List Int → List Int → Int → Int → Bool → Option (List Int)
 | 0,_,_,_,_,_=>none
 | k + 1,x0,x3,x4,x5,x26=>if x26 = true then (transomref1_Make.l1 k x0 x3 x4 (wrap64 (x5 + 1))) else (if x5 = (x3.length : Int) then (transomref1_Make.j3 k x0 x3 x4 x5 true) else (if 0 ≤ x5 then (if x5 < (x3.length : Int) then (if 0 ≤ x4 then (if x4 < (x0.length : Int) then (transomref1_Make.j3 k x0 x3 x4 x5 ((rd x3 x5) != (rd x0 x4))) else (none)) else (none)) else (none)) else (none)))
def transomref1_Make.j3 : Nat → List Int → List Int → Int → Int → Bool → Option (List Int)
 | 0,_,_,_,_,_=>none
 | k + 1,x0,x3,x4,x5,x43=>if x43 = true then ((some (([] : List Int) : List Int)).bind fun y267=>(if 0 ≤ x5 then (if x5 ≤ (x3.length : Int) then ((some (x3.take (x5 : Int).toNat : List Int)).bind fun y270=>(if y267.length + y270.length < 70368744177664 then ((some (y267 ++ y270 : List Int)).bind fun y274=>(if 0 ≤ x4 then (if x4 < (x0.length : Int) then ((some (([rd x0 x4] : List Int) : List Int)).bind fun y278=>(if y274.length + y278.length < 70368744177664 then ((some (y274 ++ y278 : List Int)).bind fun y281=>((some (x3.drop (x5 : Int).toNat : List Int)).bind fun y284=>(if y281.length + y284.length < 70368744177664 then (transomref1_Make.l0 k x0 (y281 ++ y284) (wrap64 (x4 + 1))) else (none)))) else (none))) else (none)) else (none))) else (none))) else (none)) else (none))) else (transomref1_Make.l0 k x0 x3 (wrap64 (x4 + 1)))
end
def transomref1_Make.f (k : Nat) (l0 : List Int) : Option (List Int):=transomref1_Make.l0 k l0 ([] : List Int) 0
theorem transomref1_Make.mono_l : ∀ k,(∀ y0 y1 y2,LeO (transomref1_Make.l0 k y0 y1 y2) (transomref1_Make.l0 (k + 1) y0 y1 y2)) ∧ (∀ y0 y1 y2 y3,LeO (transomref1_Make.l1 k y0 y1 y2 y3) (transomref1_Make.l1 (k + 1) y0 y1 y2 y3)) ∧ (∀ y0 y1 y2 y3 y4,LeO (transomref1_Make.j2 k y0 y1 y2 y3 y4) (transomref1_Make.j2 (k + 1) y0 y1 y2 y3 y4)) ∧ (∀ y0 y1 y2 y3 y4,LeO (transomref1_Make.j3 k y0 y1 y2 y3 y4) (transomref1_Make.j3 (k + 1) y0 y1 y2 y3 y4))
 | 0=>⟨fun _ _ _ r h=>by simp [transomref1_Make.l0] at h,fun _ _ _ _ r h=>by simp [transomref1_Make.l1] at h,fun _ _ _ _ _ r h=>by simp [transomref1_Make.j2] at h,fun _ _ _ _ _ r h=>by simp [transomref1_Make.j3] at h⟩
 | k + 1=>by
  obtain ⟨ih0,ih1,ih2,ih3⟩:=transomref1_Make.mono_l k
  refine ⟨?_,?_,?_,?_⟩
  ·intro y0 y1 y2
   unfold transomref1_Make.l0
   repeat' first
   | (with_reducible exact ih0 _ _ _)
   | (with_reducible exact ih1 _ _ _ _)
   | (with_reducible exact ih2 _ _ _ _ _)
   | (with_reducible exact ih3 _ _ _ _ _)
   | (with_reducible exact LeO.refl _)
   | (with_reducible exact LeO.none _)
   | (with_reducible refine LeO.ite ?_ ?_)
   | (with_reducible refine LeO.bind ?_ (fun _=>?_))
   | exact ih0 _ _ _
   | exact ih1 _ _ _ _
   | exact ih2 _ _ _ _ _
   | exact ih3 _ _ _ _ _
   | exact LeO.none _
   | refine LeO.ite ?_ ?_
   | refine LeO.bind ?_ (fun _=>?_)
  ·intro y0 y1 y2 y3
   unfold transomref1_Make.l1
   repeat' first
   | (with_reducible exact ih0 _ _ _)
   | (with_reducible exact ih1 _ _ _ _)
   | (with_reducible exact ih2 _ _ _ _ _)
   | (with_reducible exact ih3 _ _ _ _ _)
   | (with_reducible exact LeO.refl _)
   | (with_reducible exact LeO.none _)
   | (with_reducible refine LeO.ite ?_ ?_)
   | (with_reducible refine LeO.bind ?_ (fun _=>?_))
   | exact ih0 _ _ _
   | exact ih1 _ _ _ _
   | exact ih2 _ _ _ _ _
   | exact ih3 _ _ _ _ _
   | exact LeO.none _
   | refine LeO.ite ?_ ?_
   | refine LeO.bind ?_ (fun _=>?_)
  ·intro y0 y1 y2 y3 y4
   unfold transomref1_Make.j2
   repeat' first
   | (with_reducible exact ih0 _ _ _)
   | (with_reducible exact ih1 _ _ _ _)
   | (with_reducible exact ih2 _ _ _ _ _)
   | (with_reducible exact ih3 _ _ _ _ _)
   | (with_reducible exact LeO.refl _)
   | (with_reducible exact LeO.none _)
   | (with_reducible refine LeO.ite ?_ ?_)
   | (with_reducible refine LeO.bind ?_ (fun _=>?_))
   | exact ih0 _ _ _
   | exact ih1 _ _ _ _
   | exact ih2 _ _ _ _ _
   | exact ih3 _ _ _ _ _
   | exact LeO.none _
   | refine LeO.ite ?_ ?_
   | refine LeO.bind ?_ (fun _=>?_)
  ·intro y0 y1 y2 y3 y4
   unfold transomref1_Make.j3
   repeat' first
   | (with_reducible exact ih0 _ _ _)
   | (with_reducible exact ih1 _ _ _ _)
   | (with_reducible exact ih2 _ _ _ _ _)
   | (with_reducible exact ih3 _ _ _ _ _)
   | (with_reducible exact LeO.refl _)
   | (with_reducible exact LeO.none _)
   | (with_reducible refine LeO.ite ?_ ?_)
   | (with_reducible refine LeO.bind ?_ (fun _=>?_))
   | exact ih0 _ _ _
   | exact ih1 _ _ _ _
   | exact ih2 _ _ _ _ _
   | exact ih3 _ _ _ _ _
   | exact LeO.none _
   | refine LeO.ite ?_ ?_
   | refine LeO.bind ?_ (fun _=>?_)
theorem transomref1_Make.mono : ∀ a0 k,LeO (transomref1_Make.f k a0) (transomref1_Make.f (k + 1) a0):=by
 intro a0 k
 obtain ⟨ih0,ih1,ih2,ih3⟩:=transomref1_Make.mono_l k
 unfold transomref1_Make.f
 repeat' first
   | (with_reducible exact ih0 _ _ _)
   | (with_reducible exact ih1 _ _ _ _)
   | (with_reducible exact ih2 _ _ _ _ _)
   | (with_reducible exact ih3 _ _ _ _ _)
   | (with_reducible exact LeO.refl _)
   | (with_reducible exact LeO.none _)
   | (with_reducible refine LeO.ite ?_ ?_)
   | (with_reducible refine LeO.bind ?_ (fun _=>?_))
   | exact ih0 _ _ _
   | exact ih1 _ _ _ _
   | exact ih2 _ _ _ _ _
   | exact ih3 _ _ _ _ _
   | exact LeO.none _
   | refine LeO.ite ?_ ?_
   | refine LeO.bind ?_ (fun _=>?_)
def transomref1_Make.T6 : Bool × List (List Nat × List Nat):=(true,[([],[]),([],[]),([1],[1]),([0,2],[0,2]),([3],[3]),([4],[4]),([4],[4]),([5,6,4],[4,5,6]),([7,4],[4,7]),([4],[4]),([4],[4]),([9,10,4],[4,9,10]),([11,4],[4,11]),([8,12,4],[4,8,12]),([4,13],[4,13])])
def transomref1_Make.B6 : List Nat:=[0,0,2,7,15,31,31,127,255,31,31,1567,3615,8191,16383]
theorem transomref1_Make.tab6 : rtab .any (opsOf Try.f54 6) = transomref1_Make.T6:=by kernel_rfl
theorem transomref1_Make.bits6 : waitsOk transomref1_Make.T6.2 transomref1_Make.B6 = true:=by kernel_rfl
def transomref1_Make.T8 : Bool × List (List Nat × List Nat):=(true,[([],[]),([],[]),([1],[1]),([0,2],[0,2]),([3],[3]),([4],[4]),([4],[4]),([5,6,4],[4,5,6]),([7,4],[4,7]),([4],[4]),([4],[4]),([9,10,4],[4,9,10]),([11,4],[4,11]),([8,12,4],[4,8,12]),([4,13],[4,13])])
def transomref1_Make.B8 : List Nat:=[0,0,2,7,15,31,31,127,255,31,31,1567,3615,8191,16383]
theorem transomref1_Make.tab8 : rtab .any (opsOf Try.f54 8) = transomref1_Make.T8:=by kernel_rfl
theorem transomref1_Make.bits8 : waitsOk transomref1_Make.T8.2 transomref1_Make.B8 = true:=by kernel_rfl
def transomref1_Make.T9 : Bool × List (List Nat × List Nat):=(true,[([],[]),([],[]),([],[]),([1,2],[1,2]),([0,3],[0,3]),([],[]),([],[]),([5,6],[5,6]),([7],[7]),([8],[8]),([4,9,4],[4,9]),([],[]),([],[]),([11,12],[11,12]),([10,13,10],[10,13]),([14,14,0,1,2,3,4,5,6,7,8,9,10,11,12,13,14],[1,11,14])])
def transomref1_Make.B9 : List Nat:=[0,0,0,6,15,0,0,96,224,480,1023,0,0,6144,16383,32767]
theorem transomref1_Make.tab9 : rtab .any (opsOf Try.f54 9) = transomref1_Make.T9:=by kernel_rfl
theorem transomref1_Make.bits9 : waitsOk transomref1_Make.T9.2 transomref1_Make.B9 = true:=by kernel_rfl
set_option maxHeartbeats 8000000 in
set_option maxRecDepth 100000 in
theorem transomref1_Make.calls (k : Nat) (A0 : Option Addr) (c0 : Nat) (l0 : List Int) (r : List Int) (w : World) (hr0 : Kd.C (Kd.int .u16) w A0 l0.length l0) (hc0 : l0.length ≤ c0) (h : transomref1_Make.f k l0 = some r) :
  Calls Try.prog 54 #[.slice A0 l0.length c0] w fun e w'=>∃ v0_ : Value,e = .returned (v0_) ∧ Kd.R (Kd.int .u16) 25 w' w.heap.size (fun _=>True) v0_ r ∧ Below w.heap.size w w':=by
 have HR0:=Aside0.mk hr0
 have HC0:=Aside0.mk hc0
 clear hr0 hc0
 have HB:=Aside0.mk (Below.refl w.heap.size w)
 have H : (transomref1_Make.l0 k l0 ([] : List Int) 0) = some r:=h
 clear h
 have H':=Aside0.mk H
 clear H
 go_enter Try.func54,Try.ntmps54
 go_wp2
 go_loopg [3,4] k (fun kq v3 v4 w'=>∃ (x3_1 : List Int) (x4_1 : Int),v4 = .int .i64 x4_1 ∧ Aside0 (transomref1_Make.l0 kq l0 x3_1 x4_1 = some r) ∧ Aside0 (kq ≤ k) ∧ Aside0 (Kd.R (Kd.int .u16) 25 w' w.heap.size (fun _=>True) v3 x3_1) ∧ Aside0 (Below w.heap.size w w'))
 case atStart=>exact ⟨(([] : List Int)),(0),(by first|rfl|(simp;done)|(simp [*];done)),H',⟨Nat.le_refl _⟩,⟨by first|exact Kd.R_nil _ _ _ _ _|exact Kd.N_nil _ _ _ _ _|exact Kd.V_nil _ _ _ _ _|exact Kd.Q_nil _ _ _ _ _|exact Kd.S_nil _ _ _ _ _⟩,⟨by repeat (first|(with_reducible first|exact HB.out|apply below_alloc|apply pw_below_drewN|apply below_drew1)|exact HB.out)⟩⟩
 case round =>
  clear H'
  obtain ⟨x3_1,x4_1,rfl,HA,HK1,HO_3,HB⟩:=hrel
  cases gk with
  | zero=>exact absurd HA.out (by simp [transomref1_Make.l0])
  | succ k1 =>
   have H:=HA.out
   clear HA
   simp only [transomref1_Make.l0] at H
   by_cases c2 : x4_1 < (l0.length : Int)
   ·rw [if_pos c2] at H
    have c2b0 : decide (x4_1 < (l0.length : Int)) = true:=decide_eq_true c2
    clear c2
    have H':=Aside0.mk H
    clear H
    go_wp2
    go_loopg [5] k1 (fun kq v5 w'=>∃ (x5_2 : Int),v5 = .int .i64 x5_2 ∧ Aside0 (transomref1_Make.l1 kq l0 x3_1 x4_1 x5_2 = some r) ∧ Aside0 (kq ≤ k1) ∧ Aside0 (Kd.R (Kd.int .u16) 25 w' w.heap.size (fun _=>True) u3 x3_1) ∧ Aside0 (Below w.heap.size w w'))
    case atStart=>exact ⟨(0),(by first|rfl|(simp;done)|(simp [*];done)),H',⟨Nat.le_refl _⟩,⟨by (with_reducible repeat (first|apply Kd.R_alloc|apply Kd.R_drewN|apply Kd.R_drew));exact HO_3.out⟩,⟨by repeat (first|(with_reducible first|exact HB.out|apply below_alloc|apply pw_below_drewN|apply below_drew1)|exact HB.out)⟩⟩
    case round =>
     clear H'
     try clear c2
     try clear c2b0
     try clear p2
     obtain ⟨x5_2,rfl,HA,HK2,HO_3,HB⟩:=hrel
     cases gk with
     | zero=>exact absurd HA.out (by simp [transomref1_Make.l1])
     | succ k2 =>
      have H:=HA.out
      clear HA
      simp only [transomref1_Make.l1] at H
      have HC3:=Aside0.mk H
      clear H
      go_upto_region 6 with (fail)
      go_cut [26] (fun v26 wc=>∃ (kq : Nat) (x26_2 : Bool),v26 = .bool x26_2 ∧ Aside0 (transomref1_Make.j2 kq l0 x3_1 x4_1 x5_2 x26_2 = some r) ∧ Aside0 (kq ≤ k2) ∧ Aside0 (Kd.R (Kd.int .u16) 25 wc w.heap.size (fun _=>True) u3 x3_1) ∧ Aside0 (Below w.heap.size w wc))
      case first =>
       have H:=HC3.out
       clear HC3
       by_cases c4 : x5_2 < (x3_1.length : Int)
       ·rw [if_pos c4] at H
        have c4b0 : decide (x5_2 < (x3_1.length : Int)) = true:=decide_eq_true c4
        clear c4
        (first|rw [c4b0]|(simp only [i64_w,i32_w];rw [c4b0])|skip)
        by_cases c5 : 0 ≤ x5_2
        ·rw [if_pos c5] at H
         have c5b0 : decide (0 ≤ x5_2) = true:=decide_eq_true c5
         clear c5
         by_cases c6 : 0 ≤ x4_1
         ·rw [if_pos c6] at H
          have c6b0 : decide (0 ≤ x4_1) = true:=decide_eq_true c6
          clear c6
          by_cases c7 : x4_1 < (l0.length : Int)
          ·rw [if_pos c7] at H
           have c7b0 : decide (x4_1 < (l0.length : Int)) = true:=decide_eq_true c7
           clear c7
           have H':=Aside0.mk H
           clear H
           try go_wp2
           have n0_:=Aside0.mk (Kd.R_drew HO_3.out)
           have n1_:=Aside0.mk (below_drew1 HB.out)
           clear HO_3
           clear HB
           have HO_3:=n0_
           have HB:=n1_
           clear n0_ n1_
           obtain ⟨Ao9,co9,eo9⟩:=Kd.R_slice HO_3.out
           (first|subst eo9|(injection eo9 with f1_ f2_ f3_;have f4_:=f1_.symm;have f5_:=f3_.symm;clear f1_ f2_ f3_;subst f4_;subst f5_))
           have p263 : 0 ≤ (x5_2 : Int):=of_decide_eq_true (by first|(with_reducible assumption)|assumption)
           have q263 : x5_2 < (x3_1.length : Int):=of_decide_eq_true (by first|(with_reducible assumption)|assumption)
           obtain ⟨ad263,e263,hx263_0⟩:=Kd.at_int (Kd.R_reads' HO_3.out).2.2 x5_2 p263 q263
           cases e263
           replace p263:=eq_true p263
           replace q263:=eq_true q263
           have p264 : 0 ≤ (x4_1 : Int):=of_decide_eq_true (by first|(with_reducible assumption)|assumption)
           have q264 : x4_1 < (l0.length : Int):=of_decide_eq_true (by first|(with_reducible assumption)|assumption)
           obtain ⟨ad264,e264,hx264_0⟩:=Kd.at_int HR0.out x4_1 p264 q264
           have hw264_0:=hx264_0
           cases e264
           replace hx264_0:=(HB.out.cell (World.block_lt_of_cell? w _ hx264_0)).trans hx264_0
           replace p264:=eq_true p264
           replace q264:=eq_true q264
           refine start_ (n:=15) (S:=fun w'=>w'.cell? (ad263.add (x5_2).toNat) = some (.int .u16 (rd x3_1 x5_2)) ∧ w'.cell? (ad264.add (x4_1).toNat) = some (.int .u16 (rd l0 x4_1))) (ds:=[]) #[false,false,false,false,false,false,false,false,false,false,false,false,false,false,false] (by kernel_rfl) rfl rfl ⟨hx263_0,((HB.out.cell (World.block_lt_of_cell? w _ hw264_0)).trans hw264_0)⟩ (fun hHeld=>?_);refine with_tabW transomref1_Make.tab6 transomref1_Make.bits6 (fun HT_ HW_=>?_)
           generalize wr.drew = w8 at HO_3 HB hx263_0 hx264_0 hHeld ⊢
           refine pure_ (i:=0) (N:=some 12) (v:=?_) (a':=?_) #[true,false,false,false,false,false,false,false,false,false,false,false,false,false,false] rfl rfl (any_of HT_.out (by kernel_rfl)) (fun _ _ _ h=>h) (Or.inl ⟨by rfl,?_⟩) ?_ ?_
           rotate_left
           ·intro w'
            go_simp
            with_reducible rfl
           rotate_left
           ·simp only [Act.put,List.setIfInBounds_toArray,List.set_cons_zero,List.set_cons_succ,i64_w,i32_w]
            rfl
           refine pure_ (i:=1) (N:=some 13) (v:=?_) (a':=?_) #[true,true,false,false,false,false,false,false,false,false,false,false,false,false,false] rfl rfl (any_of HT_.out (by kernel_rfl)) (fun _ _ _ h=>h) (Or.inl ⟨by rfl,?_⟩) ?_ ?_
           rotate_left
           ·intro w'
            go_simp
            with_reducible rfl
           rotate_left
           ·simp only [Act.put,List.setIfInBounds_toArray,List.set_cons_zero,List.set_cons_succ,i64_w,i32_w]
            rfl
           refine pure_ (i:=2) (N:=some 14) (v:=?_) (a':=?_) #[true,true,true,false,false,false,false,false,false,false,false,false,false,false,false] rfl rfl (any_of HT_.out (by kernel_rfl)) (fun _ _ _ h=>h) (Or.inl ⟨by rfl,?_⟩) ?_ ?_
           rotate_left
           ·intro w'
            go_simp
            with_reducible rfl
           rotate_left
           ·simp only [Act.put,List.setIfInBounds_toArray,List.set_cons_zero,List.set_cons_succ,i64_w,i32_w]
            rfl
           refine pure_ (i:=3) (N:=some 15) (v:=?_) (a':=?_) #[true,true,true,true,false,false,false,false,false,false,false,false,false,false,false] rfl rfl (any_of HT_.out (by kernel_rfl)) (fun _ _ _ h=>h) (Or.inl ⟨by rfl,?_⟩) ?_ ?_
           rotate_left
           ·intro w'
            go_simp
            with_reducible rfl
           rotate_left
           ·simp only [Act.put,List.setIfInBounds_toArray,List.set_cons_zero,List.set_cons_succ,i64_w,i32_w]
            rfl
           refine pure_ (i:=4) (N:=some 16) (v:=?_) (a':=?_) #[true,true,true,true,true,false,false,false,false,false,false,false,false,false,false] rfl rfl (any_of HT_.out (by kernel_rfl)) (fun _ _ _ h=>h) (Or.inl ⟨by rfl,?_⟩) ?_ ?_
           rotate_left
           ·intro w'
            go_simp
            with_reducible rfl
           rotate_left
           ·simp only [Act.put,List.setIfInBounds_toArray,List.set_cons_zero,List.set_cons_succ,i64_w,i32_w]
            rfl
           refine pure_ (i:=5) (N:=some 17) (v:=?_) (a':=?_) #[true,true,true,true,true,true,false,false,false,false,false,false,false,false,false] rfl rfl (any_of HT_.out (by kernel_rfl)) (fun _ _ _ h=>h) (Or.inl ⟨by rfl,?_⟩) ?_ ?_
           rotate_left
           ·intro w'
            go_simp
            with_reducible rfl
           rotate_left
           ·simp only [Act.put,List.setIfInBounds_toArray,List.set_cons_zero,List.set_cons_succ,i64_w,i32_w]
            rfl
           refine pure_ (i:=6) (N:=some 18) (v:=?_) (a':=?_) #[true,true,true,true,true,true,true,false,false,false,false,false,false,false,false] rfl rfl (any_of HT_.out (by kernel_rfl)) (fun _ _ _ h=>h) (Or.inl ⟨by rfl,?_⟩) ?_ ?_
           rotate_left
           ·intro w'
            go_simp
            with_reducible rfl
           rotate_left
           ·simp only [Act.put,List.setIfInBounds_toArray,List.set_cons_zero,List.set_cons_succ,i64_w,i32_w]
            rfl
           refine pure_ (i:=7) (N:=some 19) (v:=?_) (a':=?_) #[true,true,true,true,true,true,true,true,false,false,false,false,false,false,false] rfl rfl (any_of HT_.out (by kernel_rfl)) (fun _ _ _ h=>h) (Or.inl ⟨by rfl,?_⟩) ?_ ?_
           rotate_left
           ·intro w'
            go_simp
            with_reducible rfl
           rotate_left
           ·simp only [Act.put,List.setIfInBounds_toArray,List.set_cons_zero,List.set_cons_succ,i64_w,i32_w]
            rfl
           refine pure_ (i:=9) (N:=some 21) (v:=?_) (a':=?_) #[true,true,true,true,true,true,true,true,false,true,false,false,false,false,false] rfl rfl (any_of HT_.out (by kernel_rfl)) (fun _ _ _ h=>h) (Or.inl ⟨by rfl,?_⟩) ?_ ?_
           rotate_left
           ·intro w'
            go_simp
            with_reducible rfl
           rotate_left
           ·simp only [Act.put,List.setIfInBounds_toArray,List.set_cons_zero,List.set_cons_succ,i64_w,i32_w]
            rfl
           refine pure_ (i:=10) (N:=some 22) (v:=?_) (a':=?_) #[true,true,true,true,true,true,true,true,false,true,true,false,false,false,false] rfl rfl (any_of HT_.out (by kernel_rfl)) (fun _ _ _ h=>h) (Or.inl ⟨by rfl,?_⟩) ?_ ?_
           rotate_left
           ·intro w'
            go_simp
            with_reducible rfl
           rotate_left
           ·simp only [Act.put,List.setIfInBounds_toArray,List.set_cons_zero,List.set_cons_succ,i64_w,i32_w]
            rfl
           refine pure_ (i:=11) (N:=some 23) (v:=?_) (a':=?_) #[true,true,true,true,true,true,true,true,false,true,true,true,false,false,false] rfl rfl (any_of HT_.out (by kernel_rfl)) (fun _ _ _ h=>h) (Or.inl ⟨by rfl,?_⟩) ?_ ?_
           rotate_left
           ·intro w'
            go_simp
            with_reducible rfl
           rotate_left
           ·simp only [Act.put,List.setIfInBounds_toArray,List.set_cons_zero,List.set_cons_succ,i64_w,i32_w]
            rfl
           refine take_ (i:=8) (N:=some 20) (v:=?_) (a':=?_) #[true,true,true,true,true,true,true,true,true,true,true,true,false,false,false] rfl rfl (take_ofW HT_.out HW_.out (by kernel_rfl)) (fun _ _ _ h=>h) (Or.inl ⟨by rfl,?_⟩) hHeld ?_ ?_
           rotate_left
           ·rintro w' ⟨s0,s1⟩
            go_simp
            with_reducible rfl
           rotate_left
           ·simp only [Act.put,List.setIfInBounds_toArray,List.set_cons_zero,List.set_cons_succ,i64_w,i32_w]
            rfl
           refine take_ (i:=12) (N:=some 24) (v:=?_) (a':=?_) #[true,true,true,true,true,true,true,true,true,true,true,true,true,false,false] rfl rfl (take_ofW HT_.out HW_.out (by kernel_rfl)) (fun _ _ _ h=>h) (Or.inl ⟨by rfl,?_⟩) hHeld ?_ ?_
           rotate_left
           ·rintro w' ⟨s0,s1⟩
            go_simp
            with_reducible rfl
           rotate_left
           ·simp only [Act.put,List.setIfInBounds_toArray,List.set_cons_zero,List.set_cons_succ,i64_w,i32_w]
            rfl
           refine pure_ (i:=13) (N:=some 25) (v:=?_) (a':=?_) #[true,true,true,true,true,true,true,true,true,true,true,true,true,true,false] rfl rfl (any_of HT_.out (by kernel_rfl)) (fun _ _ _ h=>h) (Or.inl ⟨by rfl,?_⟩) ?_ ?_
           rotate_left
           ·intro w'
            go_simp
            with_reducible rfl
           rotate_left
           ·simp only [Act.put,List.setIfInBounds_toArray,List.set_cons_zero,List.set_cons_succ,i64_w,i32_w]
            rfl
           refine pure_ (i:=14) (N:=some 26) (v:=?_) (a':=?_) #[true,true,true,true,true,true,true,true,true,true,true,true,true,true,true] rfl rfl (any_of HT_.out (by kernel_rfl)) (fun _ _ _ h=>h) (Or.inl ⟨by rfl,?_⟩) ?_ ?_
           rotate_left
           ·intro w'
            go_simp
            with_reducible rfl
           rotate_left
           ·simp only [Act.put,List.setIfInBounds_toArray,List.set_cons_zero,List.set_cons_succ,i64_w,i32_w]
            rfl
           refine done_ (done_of HT_.out (by kernel_rfl)) ?_
           try go_wp2
           go_meet
           case rel=>exact ⟨_,(decide ((rd x3_1 x5_2) < (rd l0 x4_1))),(by first|rfl|(simp;done)|(simp [*];done)),H',⟨by have:=HK1.out;have:=HK2.out;first|omega|exact Nat.le_refl _⟩,⟨by (with_reducible repeat (first|apply Kd.R_alloc|apply Kd.R_drewN|apply Kd.R_drew));exact HO_3.out⟩,⟨by repeat (first|(with_reducible first|exact HB.out|apply below_alloc|apply pw_below_drewN|apply below_drew1)|exact HB.out)⟩⟩
          ·rw [if_neg c7] at H
           exact absurd H (by simp)
         ·rw [if_neg c6] at H
          exact absurd H (by simp)
        ·rw [if_neg c5] at H
         exact absurd H (by simp)
       ·rw [if_neg c4] at H
        have c4b0 : decide (x5_2 < (x3_1.length : Int)) = false:=decide_eq_false c4
        clear c4
        (first|rw [c4b0]|(simp only [i64_w,i32_w];rw [c4b0])|skip)
        have H':=Aside0.mk H
        clear H
        try go_wp2
        have n0_:=Aside0.mk (Kd.R_drew HO_3.out)
        have n1_:=Aside0.mk (below_drew1 HB.out)
        clear HO_3
        clear HB
        have HO_3:=n0_
        have HB:=n1_
        clear n0_ n1_
        obtain ⟨Ao11,co11,eo11⟩:=Kd.R_slice HO_3.out
        (first|subst eo11|(injection eo11 with f1_ f2_ f3_;have f4_:=f1_.symm;have f5_:=f3_.symm;clear f1_ f2_ f3_;subst f4_;subst f5_))
        refine start_ (n:=15) (S:=fun w'=>True) (ds:=[]) #[false,false,false,false,false,false,false,false,false,false,false,false,false,false,false] (by kernel_rfl) rfl rfl trivial (fun hHeld=>?_);refine with_tabW transomref1_Make.tab6 transomref1_Make.bits6 (fun HT_ HW_=>?_)
        generalize wr.drew = w10 at HO_3 HB hHeld ⊢
        refine pure_ (i:=0) (N:=some 12) (v:=?_) (a':=?_) #[true,false,false,false,false,false,false,false,false,false,false,false,false,false,false] rfl rfl (any_of HT_.out (by kernel_rfl)) (fun _ _ _ h=>h) (Or.inl ⟨by rfl,?_⟩) ?_ ?_
        rotate_left
        ·intro w'
         go_simp
         with_reducible rfl
        rotate_left
        ·simp only [Act.put,List.setIfInBounds_toArray,List.set_cons_zero,List.set_cons_succ,i64_w,i32_w]
         rfl
        refine pure_ (i:=1) (N:=some 13) (v:=?_) (a':=?_) #[true,true,false,false,false,false,false,false,false,false,false,false,false,false,false] rfl rfl (any_of HT_.out (by kernel_rfl)) (fun _ _ _ h=>h) (Or.inl ⟨by rfl,?_⟩) ?_ ?_
        rotate_left
        ·intro w'
         go_simp
         with_reducible rfl
        rotate_left
        ·simp only [Act.put,List.setIfInBounds_toArray,List.set_cons_zero,List.set_cons_succ,i64_w,i32_w]
         rfl
        refine pure_ (i:=2) (N:=some 14) (v:=?_) (a':=?_) #[true,true,true,false,false,false,false,false,false,false,false,false,false,false,false] rfl rfl (any_of HT_.out (by kernel_rfl)) (fun _ _ _ h=>h) (Or.inl ⟨by rfl,?_⟩) ?_ ?_
        rotate_left
        ·intro w'
         go_simp
         with_reducible rfl
        rotate_left
        ·simp only [Act.put,List.setIfInBounds_toArray,List.set_cons_zero,List.set_cons_succ,i64_w,i32_w]
         rfl
        refine pure_ (i:=3) (N:=some 15) (v:=?_) (a':=?_) #[true,true,true,true,false,false,false,false,false,false,false,false,false,false,false] rfl rfl (any_of HT_.out (by kernel_rfl)) (fun _ _ _ h=>h) (Or.inl ⟨by rfl,?_⟩) ?_ ?_
        rotate_left
        ·intro w'
         go_simp
         with_reducible rfl
        rotate_left
        ·simp only [Act.put,List.setIfInBounds_toArray,List.set_cons_zero,List.set_cons_succ,i64_w,i32_w]
         rfl
        refine pure_ (i:=4) (N:=some 16) (v:=?_) (a':=?_) #[true,true,true,true,true,false,false,false,false,false,false,false,false,false,false] rfl rfl (any_of HT_.out (by kernel_rfl)) (fun _ _ _ h=>h) (Or.inl ⟨by rfl,?_⟩) ?_ ?_
        rotate_left
        ·intro w'
         go_simp
         with_reducible rfl
        rotate_left
        ·simp only [Act.put,List.setIfInBounds_toArray,List.set_cons_zero,List.set_cons_succ,i64_w,i32_w]
         rfl
        refine pure_ (i:=5) (N:=some 17) (v:=undef) (a':=?_) #[true,true,true,true,true,true,false,false,false,false,false,false,false,false,false] rfl rfl (any_of HT_.out (by kernel_rfl)) (fun _ _ _ h=>h) (Or.inr ⟨by rfl,rfl⟩) ?_ ?_
        rotate_left
        ·simp only [Act.put,List.setIfInBounds_toArray,List.set_cons_zero,List.set_cons_succ,i64_w,i32_w]
         rfl
        refine pure_ (i:=6) (N:=some 18) (v:=undef) (a':=?_) #[true,true,true,true,true,true,true,false,false,false,false,false,false,false,false] rfl rfl (any_of HT_.out (by kernel_rfl)) (fun _ _ _ h=>h) (Or.inr ⟨by rfl,rfl⟩) ?_ ?_
        rotate_left
        ·simp only [Act.put,List.setIfInBounds_toArray,List.set_cons_zero,List.set_cons_succ,i64_w,i32_w]
         rfl
        refine pure_ (i:=7) (N:=some 19) (v:=undef) (a':=?_) #[true,true,true,true,true,true,true,true,false,false,false,false,false,false,false] rfl rfl (any_of HT_.out (by kernel_rfl)) (fun _ _ _ h=>h) (Or.inr ⟨by rfl,rfl⟩) ?_ ?_
        rotate_left
        ·simp only [Act.put,List.setIfInBounds_toArray,List.set_cons_zero,List.set_cons_succ,i64_w,i32_w]
         rfl
        refine pure_ (i:=8) (N:=some 20) (v:=undef) (a':=?_) #[true,true,true,true,true,true,true,true,true,false,false,false,false,false,false] rfl rfl (any_of HT_.out (by kernel_rfl)) (fun _ _ _ h=>h) (Or.inr ⟨by rfl,rfl⟩) ?_ ?_
        rotate_left
        ·simp only [Act.put,List.setIfInBounds_toArray,List.set_cons_zero,List.set_cons_succ,i64_w,i32_w]
         rfl
        refine pure_ (i:=9) (N:=some 21) (v:=undef) (a':=?_) #[true,true,true,true,true,true,true,true,true,true,false,false,false,false,false] rfl rfl (any_of HT_.out (by kernel_rfl)) (fun _ _ _ h=>h) (Or.inr ⟨by rfl,rfl⟩) ?_ ?_
        rotate_left
        ·simp only [Act.put,List.setIfInBounds_toArray,List.set_cons_zero,List.set_cons_succ,i64_w,i32_w]
         rfl
        refine pure_ (i:=10) (N:=some 22) (v:=undef) (a':=?_) #[true,true,true,true,true,true,true,true,true,true,true,false,false,false,false] rfl rfl (any_of HT_.out (by kernel_rfl)) (fun _ _ _ h=>h) (Or.inr ⟨by rfl,rfl⟩) ?_ ?_
        rotate_left
        ·simp only [Act.put,List.setIfInBounds_toArray,List.set_cons_zero,List.set_cons_succ,i64_w,i32_w]
         rfl
        refine pure_ (i:=11) (N:=some 23) (v:=undef) (a':=?_) #[true,true,true,true,true,true,true,true,true,true,true,true,false,false,false] rfl rfl (any_of HT_.out (by kernel_rfl)) (fun _ _ _ h=>h) (Or.inr ⟨by rfl,rfl⟩) ?_ ?_
        rotate_left
        ·simp only [Act.put,List.setIfInBounds_toArray,List.set_cons_zero,List.set_cons_succ,i64_w,i32_w]
         rfl
        refine pure_ (i:=12) (N:=some 24) (v:=undef) (a':=?_) #[true,true,true,true,true,true,true,true,true,true,true,true,true,false,false] rfl rfl (any_of HT_.out (by kernel_rfl)) (fun _ _ _ h=>h) (Or.inr ⟨by rfl,rfl⟩) ?_ ?_
        rotate_left
        ·simp only [Act.put,List.setIfInBounds_toArray,List.set_cons_zero,List.set_cons_succ,i64_w,i32_w]
         rfl
        refine pure_ (i:=13) (N:=some 25) (v:=undef) (a':=?_) #[true,true,true,true,true,true,true,true,true,true,true,true,true,true,false] rfl rfl (any_of HT_.out (by kernel_rfl)) (fun _ _ _ h=>h) (Or.inr ⟨by rfl,rfl⟩) ?_ ?_
        rotate_left
        ·simp only [Act.put,List.setIfInBounds_toArray,List.set_cons_zero,List.set_cons_succ,i64_w,i32_w]
         rfl
        refine pure_ (i:=14) (N:=some 26) (v:=?_) (a':=?_) #[true,true,true,true,true,true,true,true,true,true,true,true,true,true,true] rfl rfl (any_of HT_.out (by kernel_rfl)) (fun _ _ _ h=>h) (Or.inl ⟨by rfl,?_⟩) ?_ ?_
        rotate_left
        ·intro w'
         go_simp
         with_reducible rfl
        rotate_left
        ·simp only [Act.put,List.setIfInBounds_toArray,List.set_cons_zero,List.set_cons_succ,i64_w,i32_w]
         rfl
        refine done_ (done_of HT_.out (by kernel_rfl)) ?_
        try go_wp2
        go_meet
        case rel=>exact ⟨_,(false),(by first|rfl|(simp;done)|(simp [*];done)),H',⟨by have:=HK1.out;have:=HK2.out;first|omega|exact Nat.le_refl _⟩,⟨by (with_reducible repeat (first|apply Kd.R_alloc|apply Kd.R_drewN|apply Kd.R_drew));exact HO_3.out⟩,⟨by repeat (first|(with_reducible first|exact HB.out|apply below_alloc|apply pw_below_drewN|apply below_drew1)|exact HB.out)⟩⟩
      case rest =>
       clear HC3
       try clear c2
       try clear c2b0
       try clear p2
       try clear q2
       try clear hx2
       try clear c4
       try clear c4b0
       try clear c5
       try clear c5b0
       try clear c6
       try clear c6b0
       try clear c7
       try clear c7b0
       try clear hx263_0
       try clear hx264_0
       try clear p2
       try clear p263
       try clear p264
       try clear q263
       try clear q264
       obtain ⟨kq,x26_2,rfl,HA,HJ2,HO_3,HB⟩:=hcut
       cases kq with
       | zero=>exact absurd HA.out (by simp [transomref1_Make.j2])
       | succ kj2 =>
        have H:=HA.out
        clear HA
        simp only [transomref1_Make.j2] at H
        by_cases c12 : x26_2 = true
        ·subst c12
         have H1 : (transomref1_Make.l1 kj2 l0 x3_1 x4_1 (wrap64 (x5_2 + 1))) = some r:=by rw [if_pos rfl] at H;exact H
         clear H
         have H:=H1
         clear H1
         have H':=Aside0.mk H
         clear H
         go_wp2
         go_roundg kj2
         case measure=>have:=HK1.out;have:=HK2.out;have:=HJ2.out;omega
         case rel=>exact ⟨(wrap64 (x5_2 + 1)),(by first|rfl|(simp;done)|(simp [*];done)),H',⟨by have:=HK1.out;have:=HK2.out;have:=HJ2.out;omega⟩,⟨by (with_reducible repeat (first|apply Kd.R_alloc|apply Kd.R_drewN|apply Kd.R_drew));exact HO_3.out⟩,⟨by repeat (first|(with_reducible first|exact HB.out|apply below_alloc|apply pw_below_drewN|apply below_drew1)|exact HB.out)⟩⟩
        ·replace c12:=Bool.eq_false_iff.mpr c12
         subst c12
         have H1 : (if x5_2 = (x3_1.length : Int) then (transomref1_Make.j3 kj2 l0 x3_1 x4_1 x5_2 true) else (if 0 ≤ x5_2 then (if x5_2 < (x3_1.length : Int) then (if 0 ≤ x4_1 then (if x4_1 < (l0.length : Int) then (transomref1_Make.j3 kj2 l0 x3_1 x4_1 x5_2 ((rd x3_1 x5_2) != (rd l0 x4_1))) else (none)) else (none)) else (none)) else (none))) = some r:=by rw [if_neg (show ¬ (false = true) by decide)] at H;exact H
         clear H
         have H:=H1
         clear H1
         have HC13:=Aside0.mk H
         clear H
         go_upto_region 8 with (fail)
         go_cut [43] (fun v43 wc=>∃ (kq : Nat) (x43_12 : Bool),v43 = .bool x43_12 ∧ Aside0 (transomref1_Make.j3 kq l0 x3_1 x4_1 x5_2 x43_12 = some r) ∧ Aside0 (kq ≤ kj2) ∧ Aside0 (Kd.R (Kd.int .u16) 25 wc w.heap.size (fun _=>True) u3 x3_1) ∧ Aside0 (Below w.heap.size w wc))
         case first =>
          have H:=HC13.out
          clear HC13
          by_cases c14 : x5_2 = (x3_1.length : Int)
          ·rw [if_pos c14] at H
           have c14b0 : (x5_2 == (x3_1.length : Int)) = true:=beq_iff_eq.mpr c14
           have c14b1 : (x5_2 != (x3_1.length : Int)) = false:=bne_eq_false_iff_eq.mpr c14
           clear c14
           (first|rw [c14b0]|(simp only [i64_w,i32_w];rw [c14b0])|skip)
           have H':=Aside0.mk H
           clear H
           try go_wp2
           have n0_:=Aside0.mk (Kd.R_drew HO_3.out)
           have n1_:=Aside0.mk (below_drew1 HB.out)
           clear HO_3
           clear HB
           have HO_3:=n0_
           have HB:=n1_
           clear n0_ n1_
           obtain ⟨Ao16,co16,eo16⟩:=Kd.R_slice HO_3.out
           (first|subst eo16|(injection eo16 with f1_ f2_ f3_;have f4_:=f1_.symm;have f5_:=f3_.symm;clear f1_ f2_ f3_;subst f4_;subst f5_))
           refine start_ (n:=15) (S:=fun w'=>True) (ds:=[]) #[false,false,false,false,false,false,false,false,false,false,false,false,false,false,false] (by kernel_rfl) rfl rfl trivial (fun hHeld=>?_);refine with_tabW transomref1_Make.tab8 transomref1_Make.bits8 (fun HT_ HW_=>?_)
           generalize wc.drew = w15 at HO_3 HB hHeld ⊢
           refine pure_ (i:=0) (N:=some 29) (v:=?_) (a':=?_) #[true,false,false,false,false,false,false,false,false,false,false,false,false,false,false] rfl rfl (any_of HT_.out (by kernel_rfl)) (fun _ _ _ h=>h) (Or.inl ⟨by rfl,?_⟩) ?_ ?_
           rotate_left
           ·intro w'
            go_simp
            with_reducible rfl
           rotate_left
           ·simp only [Act.put,List.setIfInBounds_toArray,List.set_cons_zero,List.set_cons_succ,i64_w,i32_w]
            rfl
           refine pure_ (i:=1) (N:=some 30) (v:=?_) (a':=?_) #[true,true,false,false,false,false,false,false,false,false,false,false,false,false,false] rfl rfl (any_of HT_.out (by kernel_rfl)) (fun _ _ _ h=>h) (Or.inl ⟨by rfl,?_⟩) ?_ ?_
           rotate_left
           ·intro w'
            go_simp
            with_reducible rfl
           rotate_left
           ·simp only [Act.put,List.setIfInBounds_toArray,List.set_cons_zero,List.set_cons_succ,i64_w,i32_w]
            rfl
           refine pure_ (i:=2) (N:=some 31) (v:=?_) (a':=?_) #[true,true,true,false,false,false,false,false,false,false,false,false,false,false,false] rfl rfl (any_of HT_.out (by kernel_rfl)) (fun _ _ _ h=>h) (Or.inl ⟨by rfl,?_⟩) ?_ ?_
           rotate_left
           ·intro w'
            go_simp
            with_reducible rfl
           rotate_left
           ·simp only [Act.put,List.setIfInBounds_toArray,List.set_cons_zero,List.set_cons_succ,i64_w,i32_w]
            rfl
           refine pure_ (i:=3) (N:=some 32) (v:=?_) (a':=?_) #[true,true,true,true,false,false,false,false,false,false,false,false,false,false,false] rfl rfl (any_of HT_.out (by kernel_rfl)) (fun _ _ _ h=>h) (Or.inl ⟨by rfl,?_⟩) ?_ ?_
           rotate_left
           ·intro w'
            go_simp
            with_reducible rfl
           rotate_left
           ·simp only [Act.put,List.setIfInBounds_toArray,List.set_cons_zero,List.set_cons_succ,i64_w,i32_w]
            rfl
           refine pure_ (i:=4) (N:=some 33) (v:=?_) (a':=?_) #[true,true,true,true,true,false,false,false,false,false,false,false,false,false,false] rfl rfl (any_of HT_.out (by kernel_rfl)) (fun _ _ _ h=>h) (Or.inl ⟨by rfl,?_⟩) ?_ ?_
           rotate_left
           ·intro w'
            go_simp
            with_reducible rfl
           rotate_left
           ·simp only [Act.put,List.setIfInBounds_toArray,List.set_cons_zero,List.set_cons_succ,i64_w,i32_w]
            rfl
           refine pure_ (i:=5) (N:=some 34) (v:=undef) (a':=?_) #[true,true,true,true,true,true,false,false,false,false,false,false,false,false,false] rfl rfl (any_of HT_.out (by kernel_rfl)) (fun _ _ _ h=>h) (Or.inr ⟨by rfl,rfl⟩) ?_ ?_
           rotate_left
           ·simp only [Act.put,List.setIfInBounds_toArray,List.set_cons_zero,List.set_cons_succ,i64_w,i32_w]
            rfl
           refine pure_ (i:=6) (N:=some 35) (v:=undef) (a':=?_) #[true,true,true,true,true,true,true,false,false,false,false,false,false,false,false] rfl rfl (any_of HT_.out (by kernel_rfl)) (fun _ _ _ h=>h) (Or.inr ⟨by rfl,rfl⟩) ?_ ?_
           rotate_left
           ·simp only [Act.put,List.setIfInBounds_toArray,List.set_cons_zero,List.set_cons_succ,i64_w,i32_w]
            rfl
           refine pure_ (i:=7) (N:=some 36) (v:=undef) (a':=?_) #[true,true,true,true,true,true,true,true,false,false,false,false,false,false,false] rfl rfl (any_of HT_.out (by kernel_rfl)) (fun _ _ _ h=>h) (Or.inr ⟨by rfl,rfl⟩) ?_ ?_
           rotate_left
           ·simp only [Act.put,List.setIfInBounds_toArray,List.set_cons_zero,List.set_cons_succ,i64_w,i32_w]
            rfl
           refine pure_ (i:=8) (N:=some 37) (v:=undef) (a':=?_) #[true,true,true,true,true,true,true,true,true,false,false,false,false,false,false] rfl rfl (any_of HT_.out (by kernel_rfl)) (fun _ _ _ h=>h) (Or.inr ⟨by rfl,rfl⟩) ?_ ?_
           rotate_left
           ·simp only [Act.put,List.setIfInBounds_toArray,List.set_cons_zero,List.set_cons_succ,i64_w,i32_w]
            rfl
           refine pure_ (i:=9) (N:=some 38) (v:=undef) (a':=?_) #[true,true,true,true,true,true,true,true,true,true,false,false,false,false,false] rfl rfl (any_of HT_.out (by kernel_rfl)) (fun _ _ _ h=>h) (Or.inr ⟨by rfl,rfl⟩) ?_ ?_
           rotate_left
           ·simp only [Act.put,List.setIfInBounds_toArray,List.set_cons_zero,List.set_cons_succ,i64_w,i32_w]
            rfl
           refine pure_ (i:=10) (N:=some 39) (v:=undef) (a':=?_) #[true,true,true,true,true,true,true,true,true,true,true,false,false,false,false] rfl rfl (any_of HT_.out (by kernel_rfl)) (fun _ _ _ h=>h) (Or.inr ⟨by rfl,rfl⟩) ?_ ?_
           rotate_left
           ·simp only [Act.put,List.setIfInBounds_toArray,List.set_cons_zero,List.set_cons_succ,i64_w,i32_w]
            rfl
           refine pure_ (i:=11) (N:=some 40) (v:=undef) (a':=?_) #[true,true,true,true,true,true,true,true,true,true,true,true,false,false,false] rfl rfl (any_of HT_.out (by kernel_rfl)) (fun _ _ _ h=>h) (Or.inr ⟨by rfl,rfl⟩) ?_ ?_
           rotate_left
           ·simp only [Act.put,List.setIfInBounds_toArray,List.set_cons_zero,List.set_cons_succ,i64_w,i32_w]
            rfl
           refine pure_ (i:=12) (N:=some 41) (v:=undef) (a':=?_) #[true,true,true,true,true,true,true,true,true,true,true,true,true,false,false] rfl rfl (any_of HT_.out (by kernel_rfl)) (fun _ _ _ h=>h) (Or.inr ⟨by rfl,rfl⟩) ?_ ?_
           rotate_left
           ·simp only [Act.put,List.setIfInBounds_toArray,List.set_cons_zero,List.set_cons_succ,i64_w,i32_w]
            rfl
           refine pure_ (i:=13) (N:=some 42) (v:=undef) (a':=?_) #[true,true,true,true,true,true,true,true,true,true,true,true,true,true,false] rfl rfl (any_of HT_.out (by kernel_rfl)) (fun _ _ _ h=>h) (Or.inr ⟨by rfl,rfl⟩) ?_ ?_
           rotate_left
           ·simp only [Act.put,List.setIfInBounds_toArray,List.set_cons_zero,List.set_cons_succ,i64_w,i32_w]
            rfl
           refine pure_ (i:=14) (N:=some 43) (v:=?_) (a':=?_) #[true,true,true,true,true,true,true,true,true,true,true,true,true,true,true] rfl rfl (any_of HT_.out (by kernel_rfl)) (fun _ _ _ h=>h) (Or.inl ⟨by rfl,?_⟩) ?_ ?_
           rotate_left
           ·intro w'
            go_simp
            with_reducible rfl
           rotate_left
           ·simp only [Act.put,List.setIfInBounds_toArray,List.set_cons_zero,List.set_cons_succ,i64_w,i32_w]
            rfl
           refine done_ (done_of HT_.out (by kernel_rfl)) ?_
           try go_wp2
           go_meet
           case rel=>exact ⟨_,(true),(by first|rfl|(simp;done)|(simp [*];done)),H',⟨by have:=HK1.out;have:=HK2.out;have:=HJ2.out;first|omega|exact Nat.le_refl _⟩,⟨by (with_reducible repeat (first|apply Kd.R_alloc|apply Kd.R_drewN|apply Kd.R_drew));exact HO_3.out⟩,⟨by repeat (first|(with_reducible first|exact HB.out|apply below_alloc|apply pw_below_drewN|apply below_drew1)|exact HB.out)⟩⟩
          ·rw [if_neg c14] at H
           have c14b0 : (x5_2 == (x3_1.length : Int)) = false:=beq_eq_false_iff_ne.mpr c14
           have c14b1 : (x5_2 != (x3_1.length : Int)) = true:=bne_iff_ne.mpr c14
           (first|rw [c14b0]|(simp only [i64_w,i32_w];rw [c14b0])|skip)
           by_cases c17 : 0 ≤ x5_2
           ·rw [if_pos c17] at H
            have c17b0 : decide (0 ≤ x5_2) = true:=decide_eq_true c17
            clear c17
            by_cases c18 : x5_2 < (x3_1.length : Int)
            ·rw [if_pos c18] at H
             have c18b0 : decide (x5_2 < (x3_1.length : Int)) = true:=decide_eq_true c18
             clear c18
             by_cases c19 : 0 ≤ x4_1
             ·rw [if_pos c19] at H
              have c19b0 : decide (0 ≤ x4_1) = true:=decide_eq_true c19
              clear c19
              by_cases c20 : x4_1 < (l0.length : Int)
              ·rw [if_pos c20] at H
               have c20b0 : decide (x4_1 < (l0.length : Int)) = true:=decide_eq_true c20
               clear c20
               have H':=Aside0.mk H
               clear H
               try go_wp2
               have n0_:=Aside0.mk (Kd.R_drew HO_3.out)
               have n1_:=Aside0.mk (below_drew1 HB.out)
               clear HO_3
               clear HB
               have HO_3:=n0_
               have HB:=n1_
               clear n0_ n1_
               obtain ⟨Ao22,co22,eo22⟩:=Kd.R_slice HO_3.out
               (first|subst eo22|(injection eo22 with f1_ f2_ f3_;have f4_:=f1_.symm;have f5_:=f3_.symm;clear f1_ f2_ f3_;subst f4_;subst f5_))
               have p265 : 0 ≤ (x5_2 : Int):=of_decide_eq_true (by first|(with_reducible assumption)|assumption)
               have q265 : x5_2 < (x3_1.length : Int):=of_decide_eq_true (by first|(with_reducible assumption)|assumption)
               obtain ⟨ad265,e265,hx265_0⟩:=Kd.at_int (Kd.R_reads' HO_3.out).2.2 x5_2 p265 q265
               cases e265
               replace p265:=eq_true p265
               replace q265:=eq_true q265
               have p266 : 0 ≤ (x4_1 : Int):=of_decide_eq_true (by first|(with_reducible assumption)|assumption)
               have q266 : x4_1 < (l0.length : Int):=of_decide_eq_true (by first|(with_reducible assumption)|assumption)
               obtain ⟨ad266,e266,hx266_0⟩:=Kd.at_int HR0.out x4_1 p266 q266
               have hw266_0:=hx266_0
               cases e266
               replace hx266_0:=(HB.out.cell (World.block_lt_of_cell? w _ hx266_0)).trans hx266_0
               replace p266:=eq_true p266
               replace q266:=eq_true q266
               refine start_ (n:=15) (S:=fun w'=>w'.cell? (ad265.add (x5_2).toNat) = some (.int .u16 (rd x3_1 x5_2)) ∧ w'.cell? (ad266.add (x4_1).toNat) = some (.int .u16 (rd l0 x4_1))) (ds:=[]) #[false,false,false,false,false,false,false,false,false,false,false,false,false,false,false] (by kernel_rfl) rfl rfl ⟨hx265_0,((HB.out.cell (World.block_lt_of_cell? w _ hw266_0)).trans hw266_0)⟩ (fun hHeld=>?_);refine with_tabW transomref1_Make.tab8 transomref1_Make.bits8 (fun HT_ HW_=>?_)
               generalize wc.drew = w21 at HO_3 HB hx265_0 hx266_0 hHeld ⊢
               refine pure_ (i:=0) (N:=some 29) (v:=?_) (a':=?_) #[true,false,false,false,false,false,false,false,false,false,false,false,false,false,false] rfl rfl (any_of HT_.out (by kernel_rfl)) (fun _ _ _ h=>h) (Or.inl ⟨by rfl,?_⟩) ?_ ?_
               rotate_left
               ·intro w'
                go_simp
                with_reducible rfl
               rotate_left
               ·simp only [Act.put,List.setIfInBounds_toArray,List.set_cons_zero,List.set_cons_succ,i64_w,i32_w]
                rfl
               refine pure_ (i:=1) (N:=some 30) (v:=?_) (a':=?_) #[true,true,false,false,false,false,false,false,false,false,false,false,false,false,false] rfl rfl (any_of HT_.out (by kernel_rfl)) (fun _ _ _ h=>h) (Or.inl ⟨by rfl,?_⟩) ?_ ?_
               rotate_left
               ·intro w'
                go_simp
                with_reducible rfl
               rotate_left
               ·simp only [Act.put,List.setIfInBounds_toArray,List.set_cons_zero,List.set_cons_succ,i64_w,i32_w]
                rfl
               refine pure_ (i:=2) (N:=some 31) (v:=?_) (a':=?_) #[true,true,true,false,false,false,false,false,false,false,false,false,false,false,false] rfl rfl (any_of HT_.out (by kernel_rfl)) (fun _ _ _ h=>h) (Or.inl ⟨by rfl,?_⟩) ?_ ?_
               rotate_left
               ·intro w'
                go_simp
                with_reducible rfl
               rotate_left
               ·simp only [Act.put,List.setIfInBounds_toArray,List.set_cons_zero,List.set_cons_succ,i64_w,i32_w]
                rfl
               refine pure_ (i:=3) (N:=some 32) (v:=?_) (a':=?_) #[true,true,true,true,false,false,false,false,false,false,false,false,false,false,false] rfl rfl (any_of HT_.out (by kernel_rfl)) (fun _ _ _ h=>h) (Or.inl ⟨by rfl,?_⟩) ?_ ?_
               rotate_left
               ·intro w'
                go_simp
                with_reducible rfl
               rotate_left
               ·simp only [Act.put,List.setIfInBounds_toArray,List.set_cons_zero,List.set_cons_succ,i64_w,i32_w]
                rfl
               refine pure_ (i:=4) (N:=some 33) (v:=?_) (a':=?_) #[true,true,true,true,true,false,false,false,false,false,false,false,false,false,false] rfl rfl (any_of HT_.out (by kernel_rfl)) (fun _ _ _ h=>h) (Or.inl ⟨by rfl,?_⟩) ?_ ?_
               rotate_left
               ·intro w'
                go_simp
                with_reducible rfl
               rotate_left
               ·simp only [Act.put,List.setIfInBounds_toArray,List.set_cons_zero,List.set_cons_succ,i64_w,i32_w]
                rfl
               refine pure_ (i:=5) (N:=some 34) (v:=?_) (a':=?_) #[true,true,true,true,true,true,false,false,false,false,false,false,false,false,false] rfl rfl (any_of HT_.out (by kernel_rfl)) (fun _ _ _ h=>h) (Or.inl ⟨by rfl,?_⟩) ?_ ?_
               rotate_left
               ·intro w'
                go_simp
                with_reducible rfl
               rotate_left
               ·simp only [Act.put,List.setIfInBounds_toArray,List.set_cons_zero,List.set_cons_succ,i64_w,i32_w]
                rfl
               refine pure_ (i:=6) (N:=some 35) (v:=?_) (a':=?_) #[true,true,true,true,true,true,true,false,false,false,false,false,false,false,false] rfl rfl (any_of HT_.out (by kernel_rfl)) (fun _ _ _ h=>h) (Or.inl ⟨by rfl,?_⟩) ?_ ?_
               rotate_left
               ·intro w'
                go_simp
                with_reducible rfl
               rotate_left
               ·simp only [Act.put,List.setIfInBounds_toArray,List.set_cons_zero,List.set_cons_succ,i64_w,i32_w]
                rfl
               refine pure_ (i:=7) (N:=some 36) (v:=?_) (a':=?_) #[true,true,true,true,true,true,true,true,false,false,false,false,false,false,false] rfl rfl (any_of HT_.out (by kernel_rfl)) (fun _ _ _ h=>h) (Or.inl ⟨by rfl,?_⟩) ?_ ?_
               rotate_left
               ·intro w'
                go_simp
                with_reducible rfl
               rotate_left
               ·simp only [Act.put,List.setIfInBounds_toArray,List.set_cons_zero,List.set_cons_succ,i64_w,i32_w]
                rfl
               refine pure_ (i:=9) (N:=some 38) (v:=?_) (a':=?_) #[true,true,true,true,true,true,true,true,false,true,false,false,false,false,false] rfl rfl (any_of HT_.out (by kernel_rfl)) (fun _ _ _ h=>h) (Or.inl ⟨by rfl,?_⟩) ?_ ?_
               rotate_left
               ·intro w'
                go_simp
                with_reducible rfl
               rotate_left
               ·simp only [Act.put,List.setIfInBounds_toArray,List.set_cons_zero,List.set_cons_succ,i64_w,i32_w]
                rfl
               refine pure_ (i:=10) (N:=some 39) (v:=?_) (a':=?_) #[true,true,true,true,true,true,true,true,false,true,true,false,false,false,false] rfl rfl (any_of HT_.out (by kernel_rfl)) (fun _ _ _ h=>h) (Or.inl ⟨by rfl,?_⟩) ?_ ?_
               rotate_left
               ·intro w'
                go_simp
                with_reducible rfl
               rotate_left
               ·simp only [Act.put,List.setIfInBounds_toArray,List.set_cons_zero,List.set_cons_succ,i64_w,i32_w]
                rfl
               refine pure_ (i:=11) (N:=some 40) (v:=?_) (a':=?_) #[true,true,true,true,true,true,true,true,false,true,true,true,false,false,false] rfl rfl (any_of HT_.out (by kernel_rfl)) (fun _ _ _ h=>h) (Or.inl ⟨by rfl,?_⟩) ?_ ?_
               rotate_left
               ·intro w'
                go_simp
                with_reducible rfl
               rotate_left
               ·simp only [Act.put,List.setIfInBounds_toArray,List.set_cons_zero,List.set_cons_succ,i64_w,i32_w]
                rfl
               refine take_ (i:=8) (N:=some 37) (v:=?_) (a':=?_) #[true,true,true,true,true,true,true,true,true,true,true,true,false,false,false] rfl rfl (take_ofW HT_.out HW_.out (by kernel_rfl)) (fun _ _ _ h=>h) (Or.inl ⟨by rfl,?_⟩) hHeld ?_ ?_
               rotate_left
               ·rintro w' ⟨s0,s1⟩
                go_simp
                with_reducible rfl
               rotate_left
               ·simp only [Act.put,List.setIfInBounds_toArray,List.set_cons_zero,List.set_cons_succ,i64_w,i32_w]
                rfl
               refine take_ (i:=12) (N:=some 41) (v:=?_) (a':=?_) #[true,true,true,true,true,true,true,true,true,true,true,true,true,false,false] rfl rfl (take_ofW HT_.out HW_.out (by kernel_rfl)) (fun _ _ _ h=>h) (Or.inl ⟨by rfl,?_⟩) hHeld ?_ ?_
               rotate_left
               ·rintro w' ⟨s0,s1⟩
                go_simp
                with_reducible rfl
               rotate_left
               ·simp only [Act.put,List.setIfInBounds_toArray,List.set_cons_zero,List.set_cons_succ,i64_w,i32_w]
                rfl
               refine pure_ (i:=13) (N:=some 42) (v:=?_) (a':=?_) #[true,true,true,true,true,true,true,true,true,true,true,true,true,true,false] rfl rfl (any_of HT_.out (by kernel_rfl)) (fun _ _ _ h=>h) (Or.inl ⟨by rfl,?_⟩) ?_ ?_
               rotate_left
               ·intro w'
                go_simp
                with_reducible rfl
               rotate_left
               ·simp only [Act.put,List.setIfInBounds_toArray,List.set_cons_zero,List.set_cons_succ,i64_w,i32_w]
                rfl
               refine pure_ (i:=14) (N:=some 43) (v:=?_) (a':=?_) #[true,true,true,true,true,true,true,true,true,true,true,true,true,true,true] rfl rfl (any_of HT_.out (by kernel_rfl)) (fun _ _ _ h=>h) (Or.inl ⟨by rfl,?_⟩) ?_ ?_
               rotate_left
               ·intro w'
                go_simp
                with_reducible rfl
               rotate_left
               ·simp only [Act.put,List.setIfInBounds_toArray,List.set_cons_zero,List.set_cons_succ,i64_w,i32_w]
                rfl
               refine done_ (done_of HT_.out (by kernel_rfl)) ?_
               try go_wp2
               go_meet
               case rel=>exact ⟨_,(((rd x3_1 x5_2) != (rd l0 x4_1))),(by first|rfl|(simp;done)|(simp [*];done)),H',⟨by have:=HK1.out;have:=HK2.out;have:=HJ2.out;first|omega|exact Nat.le_refl _⟩,⟨by (with_reducible repeat (first|apply Kd.R_alloc|apply Kd.R_drewN|apply Kd.R_drew));exact HO_3.out⟩,⟨by repeat (first|(with_reducible first|exact HB.out|apply below_alloc|apply pw_below_drewN|apply below_drew1)|exact HB.out)⟩⟩
              ·rw [if_neg c20] at H
               exact absurd H (by simp)
             ·rw [if_neg c19] at H
              exact absurd H (by simp)
            ·rw [if_neg c18] at H
             exact absurd H (by simp)
           ·rw [if_neg c17] at H
            exact absurd H (by simp)
         case rest =>
          clear HC13
          try clear c1
          try clear c2
          try clear c2b0
          try clear p2
          try clear q2
          try clear hx2
          try clear c4
          try clear c4b0
          try clear c5
          try clear c5b0
          try clear c6
          try clear c6b0
          try clear p6
          try clear c7
          try clear c7b0
          try clear c12
          try clear c14
          try clear c14b0
          try clear c14b1
          try clear c17
          try clear c17b0
          try clear c18
          try clear c18b0
          try clear c19
          try clear c19b0
          try clear c20
          try clear c20b0
          try clear hx263_0
          try clear hx264_0
          try clear hx265_0
          try clear hx266_0
          try clear p2
          try clear p263
          try clear p264
          try clear p265
          try clear p266
          try clear q2
          try clear q263
          try clear q264
          try clear q265
          try clear q266
          obtain ⟨kq,x43_12,rfl,HA,HJ12,HO_3,HB⟩:=hcut
          cases kq with
          | zero=>exact absurd HA.out (by simp [transomref1_Make.j3])
          | succ kj12 =>
           have H:=HA.out
           clear HA
           simp only [transomref1_Make.j3] at H
           by_cases c23 : x43_12 = true
           ·subst c23
            have H1 : ((some (([] : List Int) : List Int)).bind fun y267=>(if 0 ≤ x5_2 then (if x5_2 ≤ (x3_1.length : Int) then ((some (x3_1.take (x5_2 : Int).toNat : List Int)).bind fun y270=>(if y267.length + y270.length < 70368744177664 then ((some (y267 ++ y270 : List Int)).bind fun y274=>(if 0 ≤ x4_1 then (if x4_1 < (l0.length : Int) then ((some (([rd l0 x4_1] : List Int) : List Int)).bind fun y278=>(if y274.length + y278.length < 70368744177664 then ((some (y274 ++ y278 : List Int)).bind fun y281=>((some (x3_1.drop (x5_2 : Int).toNat : List Int)).bind fun y284=>(if y281.length + y284.length < 70368744177664 then (transomref1_Make.l0 kj12 l0 (y281 ++ y284) (wrap64 (x4_1 + 1))) else (none)))) else (none))) else (none)) else (none))) else (none))) else (none)) else (none))) = some r:=by rw [if_pos rfl] at H;exact H
            clear H
            have H:=H1
            clear H1
            obtain ⟨y267,hy267⟩ : ∃ y_ : List Int,y_ = (([] : List Int)):=⟨_,rfl⟩
            replace H : (if 0 ≤ x5_2 then (if x5_2 ≤ (x3_1.length : Int) then ((some (x3_1.take (x5_2 : Int).toNat : List Int)).bind fun y270=>(if y267.length + y270.length < 70368744177664 then ((some (y267 ++ y270 : List Int)).bind fun y274=>(if 0 ≤ x4_1 then (if x4_1 < (l0.length : Int) then ((some (([rd l0 x4_1] : List Int) : List Int)).bind fun y278=>(if y274.length + y278.length < 70368744177664 then ((some (y274 ++ y278 : List Int)).bind fun y281=>((some (x3_1.drop (x5_2 : Int).toNat : List Int)).bind fun y284=>(if y281.length + y284.length < 70368744177664 then (transomref1_Make.l0 kj12 l0 (y281 ++ y284) (wrap64 (x4_1 + 1))) else (none)))) else (none))) else (none)) else (none))) else (none))) else (none)) else (none)) = some r:=by first|(rw [hy267];with_reducible exact H)|(have H2_:=(Option.bind_some _ _).symm.trans H;rw [hy267];with_reducible exact H2_)|(have H2_:=(Option.bind_some _ _).symm.trans H;with_reducible exact H2_)|with_reducible exact H|(rw [hy267];exact H)|exact H
            have Ny267:=Aside0.mk hy267
            clear hy267
            by_cases c24 : 0 ≤ x5_2
            ·rw [if_pos c24] at H
             have c24b0:=eq_true c24
             have c24b1 : decide (0 ≤ x5_2) = true:=decide_eq_true c24
             clear c24
             by_cases c25 : x5_2 ≤ (x3_1.length : Int)
             ·rw [if_pos c25] at H
              have c25b0:=eq_true c25
              have c25b1 : decide (x5_2 ≤ (x3_1.length : Int)) = true:=decide_eq_true c25
              clear c25
              obtain ⟨y270,hy270⟩ : ∃ y_ : List Int,y_ = (x3_1.take (x5_2 : Int).toNat):=⟨_,rfl⟩
              replace H : (if y267.length + y270.length < 70368744177664 then ((some (y267 ++ y270 : List Int)).bind fun y274=>(if 0 ≤ x4_1 then (if x4_1 < (l0.length : Int) then ((some (([rd l0 x4_1] : List Int) : List Int)).bind fun y278=>(if y274.length + y278.length < 70368744177664 then ((some (y274 ++ y278 : List Int)).bind fun y281=>((some (x3_1.drop (x5_2 : Int).toNat : List Int)).bind fun y284=>(if y281.length + y284.length < 70368744177664 then (transomref1_Make.l0 kj12 l0 (y281 ++ y284) (wrap64 (x4_1 + 1))) else (none)))) else (none))) else (none)) else (none))) else (none)) = some r:=by first|(rw [hy270];with_reducible exact H)|(have H2_:=(Option.bind_some _ _).symm.trans H;rw [hy270];with_reducible exact H2_)|(have H2_:=(Option.bind_some _ _).symm.trans H;with_reducible exact H2_)|with_reducible exact H|(rw [hy270];exact H)|exact H
              have Ny270:=Aside0.mk hy270
              clear hy270
              by_cases c26 : y267.length + y270.length < 70368744177664
              ·rw [if_pos c26] at H
               have LMc26:=Aside0.mk c26
               clear c26
               obtain ⟨y274,hy274⟩ : ∃ y_ : List Int,y_ = (y267 ++ y270):=⟨_,rfl⟩
               replace H : (if 0 ≤ x4_1 then (if x4_1 < (l0.length : Int) then ((some (([rd l0 x4_1] : List Int) : List Int)).bind fun y278=>(if y274.length + y278.length < 70368744177664 then ((some (y274 ++ y278 : List Int)).bind fun y281=>((some (x3_1.drop (x5_2 : Int).toNat : List Int)).bind fun y284=>(if y281.length + y284.length < 70368744177664 then (transomref1_Make.l0 kj12 l0 (y281 ++ y284) (wrap64 (x4_1 + 1))) else (none)))) else (none))) else (none)) else (none)) = some r:=by first|(rw [hy274];with_reducible exact H)|(have H2_:=(Option.bind_some _ _).symm.trans H;rw [hy274];with_reducible exact H2_)|(have H2_:=(Option.bind_some _ _).symm.trans H;with_reducible exact H2_)|with_reducible exact H|(rw [hy274];exact H)|exact H
               have Ny274:=Aside0.mk hy274
               clear hy274
               by_cases c27 : 0 ≤ x4_1
               ·rw [if_pos c27] at H
                have c27b0 : decide (0 ≤ x4_1) = true:=decide_eq_true c27
                clear c27
                by_cases c28 : x4_1 < (l0.length : Int)
                ·rw [if_pos c28] at H
                 have c28b0 : decide (x4_1 < (l0.length : Int)) = true:=decide_eq_true c28
                 clear c28
                 obtain ⟨y278,hy278⟩ : ∃ y_ : List Int,y_ = (([rd l0 x4_1] : List Int)):=⟨_,rfl⟩
                 replace H : (if y274.length + y278.length < 70368744177664 then ((some (y274 ++ y278 : List Int)).bind fun y281=>((some (x3_1.drop (x5_2 : Int).toNat : List Int)).bind fun y284=>(if y281.length + y284.length < 70368744177664 then (transomref1_Make.l0 kj12 l0 (y281 ++ y284) (wrap64 (x4_1 + 1))) else (none)))) else (none)) = some r:=by first|(rw [hy278];with_reducible exact H)|(have H2_:=(Option.bind_some _ _).symm.trans H;rw [hy278];with_reducible exact H2_)|(have H2_:=(Option.bind_some _ _).symm.trans H;with_reducible exact H2_)|with_reducible exact H|(rw [hy278];exact H)|exact H
                 have Ny278:=Aside0.mk hy278
                 clear hy278
                 by_cases c29 : y274.length + y278.length < 70368744177664
                 ·rw [if_pos c29] at H
                  have LMc29:=Aside0.mk c29
                  clear c29
                  obtain ⟨y281,hy281⟩ : ∃ y_ : List Int,y_ = (y274 ++ y278):=⟨_,rfl⟩
                  replace H : ((some (x3_1.drop (x5_2 : Int).toNat : List Int)).bind fun y284=>(if y281.length + y284.length < 70368744177664 then (transomref1_Make.l0 kj12 l0 (y281 ++ y284) (wrap64 (x4_1 + 1))) else (none))) = some r:=by first|(rw [hy281];with_reducible exact H)|(have H2_:=(Option.bind_some _ _).symm.trans H;rw [hy281];with_reducible exact H2_)|(have H2_:=(Option.bind_some _ _).symm.trans H;with_reducible exact H2_)|with_reducible exact H|(rw [hy281];exact H)|exact H
                  have Ny281:=Aside0.mk hy281
                  clear hy281
                  have c30b0:=eq_true (of_decide_eq_true (by first|(with_reducible assumption)|assumption) : 0 ≤ x5_2)
                  have c31b0:=eq_true (of_decide_eq_true (by first|(with_reducible assumption)|assumption) : x5_2 ≤ (x3_1.length : Int))
                  obtain ⟨y284,hy284⟩ : ∃ y_ : List Int,y_ = (x3_1.drop (x5_2 : Int).toNat):=⟨_,rfl⟩
                  replace H : (if y281.length + y284.length < 70368744177664 then (transomref1_Make.l0 kj12 l0 (y281 ++ y284) (wrap64 (x4_1 + 1))) else (none)) = some r:=by first|(rw [hy284];with_reducible exact H)|(have H2_:=(Option.bind_some _ _).symm.trans H;rw [hy284];with_reducible exact H2_)|(have H2_:=(Option.bind_some _ _).symm.trans H;with_reducible exact H2_)|with_reducible exact H|(rw [hy284];exact H)|exact H
                  have Ny284:=Aside0.mk hy284
                  clear hy284
                  by_cases c32 : y281.length + y284.length < 70368744177664
                  ·rw [if_pos c32] at H
                   have LMc32:=Aside0.mk c32
                   clear c32
                   obtain ⟨y288,hy288⟩ : ∃ y_ : List Int,y_ = (y281 ++ y284):=⟨_,rfl⟩
                   replace H : (transomref1_Make.l0 kj12 l0 y288 (wrap64 (x4_1 + 1))) = some r:=by first|(rw [hy288];with_reducible exact H)|(have H2_:=(Option.bind_some _ _).symm.trans H;rw [hy288];with_reducible exact H2_)|(have H2_:=(Option.bind_some _ _).symm.trans H;with_reducible exact H2_)|with_reducible exact H|(rw [hy288];exact H)|exact H
                   have Ny288:=Aside0.mk hy288
                   clear hy288
                   have H':=Aside0.mk H
                   clear H
                   try go_wp2
                   have n0_:=Aside0.mk (Kd.R_drew HO_3.out)
                   have n1_:=Aside0.mk (below_drew1 HB.out)
                   clear HO_3
                   clear HB
                   have HO_3:=n0_
                   have HB:=n1_
                   clear n0_ n1_
                   obtain ⟨Ao35,co35,eo35⟩:=Kd.R_slice HO_3.out
                   (first|subst eo35|(injection eo35 with f1_ f2_ f3_;have f4_:=f1_.symm;have f5_:=f3_.symm;clear f1_ f2_ f3_;subst f4_;subst f5_))
                   have q34 : (x5_2 : Int) ≤ ((x3_1.length : Int) : Int):=of_decide_eq_true (by first|(with_reducible assumption)|assumption)
                   obtain ⟨i034,hi034,_,hsz34,_⟩:=info_parts info25
                   have hroom34 : x3_1.length ≤ co35:=(Kd.R_reads' HO_3.out).2.1
                   have hC34 : Kd.C (Kd.int .u16) _ Ao35 x3_1.length x3_1:=(Kd.R_reads' HO_3.out).2.2
                   have hcut34:=cut_to (P:=Try.prog) 22 25 .i64 Try.underlying22 hi034 Ao35 x3_1.length co35 x5_2 (of_decide_eq_true (by first|(with_reducible assumption)|assumption)) q34 hroom34
                   have hr34:=Kd.C_take (m:=(x5_2 : Int).toNat) hC34 (by omega)
                   have hy34 : y270.length = (x5_2 : Int).toNat:=(by rw [Ny270.out,List.length_take];omega)
                   rw [← Ny270.out] at hr34
                   rw [← hy34] at hcut34
                   have HR273:=Aside0.mk hr34
                   have HC273:=Aside0.mk (show y270.length ≤ co35 from by omega)
                   clear hr34 hC34 hroom34 hi034 hsz34
                   have KY34:=Aside0.mk hy34
                   clear hy34
                   have KL34:=Aside0.mk (show (x5_2 : Int).toNat ≤ x3_1.length from by omega)
                   replace q34:=eq_true q34
                   have p277 : 0 ≤ (x4_1 : Int):=of_decide_eq_true (by first|(with_reducible assumption)|assumption)
                   have q277 : x4_1 < (l0.length : Int):=of_decide_eq_true (by first|(with_reducible assumption)|assumption)
                   obtain ⟨ad277,e277,hx277_0⟩:=Kd.at_int HR0.out x4_1 p277 q277
                   have hw277_0:=hx277_0
                   cases e277
                   replace hx277_0:=(HB.out.cell (World.block_lt_of_cell? w _ hx277_0)).trans hx277_0
                   replace p277:=eq_true p277
                   replace q277:=eq_true q277
                   have q36 : (x5_2 : Int) ≤ ((x3_1.length : Int) : Int):=of_decide_eq_true (by first|(with_reducible assumption)|assumption)
                   obtain ⟨i036,hi036,_,hsz36,_⟩:=info_parts info25
                   have hroom36 : x3_1.length ≤ co35:=(Kd.R_reads' HO_3.out).2.1
                   have hC36 : Kd.C (Kd.int .u16) _ Ao35 x3_1.length x3_1:=(Kd.R_reads' HO_3.out).2.2
                   have q036 : (0 : Int) ≤ (x5_2 : Int):=of_decide_eq_true (by first|(with_reducible assumption)|assumption)
                   have hcut36:=cut_from (P:=Try.prog) 22 25 .i64 Try.underlying22 hi036 1 hsz36 Ao35 x3_1.length co35 x5_2 q036 q36
                   have hr36:=Kd.C_drop (m:=(x5_2 : Int).toNat) (c:=co35) hC36 (by omega) hroom36
                   obtain ⟨A36,hA36⟩ : ∃ A1,A1 = (if co35 = (x5_2 : Int).toNat then Ao35 else (Ao35 : Option Addr).map (·.add ((x5_2 : Int).toNat * 1))):=⟨_,rfl⟩
                   obtain ⟨c36,hc36⟩ : ∃ c1,c1 = co35 - (x5_2 : Int).toNat:=⟨_,rfl⟩
                   have hy36 : y284.length = x3_1.length - (x5_2 : Int).toNat:=(by rw [Ny284.out,List.length_drop] <;> omega)
                   rw [show (x3_1).drop (x5_2 : Int).toNat = y284 from Ny284.out.symm] at hr36
                   replace hr36 : Kd.C (Kd.int .u16) _ A36 y284.length y284:=(by rw [hA36];exact hr36)
                   rw [← hy36,← hA36,← hc36] at hcut36
                   have HR287:=Aside0.mk hr36
                   have HC287:=Aside0.mk (show y284.length ≤ c36 from by rw [hy36,hc36];exact Nat.sub_le_sub_right hroom36 _)
                   clear hr36 hC36 hroom36 hi036 hsz36 hc36
                   have KY36:=Aside0.mk hy36
                   have KA36:=Aside0.mk hA36
                   clear hy36 hA36
                   have KL36:=Aside0.mk (show (x5_2 : Int).toNat ≤ x3_1.length from by omega)
                   replace q36:=eq_true q36
                   refine start_ (n:=16) (S:=fun w'=>w'.cell? (ad277.add (x4_1).toNat) = some (.int .u16 (rd l0 x4_1))) (ds:=[]) #[false,false,false,false,false,false,false,false,false,false,false,false,false,false,false,false] (by kernel_rfl) rfl rfl (((HB.out.cell (World.block_lt_of_cell? w _ hw277_0)).trans hw277_0)) (fun hHeld=>?_);refine with_tabW transomref1_Make.tab9 transomref1_Make.bits9 (fun HT_ HW_=>?_)
                   generalize wc.drew = w33 at HO_3 HB HR273 HR287 hx277_0 hHeld ⊢
                   refine pure_ (i:=1) (N:=some 45) (v:=?_) (a':=?_) #[false,true,false,false,false,false,false,false,false,false,false,false,false,false,false,false] rfl rfl (any_of HT_.out (by kernel_rfl)) (fun _ _ _ h=>h) (Or.inl ⟨by rfl,?_⟩) ?_ ?_
                   rotate_left
                   ·intro w'
                    go_simp
                    with_reducible rfl
                   rotate_left
                   ·simp only [Act.put,List.setIfInBounds_toArray,List.set_cons_zero,List.set_cons_succ,i64_w,i32_w]
                    rfl
                   refine pure_ (i:=2) (N:=some 46) (v:=?_) (a':=?_) #[false,true,true,false,false,false,false,false,false,false,false,false,false,false,false,false] rfl rfl (any_of HT_.out (by kernel_rfl)) (fun _ _ _ h=>h) (Or.inl ⟨by rfl,?_⟩) ?_ ?_
                   rotate_left
                   ·intro w'
                    go_simp
                    with_reducible rfl
                   rotate_left
                   ·simp only [Act.put,List.setIfInBounds_toArray,List.set_cons_zero,List.set_cons_succ,i64_w,i32_w]
                    rfl
                   refine pure_ (i:=3) (N:=some 47) (v:=?_) (a':=?_) #[false,true,true,true,false,false,false,false,false,false,false,false,false,false,false,false] rfl rfl (any_of HT_.out (by kernel_rfl)) (fun _ _ _ h=>h) (Or.inl ⟨by rfl,?_⟩) ?_ ?_
                   rotate_left
                   ·intro w'
                    go_simp
                    with_reducible rfl
                   rotate_left
                   ·simp only [Act.put,List.setIfInBounds_toArray,List.set_cons_zero,List.set_cons_succ,i64_w,i32_w]
                    rfl
                   refine pure_ (i:=5) (N:=some 49) (v:=?_) (a':=?_) #[false,true,true,true,false,true,false,false,false,false,false,false,false,false,false,false] rfl rfl (any_of HT_.out (by kernel_rfl)) (fun _ _ _ h=>h) (Or.inl ⟨by rfl,?_⟩) ?_ ?_
                   rotate_left
                   ·intro w'
                    go_simp
                    with_reducible rfl
                   rotate_left
                   ·simp only [Act.put,List.setIfInBounds_toArray,List.set_cons_zero,List.set_cons_succ,i64_w,i32_w]
                    rfl
                   refine pure_ (i:=6) (N:=some 50) (v:=?_) (a':=?_) #[false,true,true,true,false,true,true,false,false,false,false,false,false,false,false,false] rfl rfl (any_of HT_.out (by kernel_rfl)) (fun _ _ _ h=>h) (Or.inl ⟨by rfl,?_⟩) ?_ ?_
                   rotate_left
                   ·intro w'
                    go_simp
                    with_reducible rfl
                   rotate_left
                   ·simp only [Act.put,List.setIfInBounds_toArray,List.set_cons_zero,List.set_cons_succ,i64_w,i32_w]
                    rfl
                   refine pure_ (i:=7) (N:=some 51) (v:=?_) (a':=?_) #[false,true,true,true,false,true,true,true,false,false,false,false,false,false,false,false] rfl rfl (any_of HT_.out (by kernel_rfl)) (fun _ _ _ h=>h) (Or.inl ⟨by rfl,?_⟩) ?_ ?_
                   rotate_left
                   ·intro w'
                    go_simp
                    with_reducible rfl
                   rotate_left
                   ·simp only [Act.put,List.setIfInBounds_toArray,List.set_cons_zero,List.set_cons_succ,i64_w,i32_w]
                    rfl
                   refine pure_ (i:=11) (N:=some 55) (v:=?_) (a':=?_) #[false,true,true,true,false,true,true,true,false,false,false,true,false,false,false,false] rfl rfl (any_of HT_.out (by kernel_rfl)) (fun _ _ _ h=>h) (Or.inl ⟨by rfl,?_⟩) ?_ ?_
                   rotate_left
                   ·intro w'
                    go_simp
                    with_reducible rfl
                   rotate_left
                   ·simp only [Act.put,List.setIfInBounds_toArray,List.set_cons_zero,List.set_cons_succ,i64_w,i32_w]
                    rfl
                   refine pure_ (i:=12) (N:=some 56) (v:=?_) (a':=?_) #[false,true,true,true,false,true,true,true,false,false,false,true,true,false,false,false] rfl rfl (any_of HT_.out (by kernel_rfl)) (fun _ _ _ h=>h) (Or.inl ⟨by rfl,?_⟩) ?_ ?_
                   rotate_left
                   ·intro w'
                    go_simp
                    with_reducible rfl
                   rotate_left
                   ·simp only [Act.put,List.setIfInBounds_toArray,List.set_cons_zero,List.set_cons_succ,i64_w,i32_w]
                    rfl
                   refine pure_ (i:=13) (N:=some 57) (v:=?_) (a':=?_) #[false,true,true,true,false,true,true,true,false,false,false,true,true,true,false,false] rfl rfl (any_of HT_.out (by kernel_rfl)) (fun _ _ _ h=>h) (Or.inl ⟨by rfl,?_⟩) ?_ ?_
                   rotate_left
                   ·intro w'
                    go_simp
                    with_reducible rfl
                   rotate_left
                   ·simp only [Act.put,List.setIfInBounds_toArray,List.set_cons_zero,List.set_cons_succ,i64_w,i32_w]
                    rfl
                   refine take_ (i:=8) (N:=some 52) (v:=?_) (a':=?_) #[false,true,true,true,false,true,true,true,true,false,false,true,true,true,false,false] rfl rfl (take_ofW HT_.out HW_.out (by kernel_rfl)) (fun _ _ _ h=>h) (Or.inl ⟨by rfl,?_⟩) hHeld ?_ ?_
                   rotate_left
                   ·intro w' s0
                    go_simp
                    with_reducible rfl
                   rotate_left
                   ·simp only [Act.put,List.setIfInBounds_toArray,List.set_cons_zero,List.set_cons_succ,i64_w,i32_w]
                    rfl
                   refine join_ (σ:=Value × Value × Value) 3 #[true,true,true,true,true,true,true,true,true,true,false,true,true,true,false,false] (fun s_=>[(44,s_.1),(48,s_.2.1),(53,s_.2.2)]) (fun s_ w'=>(w'.cell? (ad277.add (x4_1).toNat) = some (.int .u16 (rd l0 x4_1))) ∧ (Kd.R (Kd.int .u16) 25 w' w.heap.size (fun k_=>some k_ ≠ (s_.2.2 : Value).ownBlock ∧ some k_ ≠ (.slice Ao35 x3_1.length co35 : Value).ownBlock) s_.2.1 y274) ∧ (Kd.R (Kd.int .u16) 25 w' w.heap.size (fun k_=>some k_ ≠ (s_.2.1 : Value).ownBlock ∧ some k_ ≠ (.slice Ao35 x3_1.length co35 : Value).ownBlock) s_.2.2 y278) ∧ (Kd.R (Kd.int .u16) 25 w' w.heap.size (fun k_=>some k_ ≠ (s_.2.1 : Value).ownBlock ∧ some k_ ≠ (s_.2.2 : Value).ownBlock) (.slice Ao35 x3_1.length co35) x3_1) ∧ (Kd.C (Kd.int .u16) w' Ao35 y270.length y270) ∧ (Kd.C (Kd.int .u16) w' A36 y284.length y284) ∧ (Below w.heap.size w w')) ?_ ?_
                   rotate_left
                   ·intro hCont
                    refine two_ (i:=0) (j:=9) (Ni:=some 44) (Nj:=some 53) #[true,true,true,true,false,true,true,true,true,false,false,true,true,true,false,false] #[false,true,true,true,false,true,true,true,true,true,false,true,true,true,false,false] rfl rfl rfl rfl (two_of HT_.out (by kernel_rfl)) (by decide) (by decide) (fun K hK=>?_) (fun K hK=>?_)
                    ·skip
                     refine Kd.R_lit_step (Kd.int .u16) _ 25 ?hg (N:=44) ?hd (xs:=([] : List Int)) (inner:=[]) (ok:=fun _=>True) (okp:=fun _=>True) ?hr ?hp (fun _ hk=>hk) trivial (Below.refl _ _) (Nat.le_refl _) (by simp) ?_;(case hd=>rfl);(case hg=>rfl);(case hr=>first|(go_simp;done)|(go_simp;rfl));(case hp=>exact (Reps.none _ _))
                     intro v268 w37 ho38 hb hg_ hnew_
                     clear hg_ hnew_
                     (first|rw [← Ny267.out] at ho38|(simp only [Int.reduceToNat] at ho38;rw [← Ny267.out] at ho38))
                     have n0_:=Aside0.mk (Kd.R_elder' (by (with_reducible repeat (first|apply Kd.R_alloc|apply Kd.R_drewN|apply Kd.R_drew));exact HO_3.out) (Kd.R_base ho38) hb)
                     have n1_:=Aside0.mk (Kd.R_lower (Kd.R_new' ho38 (Kd.R_lt (by (with_reducible repeat (first|apply Kd.R_alloc|apply Kd.R_drewN|apply Kd.R_drew));exact HO_3.out))) (below_size (by repeat (first|(with_reducible first|exact HB.out|apply below_alloc|apply pw_below_drewN|apply below_drew1)|exact HB.out))))
                     have n2_:=Aside0.mk (Kd.C_below (by repeat (first|(with_reducible exact HR273.out)|(with_reducible refine Kd.C_alloc ?_ _)|(with_reducible refine Kd.C_drewN ?_ _)|(with_reducible refine Kd.C_drew ?_)|exact HR273.out)) hb)
                     have n3_:=Aside0.mk (Kd.C_below (by repeat (first|(with_reducible exact HR287.out)|(with_reducible refine Kd.C_alloc ?_ _)|(with_reducible refine Kd.C_drewN ?_ _)|(with_reducible refine Kd.C_drew ?_)|exact HR287.out)) hb)
                     have n4_:=Aside0.mk (below_step (by repeat (first|(with_reducible first|exact HB.out|apply below_alloc|apply pw_below_drewN|apply below_drew1)|exact HB.out)) hb)
                     clear HO_3
                     clear HR273
                     clear HR287
                     clear HB
                     have HO_3:=n0_
                     have HO269:=n1_
                     have HR273:=n2_
                     have HR287:=n3_
                     have HB:=n4_
                     clear n0_ n1_ n2_ n3_ n4_
                     clear hb ho38
                     refine hK.out _ _ (((HB.out.cell (World.block_lt_of_cell? w _ hw277_0)).trans hw277_0)) (fun hHeld=>?_)
                     clear hK K
                     refine norm_ (a':=?_) ?_ ?_
                     rotate_left
                     ·show Act.put _ (some 44) _ = _
                      simp only [Act.put,List.setIfInBounds_toArray,List.set_cons_zero,List.set_cons_succ,i64_w,i32_w]
                      rfl
                     refine two_ (i:=4) (j:=9) (Ni:=some 48) (Nj:=some 53) #[true,true,true,true,true,true,true,true,true,false,false,true,true,true,false,false] #[true,true,true,true,false,true,true,true,true,true,false,true,true,true,false,false] rfl rfl rfl rfl (two_of HT_.out (by kernel_rfl)) (by decide) (by decide) (fun K hK=>?_) (fun K hK=>?_)
                     ·skip
                      refine Kd.R_append_rows_step (Kd.int .u16) (w0:=w) w.heap.size (by rfl) (.tmp 44) (.tmp 47) 22 25 (.int .u16 0) 2 rfl Try.underlying22 info25 rfl (by decide) (by omega) v268 y267 y270 _ _ _ (fun k_=>some k_ ≠ (.slice Ao35 x3_1.length co35 : Value).ownBlock) (fun _=>False) rfl rfl ?aO ?aR (fun _ _ h=>h) (fun _ h=>h.elim) ?aF ?aB ?aS ?aL ?_
                      (case aR=>repeat (first|exact (by repeat (first|(with_reducible exact HR273.out)|(with_reducible refine Kd.C_alloc ?_ _)|(with_reducible refine Kd.C_drewN ?_ _)|(with_reducible refine Kd.C_drew ?_)|exact HR273.out))|(with_reducible refine Kd.C_alloc ?_ _)|(with_reducible refine Kd.C_drewN ?_ _)|(with_reducible refine Kd.C_drew ?_)))
                      (case aB=>exact (by repeat (first|(with_reducible first|exact HB.out|apply below_alloc|apply pw_below_drewN|apply below_drew1)|exact HB.out)))
                      (case aF=>exact (fun k_ hk=>Kd.fresh' (Kd.R_lt (by (with_reducible repeat (first|apply Kd.R_alloc|apply Kd.R_drewN|apply Kd.R_drew));exact HO_3.out)) k_ hk))
                      (case aO=>exact (by (with_reducible repeat (first|apply Kd.R_alloc|apply Kd.R_drewN|apply Kd.R_drew));exact Kd.R_mono HO269.out (fun _ hk=>hk.2)))
                      (case aS=>exact (below_size (by repeat (first|(with_reducible first|exact HB.out|apply below_alloc|apply pw_below_drewN|apply below_drew1)|exact HB.out))))
                      (case aL=>have:=LMc26.out;omega)
                      intro v275 w39 ho hb hg hat
                      rw [← Ny274.out] at ho
                      have n0_:=Aside0.mk (Kd.R_after (ok:=(fun _=>True)) (by (with_reducible repeat (first|apply Kd.R_alloc|apply Kd.R_drewN|apply Kd.R_drew));exact HO_3.out) hg hat)
                      have n1_:=Aside0.mk (hb)
                      have n2_:=Aside0.mk ((show Kd.C (Kd.int .u16) w39 Ao35 y270.length y270 from by rw [Ny270.out];exact Kd.C_take (m:=(x5_2 : Int).toNat) ((Kd.R_reads' (Kd.R_after (ok:=(fun _=>True)) (by (with_reducible repeat (first|apply Kd.R_alloc|apply Kd.R_drewN|apply Kd.R_drew));exact HO_3.out) hg hat)).2.2) KL34.out))
                      have n3_:=Aside0.mk ((show Kd.C (Kd.int .u16) w39 A36 y284.length y284 from by rw [Ny284.out,KA36.out];exact Kd.C_drop (m:=(x5_2 : Int).toNat) (c:=co35) ((Kd.R_reads' (Kd.R_after (ok:=(fun _=>True)) (by (with_reducible repeat (first|apply Kd.R_alloc|apply Kd.R_drewN|apply Kd.R_drew));exact HO_3.out) hg hat)).2.2) KL36.out ((Kd.R_reads' (Kd.R_after (ok:=(fun _=>True)) (by (with_reducible repeat (first|apply Kd.R_alloc|apply Kd.R_drewN|apply Kd.R_drew));exact HO_3.out) hg hat)).2.1)))
                      have n4_:=Aside0.mk (ho)
                      clear HO_3
                      clear HB
                      clear HR273
                      clear HR287
                      clear HO269
                      have HO_3:=n0_
                      have HB:=n1_
                      have HR273:=n2_
                      have HR287:=n3_
                      have HO276:=n4_
                      clear n0_ n1_ n2_ n3_ n4_
                      clear ho hb hg hat
                      refine hK.out _ _ (((HB.out.cell (World.block_lt_of_cell? w _ hw277_0)).trans hw277_0)) (fun hHeld=>?_)
                      clear hK K
                      refine norm_ (a':=?_) ?_ ?_
                      rotate_left
                      ·show Act.put _ (some 48) _ = _
                       simp only [Act.put,List.setIfInBounds_toArray,List.set_cons_zero,List.set_cons_succ,i64_w,i32_w]
                       rfl
                      refine one_ (i:=9) (N:=some 53) #[true,true,true,true,true,true,true,true,true,true,false,true,true,true,false,false] rfl rfl (one_of HT_.out (by kernel_rfl)) (by decide) (fun K hK=>?_)
                      refine Kd.R_lit_step (Kd.int .u16) _ 25 ?hg (N:=53) ?hd (xs:=([rd l0 x4_1] : List Int)) (inner:=[.int .u16 (rd l0 x4_1)]) (ok:=fun _=>True) (okp:=fun _=>True) ?hr ?hp (fun _ hk=>hk) trivial (Below.refl _ _) (Nat.le_refl _) (by simp) ?_;(case hd=>rfl);(case hg=>rfl);(case hr=>first|(go_simp;done)|(go_simp;rfl));(case hp=>exact (Reps.one (show Kd.M (Kd.int .u16) _ _ _ (rd l0 x4_1) [.int .u16 (rd l0 x4_1)] from rfl) (Reps.none _ _)))
                      intro v279 w40 ho41 hb hg_ hnew_
                      clear hg_ hnew_
                      (first|rw [← Ny278.out] at ho41|(simp only [Int.reduceToNat] at ho41;rw [← Ny278.out] at ho41))
                      have n0_:=Aside0.mk (Kd.R_elder' (by (with_reducible repeat (first|apply Kd.R_alloc|apply Kd.R_drewN|apply Kd.R_drew));exact HO_3.out) (Kd.R_base ho41) hb)
                      have n1_:=Aside0.mk (Kd.R_elder' (by (with_reducible repeat (first|apply Kd.R_alloc|apply Kd.R_drewN|apply Kd.R_drew));exact HO276.out) (Kd.R_base ho41) hb)
                      have n2_:=Aside0.mk (Kd.R_lower (Kd.R_new' (Kd.R_new' ho41 (Kd.R_lt (by (with_reducible repeat (first|apply Kd.R_alloc|apply Kd.R_drewN|apply Kd.R_drew));exact HO_3.out))) (Kd.R_lt (by (with_reducible repeat (first|apply Kd.R_alloc|apply Kd.R_drewN|apply Kd.R_drew));exact HO276.out))) (below_size (by repeat (first|(with_reducible first|exact HB.out|apply below_alloc|apply pw_below_drewN|apply below_drew1)|exact HB.out))))
                      have n3_:=Aside0.mk (Kd.C_below (by repeat (first|(with_reducible exact HR273.out)|(with_reducible refine Kd.C_alloc ?_ _)|(with_reducible refine Kd.C_drewN ?_ _)|(with_reducible refine Kd.C_drew ?_)|exact HR273.out)) hb)
                      have n4_:=Aside0.mk (Kd.C_below (by repeat (first|(with_reducible exact HR287.out)|(with_reducible refine Kd.C_alloc ?_ _)|(with_reducible refine Kd.C_drewN ?_ _)|(with_reducible refine Kd.C_drew ?_)|exact HR287.out)) hb)
                      have n5_:=Aside0.mk (below_step (by repeat (first|(with_reducible first|exact HB.out|apply below_alloc|apply pw_below_drewN|apply below_drew1)|exact HB.out)) hb)
                      clear HO_3
                      clear HO276
                      clear HR273
                      clear HR287
                      clear HB
                      have HO_3:=n0_
                      have HO276:=n1_
                      have HO280:=n2_
                      have HR273:=n3_
                      have HR287:=n4_
                      have HB:=n5_
                      clear n0_ n1_ n2_ n3_ n4_ n5_
                      clear hb ho41
                      refine hK.out _ _ (((HB.out.cell (World.block_lt_of_cell? w _ hw277_0)).trans hw277_0)) (fun hHeld=>?_)
                      clear hK K
                      refine norm_ (a':=?_) ?_ ?_
                      rotate_left
                      ·show Act.put _ (some 53) _ = _
                       simp only [Act.put,List.setIfInBounds_toArray,List.set_cons_zero,List.set_cons_succ,i64_w,i32_w]
                       rfl
                      exact norm_ (by simp only [putAll,Act.put,List.setIfInBounds_toArray,List.set_cons_zero,List.set_cons_succ]) (hCont (v268,v275,v279) _ ⟨hHeld,(by (with_reducible repeat (first|apply Kd.R_alloc|apply Kd.R_drewN|apply Kd.R_drew));exact Kd.R_mono HO276.out (fun _ hk=>⟨hk.2,hk.1⟩)),(by (with_reducible repeat (first|apply Kd.R_alloc|apply Kd.R_drewN|apply Kd.R_drew));exact Kd.R_mono HO280.out (fun _ hk=>⟨hk.2,hk.1.2⟩)),(by (with_reducible repeat (first|apply Kd.R_alloc|apply Kd.R_drewN|apply Kd.R_drew));exact Kd.R_mono HO_3.out (fun _ hk=>⟨hk.1.2,hk.2⟩)),(by repeat (first|(with_reducible exact HR273.out)|(with_reducible refine Kd.C_alloc ?_ _)|(with_reducible refine Kd.C_drewN ?_ _)|(with_reducible refine Kd.C_drew ?_)|exact HR273.out)),(by repeat (first|(with_reducible exact HR287.out)|(with_reducible refine Kd.C_alloc ?_ _)|(with_reducible refine Kd.C_drewN ?_ _)|(with_reducible refine Kd.C_drew ?_)|exact HR287.out)),(by repeat (first|(with_reducible first|exact HB.out|apply below_alloc|apply pw_below_drewN|apply below_drew1)|exact HB.out))⟩)
                     ·skip
                      refine Kd.R_lit_step (Kd.int .u16) _ 25 ?hg (N:=53) ?hd (xs:=([rd l0 x4_1] : List Int)) (inner:=[.int .u16 (rd l0 x4_1)]) (ok:=fun _=>True) (okp:=fun _=>True) ?hr ?hp (fun _ hk=>hk) trivial (Below.refl _ _) (Nat.le_refl _) (by simp) ?_;(case hd=>rfl);(case hg=>rfl);(case hr=>first|(go_simp;done)|(go_simp;rfl));(case hp=>exact (Reps.one (show Kd.M (Kd.int .u16) _ _ _ (rd l0 x4_1) [.int .u16 (rd l0 x4_1)] from rfl) (Reps.none _ _)))
                      intro v279 w39 ho40 hb hg_ hnew_
                      clear hg_ hnew_
                      (first|rw [← Ny278.out] at ho40|(simp only [Int.reduceToNat] at ho40;rw [← Ny278.out] at ho40))
                      have n0_:=Aside0.mk (Kd.R_elder' (by (with_reducible repeat (first|apply Kd.R_alloc|apply Kd.R_drewN|apply Kd.R_drew));exact HO_3.out) (Kd.R_base ho40) hb)
                      have n1_:=Aside0.mk (Kd.R_elder' (by (with_reducible repeat (first|apply Kd.R_alloc|apply Kd.R_drewN|apply Kd.R_drew));exact HO269.out) (Kd.R_base ho40) hb)
                      have n2_:=Aside0.mk (Kd.R_lower (Kd.R_new' (Kd.R_new' ho40 (Kd.R_lt (by (with_reducible repeat (first|apply Kd.R_alloc|apply Kd.R_drewN|apply Kd.R_drew));exact HO_3.out))) (Kd.R_lt (by (with_reducible repeat (first|apply Kd.R_alloc|apply Kd.R_drewN|apply Kd.R_drew));exact HO269.out))) (below_size (by repeat (first|(with_reducible first|exact HB.out|apply below_alloc|apply pw_below_drewN|apply below_drew1)|exact HB.out))))
                      have n3_:=Aside0.mk (Kd.C_below (by repeat (first|(with_reducible exact HR273.out)|(with_reducible refine Kd.C_alloc ?_ _)|(with_reducible refine Kd.C_drewN ?_ _)|(with_reducible refine Kd.C_drew ?_)|exact HR273.out)) hb)
                      have n4_:=Aside0.mk (Kd.C_below (by repeat (first|(with_reducible exact HR287.out)|(with_reducible refine Kd.C_alloc ?_ _)|(with_reducible refine Kd.C_drewN ?_ _)|(with_reducible refine Kd.C_drew ?_)|exact HR287.out)) hb)
                      have n5_:=Aside0.mk (below_step (by repeat (first|(with_reducible first|exact HB.out|apply below_alloc|apply pw_below_drewN|apply below_drew1)|exact HB.out)) hb)
                      clear HO_3
                      clear HO269
                      clear HR273
                      clear HR287
                      clear HB
                      have HO_3:=n0_
                      have HO269:=n1_
                      have HO280:=n2_
                      have HR273:=n3_
                      have HR287:=n4_
                      have HB:=n5_
                      clear n0_ n1_ n2_ n3_ n4_ n5_
                      clear hb ho40
                      refine hK.out _ _ (((HB.out.cell (World.block_lt_of_cell? w _ hw277_0)).trans hw277_0)) (fun hHeld=>?_)
                      clear hK K
                      refine norm_ (a':=?_) ?_ ?_
                      rotate_left
                      ·show Act.put _ (some 53) _ = _
                       simp only [Act.put,List.setIfInBounds_toArray,List.set_cons_zero,List.set_cons_succ,i64_w,i32_w]
                       rfl
                      refine one_ (i:=4) (N:=some 48) #[true,true,true,true,true,true,true,true,true,true,false,true,true,true,false,false] rfl rfl (one_of HT_.out (by kernel_rfl)) (by decide) (fun K hK=>?_)
                      refine Kd.R_append_rows_step (Kd.int .u16) (w0:=w) w.heap.size (by rfl) (.tmp 44) (.tmp 47) 22 25 (.int .u16 0) 2 rfl Try.underlying22 info25 rfl (by decide) (by omega) v268 y267 y270 _ _ _ (fun k_=>some k_ ≠ (.slice Ao35 x3_1.length co35 : Value).ownBlock ∧ some k_ ≠ (v279 : Value).ownBlock) (fun _=>False) rfl rfl ?aO ?aR (fun _ _ h=>h) (fun _ h=>h.elim) ?aF ?aB ?aS ?aL ?_
                      (case aR=>repeat (first|exact (by repeat (first|(with_reducible exact HR273.out)|(with_reducible refine Kd.C_alloc ?_ _)|(with_reducible refine Kd.C_drewN ?_ _)|(with_reducible refine Kd.C_drew ?_)|exact HR273.out))|(with_reducible refine Kd.C_alloc ?_ _)|(with_reducible refine Kd.C_drewN ?_ _)|(with_reducible refine Kd.C_drew ?_)))
                      (case aB=>exact (by repeat (first|(with_reducible first|exact HB.out|apply below_alloc|apply pw_below_drewN|apply below_drew1)|exact HB.out)))
                      (case aF=>exact (fun k_ hk=>⟨Kd.fresh' (Kd.R_lt (by (with_reducible repeat (first|apply Kd.R_alloc|apply Kd.R_drewN|apply Kd.R_drew));exact HO_3.out)) k_ hk,Kd.fresh' (Kd.R_lt (by (with_reducible repeat (first|apply Kd.R_alloc|apply Kd.R_drewN|apply Kd.R_drew));exact HO280.out)) k_ hk⟩))
                      (case aO=>exact (by (with_reducible repeat (first|apply Kd.R_alloc|apply Kd.R_drewN|apply Kd.R_drew));exact Kd.R_mono HO269.out (fun _ hk=>⟨hk.1.2,hk.2⟩)))
                      (case aS=>exact (below_size (by repeat (first|(with_reducible first|exact HB.out|apply below_alloc|apply pw_below_drewN|apply below_drew1)|exact HB.out))))
                      (case aL=>have:=LMc26.out;omega)
                      intro v275 w41 ho hb hg hat
                      rw [← Ny274.out] at ho
                      have n0_:=Aside0.mk (Kd.R_after (ok:=(fun k_=>some k_ ≠ (v279 : Value).ownBlock)) (by (with_reducible repeat (first|apply Kd.R_alloc|apply Kd.R_drewN|apply Kd.R_drew));exact Kd.R_mono HO_3.out (fun _ hk=>⟨hk.2,hk.1.2⟩)) hg hat)
                      have n1_:=Aside0.mk (Kd.R_after (ok:=(fun k_=>some k_ ≠ (.slice Ao35 x3_1.length co35 : Value).ownBlock)) (by (with_reducible repeat (first|apply Kd.R_alloc|apply Kd.R_drewN|apply Kd.R_drew));exact Kd.R_mono HO280.out (fun _ hk=>⟨hk.1.2,hk.2⟩)) hg hat)
                      have n2_:=Aside0.mk (hb)
                      have n3_:=Aside0.mk ((show Kd.C (Kd.int .u16) w41 Ao35 y270.length y270 from by rw [Ny270.out];exact Kd.C_take (m:=(x5_2 : Int).toNat) ((Kd.R_reads' (Kd.R_after (ok:=(fun k_=>some k_ ≠ (v279 : Value).ownBlock)) (by (with_reducible repeat (first|apply Kd.R_alloc|apply Kd.R_drewN|apply Kd.R_drew));exact Kd.R_mono HO_3.out (fun _ hk=>⟨hk.2,hk.1.2⟩)) hg hat)).2.2) KL34.out))
                      have n4_:=Aside0.mk ((show Kd.C (Kd.int .u16) w41 A36 y284.length y284 from by rw [Ny284.out,KA36.out];exact Kd.C_drop (m:=(x5_2 : Int).toNat) (c:=co35) ((Kd.R_reads' (Kd.R_after (ok:=(fun k_=>some k_ ≠ (v279 : Value).ownBlock)) (by (with_reducible repeat (first|apply Kd.R_alloc|apply Kd.R_drewN|apply Kd.R_drew));exact Kd.R_mono HO_3.out (fun _ hk=>⟨hk.2,hk.1.2⟩)) hg hat)).2.2) KL36.out ((Kd.R_reads' (Kd.R_after (ok:=(fun k_=>some k_ ≠ (v279 : Value).ownBlock)) (by (with_reducible repeat (first|apply Kd.R_alloc|apply Kd.R_drewN|apply Kd.R_drew));exact Kd.R_mono HO_3.out (fun _ hk=>⟨hk.2,hk.1.2⟩)) hg hat)).2.1)))
                      have n5_:=Aside0.mk (ho)
                      clear HO_3
                      clear HO280
                      clear HB
                      clear HR273
                      clear HR287
                      clear HO269
                      have HO_3:=n0_
                      have HO280:=n1_
                      have HB:=n2_
                      have HR273:=n3_
                      have HR287:=n4_
                      have HO276:=n5_
                      clear n0_ n1_ n2_ n3_ n4_ n5_
                      clear ho hb hg hat
                      refine hK.out _ _ (((HB.out.cell (World.block_lt_of_cell? w _ hw277_0)).trans hw277_0)) (fun hHeld=>?_)
                      clear hK K
                      refine norm_ (a':=?_) ?_ ?_
                      rotate_left
                      ·show Act.put _ (some 48) _ = _
                       simp only [Act.put,List.setIfInBounds_toArray,List.set_cons_zero,List.set_cons_succ,i64_w,i32_w]
                       rfl
                      exact norm_ (by simp only [putAll,Act.put,List.setIfInBounds_toArray,List.set_cons_zero,List.set_cons_succ]) (hCont (v268,v275,v279) _ ⟨hHeld,(by (with_reducible repeat (first|apply Kd.R_alloc|apply Kd.R_drewN|apply Kd.R_drew));exact Kd.R_mono HO276.out (fun _ hk=>⟨hk.2,hk.1⟩)),(by (with_reducible repeat (first|apply Kd.R_alloc|apply Kd.R_drewN|apply Kd.R_drew));exact Kd.R_mono HO280.out (fun _ hk=>⟨hk.2,hk.1⟩)),(by (with_reducible repeat (first|apply Kd.R_alloc|apply Kd.R_drewN|apply Kd.R_drew));exact Kd.R_mono HO_3.out (fun _ hk=>⟨hk.2,hk.1⟩)),(by repeat (first|(with_reducible exact HR273.out)|(with_reducible refine Kd.C_alloc ?_ _)|(with_reducible refine Kd.C_drewN ?_ _)|(with_reducible refine Kd.C_drew ?_)|exact HR273.out)),(by repeat (first|(with_reducible exact HR287.out)|(with_reducible refine Kd.C_alloc ?_ _)|(with_reducible refine Kd.C_drewN ?_ _)|(with_reducible refine Kd.C_drew ?_)|exact HR287.out)),(by repeat (first|(with_reducible first|exact HB.out|apply below_alloc|apply pw_below_drewN|apply below_drew1)|exact HB.out))⟩)
                    ·skip
                     refine Kd.R_lit_step (Kd.int .u16) _ 25 ?hg (N:=53) ?hd (xs:=([rd l0 x4_1] : List Int)) (inner:=[.int .u16 (rd l0 x4_1)]) (ok:=fun _=>True) (okp:=fun _=>True) ?hr ?hp (fun _ hk=>hk) trivial (Below.refl _ _) (Nat.le_refl _) (by simp) ?_;(case hd=>rfl);(case hg=>rfl);(case hr=>first|(go_simp;done)|(go_simp;rfl));(case hp=>exact (Reps.one (show Kd.M (Kd.int .u16) _ _ _ (rd l0 x4_1) [.int .u16 (rd l0 x4_1)] from rfl) (Reps.none _ _)))
                     intro v279 w37 ho38 hb hg_ hnew_
                     clear hg_ hnew_
                     (first|rw [← Ny278.out] at ho38|(simp only [Int.reduceToNat] at ho38;rw [← Ny278.out] at ho38))
                     have n0_:=Aside0.mk (Kd.R_elder' (by (with_reducible repeat (first|apply Kd.R_alloc|apply Kd.R_drewN|apply Kd.R_drew));exact HO_3.out) (Kd.R_base ho38) hb)
                     have n1_:=Aside0.mk (Kd.R_lower (Kd.R_new' ho38 (Kd.R_lt (by (with_reducible repeat (first|apply Kd.R_alloc|apply Kd.R_drewN|apply Kd.R_drew));exact HO_3.out))) (below_size (by repeat (first|(with_reducible first|exact HB.out|apply below_alloc|apply pw_below_drewN|apply below_drew1)|exact HB.out))))
                     have n2_:=Aside0.mk (Kd.C_below (by repeat (first|(with_reducible exact HR273.out)|(with_reducible refine Kd.C_alloc ?_ _)|(with_reducible refine Kd.C_drewN ?_ _)|(with_reducible refine Kd.C_drew ?_)|exact HR273.out)) hb)
                     have n3_:=Aside0.mk (Kd.C_below (by repeat (first|(with_reducible exact HR287.out)|(with_reducible refine Kd.C_alloc ?_ _)|(with_reducible refine Kd.C_drewN ?_ _)|(with_reducible refine Kd.C_drew ?_)|exact HR287.out)) hb)
                     have n4_:=Aside0.mk (below_step (by repeat (first|(with_reducible first|exact HB.out|apply below_alloc|apply pw_below_drewN|apply below_drew1)|exact HB.out)) hb)
                     clear HO_3
                     clear HR273
                     clear HR287
                     clear HB
                     have HO_3:=n0_
                     have HO280:=n1_
                     have HR273:=n2_
                     have HR287:=n3_
                     have HB:=n4_
                     clear n0_ n1_ n2_ n3_ n4_
                     clear hb ho38
                     refine hK.out _ _ (((HB.out.cell (World.block_lt_of_cell? w _ hw277_0)).trans hw277_0)) (fun hHeld=>?_)
                     clear hK K
                     refine norm_ (a':=?_) ?_ ?_
                     rotate_left
                     ·show Act.put _ (some 53) _ = _
                      simp only [Act.put,List.setIfInBounds_toArray,List.set_cons_zero,List.set_cons_succ,i64_w,i32_w]
                      rfl
                     refine one_ (i:=0) (N:=some 44) #[true,true,true,true,false,true,true,true,true,true,false,true,true,true,false,false] rfl rfl (one_of HT_.out (by kernel_rfl)) (by decide) (fun K hK=>?_)
                     refine Kd.R_lit_step (Kd.int .u16) _ 25 ?hg (N:=44) ?hd (xs:=([] : List Int)) (inner:=[]) (ok:=fun _=>True) (okp:=fun _=>True) ?hr ?hp (fun _ hk=>hk) trivial (Below.refl _ _) (Nat.le_refl _) (by simp) ?_;(case hd=>rfl);(case hg=>rfl);(case hr=>first|(go_simp;done)|(go_simp;rfl));(case hp=>exact (Reps.none _ _))
                     intro v268 w39 ho40 hb hg_ hnew_
                     clear hg_ hnew_
                     (first|rw [← Ny267.out] at ho40|(simp only [Int.reduceToNat] at ho40;rw [← Ny267.out] at ho40))
                     have n0_:=Aside0.mk (Kd.R_elder' (by (with_reducible repeat (first|apply Kd.R_alloc|apply Kd.R_drewN|apply Kd.R_drew));exact HO_3.out) (Kd.R_base ho40) hb)
                     have n1_:=Aside0.mk (Kd.R_elder' (by (with_reducible repeat (first|apply Kd.R_alloc|apply Kd.R_drewN|apply Kd.R_drew));exact HO280.out) (Kd.R_base ho40) hb)
                     have n2_:=Aside0.mk (Kd.R_lower (Kd.R_new' (Kd.R_new' ho40 (Kd.R_lt (by (with_reducible repeat (first|apply Kd.R_alloc|apply Kd.R_drewN|apply Kd.R_drew));exact HO_3.out))) (Kd.R_lt (by (with_reducible repeat (first|apply Kd.R_alloc|apply Kd.R_drewN|apply Kd.R_drew));exact HO280.out))) (below_size (by repeat (first|(with_reducible first|exact HB.out|apply below_alloc|apply pw_below_drewN|apply below_drew1)|exact HB.out))))
                     have n3_:=Aside0.mk (Kd.C_below (by repeat (first|(with_reducible exact HR273.out)|(with_reducible refine Kd.C_alloc ?_ _)|(with_reducible refine Kd.C_drewN ?_ _)|(with_reducible refine Kd.C_drew ?_)|exact HR273.out)) hb)
                     have n4_:=Aside0.mk (Kd.C_below (by repeat (first|(with_reducible exact HR287.out)|(with_reducible refine Kd.C_alloc ?_ _)|(with_reducible refine Kd.C_drewN ?_ _)|(with_reducible refine Kd.C_drew ?_)|exact HR287.out)) hb)
                     have n5_:=Aside0.mk (below_step (by repeat (first|(with_reducible first|exact HB.out|apply below_alloc|apply pw_below_drewN|apply below_drew1)|exact HB.out)) hb)
                     clear HO_3
                     clear HO280
                     clear HR273
                     clear HR287
                     clear HB
                     have HO_3:=n0_
                     have HO280:=n1_
                     have HO269:=n2_
                     have HR273:=n3_
                     have HR287:=n4_
                     have HB:=n5_
                     clear n0_ n1_ n2_ n3_ n4_ n5_
                     clear hb ho40
                     refine hK.out _ _ (((HB.out.cell (World.block_lt_of_cell? w _ hw277_0)).trans hw277_0)) (fun hHeld=>?_)
                     clear hK K
                     refine norm_ (a':=?_) ?_ ?_
                     rotate_left
                     ·show Act.put _ (some 44) _ = _
                      simp only [Act.put,List.setIfInBounds_toArray,List.set_cons_zero,List.set_cons_succ,i64_w,i32_w]
                      rfl
                     refine one_ (i:=4) (N:=some 48) #[true,true,true,true,true,true,true,true,true,true,false,true,true,true,false,false] rfl rfl (one_of HT_.out (by kernel_rfl)) (by decide) (fun K hK=>?_)
                     refine Kd.R_append_rows_step (Kd.int .u16) (w0:=w) w.heap.size (by rfl) (.tmp 44) (.tmp 47) 22 25 (.int .u16 0) 2 rfl Try.underlying22 info25 rfl (by decide) (by omega) v268 y267 y270 _ _ _ (fun k_=>some k_ ≠ (.slice Ao35 x3_1.length co35 : Value).ownBlock ∧ some k_ ≠ (v279 : Value).ownBlock) (fun _=>False) rfl rfl ?aO ?aR (fun _ _ h=>h) (fun _ h=>h.elim) ?aF ?aB ?aS ?aL ?_
                     (case aR=>repeat (first|exact (by repeat (first|(with_reducible exact HR273.out)|(with_reducible refine Kd.C_alloc ?_ _)|(with_reducible refine Kd.C_drewN ?_ _)|(with_reducible refine Kd.C_drew ?_)|exact HR273.out))|(with_reducible refine Kd.C_alloc ?_ _)|(with_reducible refine Kd.C_drewN ?_ _)|(with_reducible refine Kd.C_drew ?_)))
                     (case aB=>exact (by repeat (first|(with_reducible first|exact HB.out|apply below_alloc|apply pw_below_drewN|apply below_drew1)|exact HB.out)))
                     (case aF=>exact (fun k_ hk=>⟨Kd.fresh' (Kd.R_lt (by (with_reducible repeat (first|apply Kd.R_alloc|apply Kd.R_drewN|apply Kd.R_drew));exact HO_3.out)) k_ hk,Kd.fresh' (Kd.R_lt (by (with_reducible repeat (first|apply Kd.R_alloc|apply Kd.R_drewN|apply Kd.R_drew));exact HO280.out)) k_ hk⟩))
                     (case aO=>exact (by (with_reducible repeat (first|apply Kd.R_alloc|apply Kd.R_drewN|apply Kd.R_drew));exact Kd.R_mono HO269.out (fun _ hk=>⟨hk.1.2,hk.2⟩)))
                     (case aS=>exact (below_size (by repeat (first|(with_reducible first|exact HB.out|apply below_alloc|apply pw_below_drewN|apply below_drew1)|exact HB.out))))
                     (case aL=>have:=LMc26.out;omega)
                     intro v275 w41 ho hb hg hat
                     rw [← Ny274.out] at ho
                     have n0_:=Aside0.mk (Kd.R_after (ok:=(fun k_=>some k_ ≠ (v279 : Value).ownBlock)) (by (with_reducible repeat (first|apply Kd.R_alloc|apply Kd.R_drewN|apply Kd.R_drew));exact Kd.R_mono HO_3.out (fun _ hk=>⟨hk.1.2,hk.2⟩)) hg hat)
                     have n1_:=Aside0.mk (Kd.R_after (ok:=(fun k_=>some k_ ≠ (.slice Ao35 x3_1.length co35 : Value).ownBlock)) (by (with_reducible repeat (first|apply Kd.R_alloc|apply Kd.R_drewN|apply Kd.R_drew));exact Kd.R_mono HO280.out (fun _ hk=>⟨hk.1.2,hk.2⟩)) hg hat)
                     have n2_:=Aside0.mk (hb)
                     have n3_:=Aside0.mk ((show Kd.C (Kd.int .u16) w41 Ao35 y270.length y270 from by rw [Ny270.out];exact Kd.C_take (m:=(x5_2 : Int).toNat) ((Kd.R_reads' (Kd.R_after (ok:=(fun k_=>some k_ ≠ (v279 : Value).ownBlock)) (by (with_reducible repeat (first|apply Kd.R_alloc|apply Kd.R_drewN|apply Kd.R_drew));exact Kd.R_mono HO_3.out (fun _ hk=>⟨hk.1.2,hk.2⟩)) hg hat)).2.2) KL34.out))
                     have n4_:=Aside0.mk ((show Kd.C (Kd.int .u16) w41 A36 y284.length y284 from by rw [Ny284.out,KA36.out];exact Kd.C_drop (m:=(x5_2 : Int).toNat) (c:=co35) ((Kd.R_reads' (Kd.R_after (ok:=(fun k_=>some k_ ≠ (v279 : Value).ownBlock)) (by (with_reducible repeat (first|apply Kd.R_alloc|apply Kd.R_drewN|apply Kd.R_drew));exact Kd.R_mono HO_3.out (fun _ hk=>⟨hk.1.2,hk.2⟩)) hg hat)).2.2) KL36.out ((Kd.R_reads' (Kd.R_after (ok:=(fun k_=>some k_ ≠ (v279 : Value).ownBlock)) (by (with_reducible repeat (first|apply Kd.R_alloc|apply Kd.R_drewN|apply Kd.R_drew));exact Kd.R_mono HO_3.out (fun _ hk=>⟨hk.1.2,hk.2⟩)) hg hat)).2.1)))
                     have n5_:=Aside0.mk (ho)
                     clear HO_3
                     clear HO280
                     clear HB
                     clear HR273
                     clear HR287
                     clear HO269
                     have HO_3:=n0_
                     have HO280:=n1_
                     have HB:=n2_
                     have HR273:=n3_
                     have HR287:=n4_
                     have HO276:=n5_
                     clear n0_ n1_ n2_ n3_ n4_ n5_
                     clear ho hb hg hat
                     refine hK.out _ _ (((HB.out.cell (World.block_lt_of_cell? w _ hw277_0)).trans hw277_0)) (fun hHeld=>?_)
                     clear hK K
                     refine norm_ (a':=?_) ?_ ?_
                     rotate_left
                     ·show Act.put _ (some 48) _ = _
                      simp only [Act.put,List.setIfInBounds_toArray,List.set_cons_zero,List.set_cons_succ,i64_w,i32_w]
                      rfl
                     exact norm_ (by simp only [putAll,Act.put,List.setIfInBounds_toArray,List.set_cons_zero,List.set_cons_succ]) (hCont (v268,v275,v279) _ ⟨hHeld,(by (with_reducible repeat (first|apply Kd.R_alloc|apply Kd.R_drewN|apply Kd.R_drew));exact Kd.R_mono HO276.out (fun _ hk=>⟨hk.2,hk.1⟩)),(by (with_reducible repeat (first|apply Kd.R_alloc|apply Kd.R_drewN|apply Kd.R_drew));exact Kd.R_mono HO280.out (fun _ hk=>⟨hk.2,hk.1⟩)),(by (with_reducible repeat (first|apply Kd.R_alloc|apply Kd.R_drewN|apply Kd.R_drew));exact Kd.R_mono HO_3.out (fun _ hk=>⟨hk.2,hk.1⟩)),(by repeat (first|(with_reducible exact HR273.out)|(with_reducible refine Kd.C_alloc ?_ _)|(with_reducible refine Kd.C_drewN ?_ _)|(with_reducible refine Kd.C_drew ?_)|exact HR273.out)),(by repeat (first|(with_reducible exact HR287.out)|(with_reducible refine Kd.C_alloc ?_ _)|(with_reducible refine Kd.C_drewN ?_ _)|(with_reducible refine Kd.C_drew ?_)|exact HR287.out)),(by repeat (first|(with_reducible first|exact HB.out|apply below_alloc|apply pw_below_drewN|apply below_drew1)|exact HB.out))⟩)
                   rintro ⟨v268,v275,v279⟩ w42 ⟨hS_,h0_,h1_,h2_,h3_,h4_,h5_⟩
                   have n0_ : Aside0 (Kd.R (Kd.int .u16) 25 w42 w.heap.size (fun k_=>some k_ ≠ (v279 : Value).ownBlock ∧ some k_ ≠ (.slice Ao35 x3_1.length co35 : Value).ownBlock) v275 y274):=⟨h0_⟩
                   have n1_ : Aside0 (Kd.R (Kd.int .u16) 25 w42 w.heap.size (fun k_=>some k_ ≠ (v275 : Value).ownBlock ∧ some k_ ≠ (.slice Ao35 x3_1.length co35 : Value).ownBlock) v279 y278):=⟨h1_⟩
                   have n2_ : Aside0 (Kd.R (Kd.int .u16) 25 w42 w.heap.size (fun k_=>some k_ ≠ (v275 : Value).ownBlock ∧ some k_ ≠ (v279 : Value).ownBlock) (.slice Ao35 x3_1.length co35) x3_1):=⟨h2_⟩
                   have n3_ : Aside0 (Kd.C (Kd.int .u16) w42 Ao35 y270.length y270):=⟨h3_⟩
                   have n4_ : Aside0 (Kd.C (Kd.int .u16) w42 A36 y284.length y284):=⟨h4_⟩
                   have n5_ : Aside0 (Below w.heap.size w w42):=⟨h5_⟩
                   clear HO_3
                   clear HB
                   clear h0_ h1_ h2_ h3_ h4_ h5_
                   have HO276:=n0_
                   have HO280:=n1_
                   have HO_3:=n2_
                   have HR273:=n3_
                   have HR287:=n4_
                   have HB:=n5_
                   clear n0_ n1_ n2_ n3_ n4_ n5_
                   have hHeld : w42.cell? (ad277.add (x4_1).toNat) = some (.int .u16 (rd l0 x4_1)):=hS_
                   obtain ⟨Ao44,co44,eo44⟩:=Kd.R_slice HO280.out
                   (first|subst eo44|(injection eo44 with f1_ f2_ f3_;have f4_:=f1_.symm;have f5_:=f3_.symm;clear f1_ f2_ f3_;subst f4_;subst f5_))
                   refine norm_ (a':=?_) ?_ ?_
                   rotate_left
                   ·simp only [putAll,Act.put,List.setIfInBounds_toArray,List.set_cons_zero,List.set_cons_succ]
                    rfl
                   refine one_ (i:=10) (N:=some 54) #[true,true,true,true,true,true,true,true,true,true,true,true,true,true,false,false] rfl rfl (one_of HT_.out (by kernel_rfl)) (by decide) (fun K hK=>?_)
                   refine Kd.R_append_rows_step (Kd.int .u16) (w0:=w) w.heap.size (by rfl) (.tmp 48) (.tmp 53) 22 25 (.int .u16 0) 2 rfl Try.underlying22 info25 rfl (by decide) (by omega) v275 y274 y278 _ _ _ (fun k_=>some k_ ≠ (.slice Ao35 x3_1.length co35 : Value).ownBlock ∧ some k_ ≠ (.slice Ao44 y278.length co44 : Value).ownBlock) (fun _=>False) rfl rfl ?aO ?aR (fun _ _ h=>h) (fun _ h=>h.elim) ?aF ?aB ?aS ?aL ?_
                   (case aR=>repeat (first|exact (Kd.R_reads' HO280.out).2.2|(with_reducible refine Kd.C_alloc ?_ _)|(with_reducible refine Kd.C_drewN ?_ _)|(with_reducible refine Kd.C_drew ?_)))
                   (case aB=>exact (by repeat (first|(with_reducible first|exact HB.out|apply below_alloc|apply pw_below_drewN|apply below_drew1)|exact HB.out)))
                   (case aF=>exact (fun k_ hk=>⟨Kd.fresh' (Kd.R_lt (by (with_reducible repeat (first|apply Kd.R_alloc|apply Kd.R_drewN|apply Kd.R_drew));exact HO_3.out)) k_ hk,Kd.fresh' (Kd.R_lt (by (with_reducible repeat (first|apply Kd.R_alloc|apply Kd.R_drewN|apply Kd.R_drew));exact HO280.out)) k_ hk⟩))
                   (case aO=>exact (by (with_reducible repeat (first|apply Kd.R_alloc|apply Kd.R_drewN|apply Kd.R_drew));exact Kd.R_mono HO276.out (fun _ hk=>⟨hk.2,hk.1⟩)))
                   (case aS=>exact (below_size (by repeat (first|(with_reducible first|exact HB.out|apply below_alloc|apply pw_below_drewN|apply below_drew1)|exact HB.out))))
                   (case aL=>have:=LMc29.out;omega)
                   intro v282 w43 ho hb hg hat
                   rw [← Ny281.out] at ho
                   have n0_:=Aside0.mk (Kd.R_after (ok:=(fun k_=>some k_ ≠ (.slice Ao44 y278.length co44 : Value).ownBlock)) (by (with_reducible repeat (first|apply Kd.R_alloc|apply Kd.R_drewN|apply Kd.R_drew));exact Kd.R_mono HO_3.out (fun _ hk=>⟨hk.2,hk.1⟩)) hg hat)
                   have n1_:=Aside0.mk (Kd.R_after (ok:=(fun k_=>some k_ ≠ (.slice Ao35 x3_1.length co35 : Value).ownBlock)) (by (with_reducible repeat (first|apply Kd.R_alloc|apply Kd.R_drewN|apply Kd.R_drew));exact Kd.R_mono HO280.out (fun _ hk=>⟨hk.2,hk.1⟩)) hg hat)
                   have n2_:=Aside0.mk (hb)
                   have n3_:=Aside0.mk ((show Kd.C (Kd.int .u16) w43 Ao35 y270.length y270 from by rw [Ny270.out];exact Kd.C_take (m:=(x5_2 : Int).toNat) ((Kd.R_reads' (Kd.R_after (ok:=(fun k_=>some k_ ≠ (.slice Ao44 y278.length co44 : Value).ownBlock)) (by (with_reducible repeat (first|apply Kd.R_alloc|apply Kd.R_drewN|apply Kd.R_drew));exact Kd.R_mono HO_3.out (fun _ hk=>⟨hk.2,hk.1⟩)) hg hat)).2.2) KL34.out))
                   have n4_:=Aside0.mk ((show Kd.C (Kd.int .u16) w43 A36 y284.length y284 from by rw [Ny284.out,KA36.out];exact Kd.C_drop (m:=(x5_2 : Int).toNat) (c:=co35) ((Kd.R_reads' (Kd.R_after (ok:=(fun k_=>some k_ ≠ (.slice Ao44 y278.length co44 : Value).ownBlock)) (by (with_reducible repeat (first|apply Kd.R_alloc|apply Kd.R_drewN|apply Kd.R_drew));exact Kd.R_mono HO_3.out (fun _ hk=>⟨hk.2,hk.1⟩)) hg hat)).2.2) KL36.out ((Kd.R_reads' (Kd.R_after (ok:=(fun k_=>some k_ ≠ (.slice Ao44 y278.length co44 : Value).ownBlock)) (by (with_reducible repeat (first|apply Kd.R_alloc|apply Kd.R_drewN|apply Kd.R_drew));exact Kd.R_mono HO_3.out (fun _ hk=>⟨hk.2,hk.1⟩)) hg hat)).2.1)))
                   have n5_:=Aside0.mk (ho)
                   clear HO_3
                   clear HO280
                   clear HB
                   clear HR273
                   clear HR287
                   clear HO276
                   have HO_3:=n0_
                   have HO280:=n1_
                   have HB:=n2_
                   have HR273:=n3_
                   have HR287:=n4_
                   have HO283:=n5_
                   clear n0_ n1_ n2_ n3_ n4_ n5_
                   clear ho hb hg hat
                   refine hK.out _ _ (((HB.out.cell (World.block_lt_of_cell? w _ hw277_0)).trans hw277_0)) (fun hHeld=>?_)
                   clear hK K
                   refine norm_ (a':=?_) ?_ ?_
                   rotate_left
                   ·show Act.put _ (some 54) _ = _
                    simp only [Act.put,List.setIfInBounds_toArray,List.set_cons_zero,List.set_cons_succ,i64_w,i32_w]
                    rfl
                   refine one_ (i:=14) (N:=some 58) #[true,true,true,true,true,true,true,true,true,true,true,true,true,true,true,false] rfl rfl (one_of HT_.out (by kernel_rfl)) (by decide) (fun K hK=>?_)
                   refine Kd.R_append_rows_step (Kd.int .u16) (w0:=w) w.heap.size (by rfl) (.tmp 54) (.tmp 57) 22 25 (.int .u16 0) 2 rfl Try.underlying22 info25 rfl (by decide) (by omega) v282 y281 y284 _ _ _ (fun k_=>some k_ ≠ (.slice Ao35 x3_1.length co35 : Value).ownBlock ∧ some k_ ≠ (.slice Ao44 y278.length co44 : Value).ownBlock) (fun _=>False) rfl rfl ?aO ?aR (fun _ _ h=>h) (fun _ h=>h.elim) ?aF ?aB ?aS ?aL ?_
                   (case aR=>repeat (first|exact (by repeat (first|(with_reducible exact HR287.out)|(with_reducible refine Kd.C_alloc ?_ _)|(with_reducible refine Kd.C_drewN ?_ _)|(with_reducible refine Kd.C_drew ?_)|exact HR287.out))|(with_reducible refine Kd.C_alloc ?_ _)|(with_reducible refine Kd.C_drewN ?_ _)|(with_reducible refine Kd.C_drew ?_)))
                   (case aB=>exact (by repeat (first|(with_reducible first|exact HB.out|apply below_alloc|apply pw_below_drewN|apply below_drew1)|exact HB.out)))
                   (case aF=>exact (fun k_ hk=>⟨Kd.fresh' (Kd.R_lt (by (with_reducible repeat (first|apply Kd.R_alloc|apply Kd.R_drewN|apply Kd.R_drew));exact HO_3.out)) k_ hk,Kd.fresh' (Kd.R_lt (by (with_reducible repeat (first|apply Kd.R_alloc|apply Kd.R_drewN|apply Kd.R_drew));exact HO280.out)) k_ hk⟩))
                   (case aO=>exact (by (with_reducible repeat (first|apply Kd.R_alloc|apply Kd.R_drewN|apply Kd.R_drew));exact HO283.out))
                   (case aS=>exact (below_size (by repeat (first|(with_reducible first|exact HB.out|apply below_alloc|apply pw_below_drewN|apply below_drew1)|exact HB.out))))
                   (case aL=>have:=LMc32.out;omega)
                   intro v289 w45 ho hb hg hat
                   rw [← Ny288.out] at ho
                   have n0_:=Aside0.mk (Kd.R_after (ok:=(fun k_=>some k_ ≠ (.slice Ao44 y278.length co44 : Value).ownBlock)) (by (with_reducible repeat (first|apply Kd.R_alloc|apply Kd.R_drewN|apply Kd.R_drew));exact HO_3.out) hg hat)
                   have n1_:=Aside0.mk (Kd.R_after (ok:=(fun k_=>some k_ ≠ (.slice Ao35 x3_1.length co35 : Value).ownBlock)) (by (with_reducible repeat (first|apply Kd.R_alloc|apply Kd.R_drewN|apply Kd.R_drew));exact HO280.out) hg hat)
                   have n2_:=Aside0.mk (hb)
                   have n3_:=Aside0.mk ((show Kd.C (Kd.int .u16) w45 Ao35 y270.length y270 from by rw [Ny270.out];exact Kd.C_take (m:=(x5_2 : Int).toNat) ((Kd.R_reads' (Kd.R_after (ok:=(fun k_=>some k_ ≠ (.slice Ao44 y278.length co44 : Value).ownBlock)) (by (with_reducible repeat (first|apply Kd.R_alloc|apply Kd.R_drewN|apply Kd.R_drew));exact HO_3.out) hg hat)).2.2) KL34.out))
                   have n4_:=Aside0.mk ((show Kd.C (Kd.int .u16) w45 A36 y284.length y284 from by rw [Ny284.out,KA36.out];exact Kd.C_drop (m:=(x5_2 : Int).toNat) (c:=co35) ((Kd.R_reads' (Kd.R_after (ok:=(fun k_=>some k_ ≠ (.slice Ao44 y278.length co44 : Value).ownBlock)) (by (with_reducible repeat (first|apply Kd.R_alloc|apply Kd.R_drewN|apply Kd.R_drew));exact HO_3.out) hg hat)).2.2) KL36.out ((Kd.R_reads' (Kd.R_after (ok:=(fun k_=>some k_ ≠ (.slice Ao44 y278.length co44 : Value).ownBlock)) (by (with_reducible repeat (first|apply Kd.R_alloc|apply Kd.R_drewN|apply Kd.R_drew));exact HO_3.out) hg hat)).2.1)))
                   have n5_:=Aside0.mk (ho)
                   clear HO_3
                   clear HO280
                   clear HB
                   clear HR273
                   clear HR287
                   clear HO283
                   have HO_3:=n0_
                   have HO280:=n1_
                   have HB:=n2_
                   have HR273:=n3_
                   have HR287:=n4_
                   have HO290:=n5_
                   clear n0_ n1_ n2_ n3_ n4_ n5_
                   clear ho hb hg hat
                   refine hK.out _ _ (((HB.out.cell (World.block_lt_of_cell? w _ hw277_0)).trans hw277_0)) (fun hHeld=>?_)
                   clear hK K
                   refine norm_ (a':=?_) ?_ ?_
                   rotate_left
                   ·show Act.put _ (some 58) _ = _
                    simp only [Act.put,List.setIfInBounds_toArray,List.set_cons_zero,List.set_cons_succ,i64_w,i32_w]
                    rfl
                   refine pure_ (i:=15) (N:=some 3) (v:=?_) (a':=?_) #[true,true,true,true,true,true,true,true,true,true,true,true,true,true,true,true] rfl rfl (any_of HT_.out (by kernel_rfl)) (fun _ _ _ h=>h) (Or.inl ⟨by rfl,?_⟩) ?_ ?_
                   rotate_left
                   ·intro w'
                    go_simp
                    with_reducible rfl
                   rotate_left
                   ·simp only [Act.put,List.setIfInBounds_toArray,List.set_cons_zero,List.set_cons_succ,i64_w,i32_w]
                    rfl
                   refine done_ (done_of HT_.out (by kernel_rfl)) ?_
                   try go_wp2
                   go_roundg kj12
                   case measure=>have:=HK1.out;have:=HK2.out;have:=HJ2.out;have:=HJ12.out;omega
                   case rel=>exact ⟨(y288),(wrap64 (x4_1 + 1)),(by first|rfl|(simp;done)|(simp [*];done)),H',⟨by have:=HK1.out;have:=HK2.out;have:=HJ2.out;have:=HJ12.out;omega⟩,⟨by (with_reducible repeat (first|apply Kd.R_alloc|apply Kd.R_drewN|apply Kd.R_drew));exact Kd.R_mono HO290.out (fun _ hk=>trivial)⟩,⟨by repeat (first|(with_reducible first|exact HB.out|apply below_alloc|apply pw_below_drewN|apply below_drew1)|exact HB.out)⟩⟩
                  ·rw [if_neg c32] at H
                   exact absurd H (by simp)
                 ·rw [if_neg c29] at H
                  exact absurd H (by simp)
                ·rw [if_neg c28] at H
                 exact absurd H (by simp)
               ·rw [if_neg c27] at H
                exact absurd H (by simp)
              ·rw [if_neg c26] at H
               exact absurd H (by simp)
             ·rw [if_neg c25] at H
              exact absurd H (by simp)
            ·rw [if_neg c24] at H
             exact absurd H (by simp)
           ·replace c23:=Bool.eq_false_iff.mpr c23
            subst c23
            have H1 : (transomref1_Make.l0 kj12 l0 x3_1 (wrap64 (x4_1 + 1))) = some r:=by rw [if_neg (show ¬ (false = true) by decide)] at H;exact H
            clear H
            have H:=H1
            clear H1
            have H':=Aside0.mk H
            clear H
            go_wp2
            go_roundg kj12
            case measure=>have:=HK1.out;have:=HK2.out;have:=HJ2.out;have:=HJ12.out;omega
            case rel=>exact ⟨(x3_1),(wrap64 (x4_1 + 1)),(by first|rfl|(simp;done)|(simp [*];done)),H',⟨by have:=HK1.out;have:=HK2.out;have:=HJ2.out;have:=HJ12.out;omega⟩,⟨by (with_reducible repeat (first|apply Kd.R_alloc|apply Kd.R_drewN|apply Kd.R_drew));exact HO_3.out⟩,⟨by repeat (first|(with_reducible first|exact HB.out|apply below_alloc|apply pw_below_drewN|apply below_drew1)|exact HB.out)⟩⟩
   ·rw [if_neg c2] at H
    have c2b0 : decide (x4_1 < (l0.length : Int)) = false:=decide_eq_false c2
    clear c2
    obtain rfl:=Option.some.inj H
    go_wp2
    go_ret
    exact ⟨_,by first|rfl|(simp [errW_none,errW_some] <;> rfl)|(simp [*,errW_none,errW_some] <;> rfl),by (with_reducible repeat (first|apply Kd.R_alloc|apply Kd.R_drewN|apply Kd.R_drew));exact HO_3.out,by repeat (first|(with_reducible first|exact HB.out|apply below_alloc|apply pw_below_drewN|apply below_drew1)|exact HB.out)⟩

end Go.Proofs.Ytfbfgaaaegbihaa.PA
