-- Printed by a program of this session (pp.sh: the kit's print.py, turned). Not trusted: Lean checks it.
import Derived.Test.YtfbfgaaaegbihaaPAx0
namespace Go.Proofs.Ytfbfgaaaegbihaa.PA
open Go.RowKit Go.Proofs.YtfbfgaaaegbihaaW.PrintWords Go.Proofs.YtfbfgaaaegbihaaW.PrintLast Go.Proofs.YtfbfgaaaegbihaaW.PrintMore
attribute [local go_sem] max2_int min2_int max_two min_two max_three min_three max_four min_four   -- for this text's walks alone
set_option linter.unusedVariables false
set_option linter.unusedSimpArgs false

/-! ### cats_rises: function 51 -/
def cats_rises.l0 : Nat → List Int → Int → Option (Bool)
 | 0,_,_=>none
 | k + 1,x0,x3=>if x3 ≥ (x0.length : Int) then (some true) else (if 0 ≤ (wrap64 (x3 - 1)) then (if (wrap64 (x3 - 1)) < (x0.length : Int) then (if 0 ≤ x3 then (if x3 < (x0.length : Int) then (if (rd x0 (wrap64 (x3 - 1))) ≥ (rd x0 x3) then (some false) else (cats_rises.l0 k x0 (wrap64 (x3 + 1)))) else (none)) else (none)) else (none)) else (none))
def cats_rises.f (k : Nat) (l0 : List Int) : Option (Bool):=cats_rises.l0 k l0 1
theorem cats_rises.mono_l : ∀ k,(∀ y0 y1,LeO (cats_rises.l0 k y0 y1) (cats_rises.l0 (k + 1) y0 y1))
 | 0=>fun _ _ r h=>by simp [cats_rises.l0] at h
 | k + 1=>by
  have ih0:=cats_rises.mono_l k
  ·intro y0 y1
   unfold cats_rises.l0
   repeat' first
   | (with_reducible exact ih0 _ _)
   | (with_reducible exact LeO.refl _)
   | (with_reducible exact LeO.none _)
   | (with_reducible refine LeO.ite ?_ ?_)
   | (with_reducible refine LeO.bind ?_ (fun _=>?_))
   | exact ih0 _ _
   | exact LeO.none _
   | refine LeO.ite ?_ ?_
   | refine LeO.bind ?_ (fun _=>?_)
theorem cats_rises.mono : ∀ a0 k,LeO (cats_rises.f k a0) (cats_rises.f (k + 1) a0):=by
 intro a0 k
 have ih0:=cats_rises.mono_l k
 unfold cats_rises.f
 repeat' first
   | (with_reducible exact ih0 _ _)
   | (with_reducible exact LeO.refl _)
   | (with_reducible exact LeO.none _)
   | (with_reducible refine LeO.ite ?_ ?_)
   | (with_reducible refine LeO.bind ?_ (fun _=>?_))
   | exact ih0 _ _
   | exact LeO.none _
   | refine LeO.ite ?_ ?_
   | refine LeO.bind ?_ (fun _=>?_)
set_option maxHeartbeats 8000000 in
set_option maxRecDepth 100000 in
theorem cats_rises.calls (k : Nat) (A0 : Option Addr) (c0 : Nat) (l0 : List Int) (r : Bool) (w : World) (hr0 : Kd.C (Kd.int .u16) w A0 l0.length l0) (hc0 : l0.length ≤ c0) (h : cats_rises.f k l0 = some r) :
  Calls Try.prog 51 #[.slice A0 l0.length c0] w fun e w'=>e = .returned (.bool r) ∧ Drawn0 w w':=by
 have HR0:=Aside0.mk hr0
 have HC0:=Aside0.mk hc0
 clear hr0 hc0
 have H : (cats_rises.l0 k l0 1) = some r:=h
 clear h
 go_enter Try.func51,Try.ntmps51
 go_wp2
 repeat (go_quiet (fail);try go_wp2)
 refine Go.Proofs.YtfbfgaaaegbihaaW.PJ.scope_back 0 rfl ?_
 have H':=Aside0.mk H
 clear H
 go_wp2
 repeat (go_quiet (fail);try go_wp2)
 apply wp_label
 go_step
 go_step
 refine Go.Proofs.YtfbfgaaaegbihaaW.PJ.label_ghost_k 0 rfl (fun k_ a_ w_=>∃ zz1 u2 u3 u4 u5 u6 u7 u8 u9 u10 u11 u12 u13 u14 u15 u16 u17 u18 u19 : Value,(fun kq v3 w'=>∃ (x3_1 : Int),v3 = .int .i64 x3_1 ∧ Aside0 (cats_rises.l0 kq l0 x3_1 = some r) ∧ Aside0 (kq ≤ k) ∧ Drawn0 w w') k_ u3 w_ ∧ a_ = ⟨[(.slice A0 l0.length c0),zz1,u2,u3,u4,u5,u6,u7,u8,u9,u10,u11,u12,u13,u14,u15,u16,u17,u18,u19].toArray,[]⟩) k ?atStart ?round
 case atStart=>(repeat apply Exists.intro);refine ⟨?_,rfl⟩;exact ⟨(1),(by first|rfl|(simp;done)|(simp [*];done)),H',⟨Nat.le_refl _⟩,by repeat (first|exact Drawn0.refl _|apply Drawn0.step)⟩
 case round =>
  intro gk _ wr hinv
  obtain ⟨zz1,u2,u3,u4,u5,u6,u7,u8,u9,u10,u11,u12,u13,u14,u15,u16,u17,u18,u19,hrel,ha⟩:=hinv
  subst ha
  (try dsimp only)
  intro _ _ _ _
  clear H'
  obtain ⟨x3_1,rfl,HA,HK1,⟨m1,rfl⟩⟩:=hrel
  cases gk with
  | zero=>exact absurd HA.out (by simp [cats_rises.l0])
  | succ k1 =>
   have H:=HA.out
   clear HA
   simp only [cats_rises.l0] at H
   by_cases c2 : x3_1 ≥ (l0.length : Int)
   ·rw [if_pos c2] at H
    have c2b0 : decide ((l0.length : Int) ≤ x3_1) = true:=decide_eq_true c2
    clear c2
    obtain rfl:=Option.some.inj H
    go_wp2
    repeat (go_quiet (fail);try go_wp2)
    (try simp only [Exit.then,Exit.inBlock,Go.Proofs.YtfbfgaaaegbihaaW.PJ.jump_ret])
    go_ret
    exact ⟨by first|rfl|(simp;done)|(simp [*];done),by repeat (first|exact Drawn0.refl _|apply Drawn0.step)⟩
   ·rw [if_neg c2] at H
    have c2b0 : decide ((l0.length : Int) ≤ x3_1) = false:=decide_eq_false c2
    clear c2
    obtain ⟨ji3,hji3⟩ : ∃ j_ : Int,(wrap64 (x3_1 - 1)) = j_:=⟨_,rfl⟩
    replace H : (if 0 ≤ (ji3) then (if (ji3) < (l0.length : Int) then (if 0 ≤ x3_1 then (if x3_1 < (l0.length : Int) then (if (rd l0 (ji3)) ≥ (rd l0 x3_1) then (some false) else (cats_rises.l0 k1 l0 (wrap64 (x3_1 + 1)))) else (none)) else (none)) else (none)) else (none)) = some r:=by first|(rw [hji3] at H;exact H)|(simp only [hji3] at H ⊢;exact H)
    have hji3w : (IntKind.i64.wrap (x3_1 - 1)) = ji3:=(i64_w _).trans hji3
    by_cases c4 : 0 ≤ (ji3)
    ·rw [if_pos c4] at H
     have c4b0 : decide (0 ≤ (ji3)) = true:=decide_eq_true c4
     clear c4
     by_cases c5 : (ji3) < (l0.length : Int)
     ·rw [if_pos c5] at H
      have c5b0 : decide ((ji3) < (l0.length : Int)) = true:=decide_eq_true c5
      clear c5
      by_cases c6 : 0 ≤ x3_1
      ·rw [if_pos c6] at H
       have c6b0 : decide (0 ≤ x3_1) = true:=decide_eq_true c6
       clear c6
       by_cases c7 : x3_1 < (l0.length : Int)
       ·rw [if_pos c7] at H
        have c7b0 : decide (x3_1 < (l0.length : Int)) = true:=decide_eq_true c7
        clear c7
        by_cases c8 : (rd l0 (ji3)) ≥ (rd l0 x3_1)
        ·rw [if_pos c8] at H
         have c8b0 : decide ((rd l0 x3_1) ≤ (rd l0 (ji3))) = true:=decide_eq_true c8
         clear c8
         obtain rfl:=Option.some.inj H
         have p101 : 0 ≤ ((ji3) : Int):=of_decide_eq_true (by first|(with_reducible assumption)|assumption)
         have q101 : (ji3) < (l0.length : Int):=of_decide_eq_true (by first|(with_reducible assumption)|assumption)
         obtain ⟨ad101,e101,hx101_0⟩:=Kd.at_int HR0.out (ji3) p101 q101
         cases e101
         replace p101:=eq_true p101
         replace q101:=eq_true q101
         have p102 : 0 ≤ (x3_1 : Int):=of_decide_eq_true (by first|(with_reducible assumption)|assumption)
         have q102 : x3_1 < (l0.length : Int):=of_decide_eq_true (by first|(with_reducible assumption)|assumption)
         obtain ⟨ad102,e102,hx102_0⟩:=Kd.at_int HR0.out x3_1 p102 q102
         obtain rfl : ad101 = ad102:=(by injection e102)
         replace p102:=eq_true p102
         replace q102:=eq_true q102
         go_wp2
         repeat (go_quiet (fail);try go_wp2)
         (try simp only [Exit.then,Exit.inBlock,Go.Proofs.YtfbfgaaaegbihaaW.PJ.jump_ret])
         go_ret
         exact ⟨by first|rfl|(simp;done)|(simp only [← hji3] <;> (first|rfl|simp))|(simp [*];done),by repeat (first|exact Drawn0.refl _|apply Drawn0.step)⟩
        ·rw [if_neg c8] at H
         have c8b0 : decide ((rd l0 x3_1) ≤ (rd l0 (ji3))) = false:=decide_eq_false c8
         clear c8
         have H':=Aside0.mk H
         clear H
         have p101 : 0 ≤ ((ji3) : Int):=of_decide_eq_true (by first|(with_reducible assumption)|assumption)
         have q101 : (ji3) < (l0.length : Int):=of_decide_eq_true (by first|(with_reducible assumption)|assumption)
         obtain ⟨ad101,e101,hx101_0⟩:=Kd.at_int HR0.out (ji3) p101 q101
         cases e101
         replace p101:=eq_true p101
         replace q101:=eq_true q101
         have p102 : 0 ≤ (x3_1 : Int):=of_decide_eq_true (by first|(with_reducible assumption)|assumption)
         have q102 : x3_1 < (l0.length : Int):=of_decide_eq_true (by first|(with_reducible assumption)|assumption)
         obtain ⟨ad102,e102,hx102_0⟩:=Kd.at_int HR0.out x3_1 p102 q102
         obtain rfl : ad101 = ad102:=(by injection e102)
         replace p102:=eq_true p102
         replace q102:=eq_true q102
         go_wp2
         repeat (go_quiet (fail);try go_wp2)
         (try simp only [Exit.then,Exit.inBlock])
         apply wp_goto
         (try simp only [Exit.then,Exit.inBlock])
         refine Go.Proofs.YtfbfgaaaegbihaaW.PJ.jump_goto ?_
         go_step
         go_roundg k1
         case measure=>have:=HK1.out;omega
         case rel=>exact ⟨(wrap64 (x3_1 + 1)),(by first|rfl|(simp;done)|(simp [*];done)),H',⟨by have:=HK1.out;omega⟩,by repeat (first|exact Drawn0.refl _|apply Drawn0.step)⟩
       ·rw [if_neg c7] at H
        exact absurd H (by simp)
      ·rw [if_neg c6] at H
       exact absurd H (by simp)
     ·rw [if_neg c5] at H
      exact absurd H (by simp)
    ·rw [if_neg c4] at H
     exact absurd H (by simp)

/-! ### cats_May: function 33 -/
def cats_May.f (k : Nat) (l0 : List Int) : Option (Bool):=if (l0.length : Int) ≤ 16 then ((cats_rises.f k l0).bind fun t103=>(some t103)) else (some false)
theorem cats_May.mono : ∀ a0 k,LeO (cats_May.f k a0) (cats_May.f (k + 1) a0):=by
 intro a0 k
 unfold cats_May.f
 repeat' first
   | (with_reducible exact cats_rises.mono _ _)
   | (with_reducible exact LeO.refl _)
   | (with_reducible exact LeO.none _)
   | (with_reducible refine LeO.ite ?_ ?_)
   | (with_reducible refine LeO.bind ?_ (fun _=>?_))
   | exact cats_rises.mono _ _
   | exact LeO.none _
   | refine LeO.ite ?_ ?_
   | refine LeO.bind ?_ (fun _=>?_)
set_option maxHeartbeats 8000000 in
set_option maxRecDepth 100000 in
theorem cats_May.calls (k : Nat) (A0 : Option Addr) (c0 : Nat) (l0 : List Int) (r : Bool) (w : World) (hr0 : Kd.C (Kd.int .u16) w A0 l0.length l0) (hc0 : l0.length ≤ c0) (h : cats_May.f k l0 = some r) :
  Calls Try.prog 33 #[.slice A0 l0.length c0] w fun e w'=>e = .returned (.bool r) ∧ Drawn0 w w':=by
 have HR0:=Aside0.mk hr0
 have HC0:=Aside0.mk hc0
 clear hr0 hc0
 have H : (if (l0.length : Int) ≤ 16 then ((cats_rises.f k l0).bind fun t103=>(some t103)) else (some false)) = some r:=h
 clear h
 by_cases c2 : (l0.length : Int) ≤ 16
 ·rw [if_pos c2] at H
  have c2b0 : decide ((l0.length : Int) ≤ 16) = true:=decide_eq_true c2
  have c2b1 : decide (l0.length ≤ 16) = true:=decide_eq_true (by omega)
  clear c2
  replace H:=Option.bind_eq_some_iff.mp H
  obtain ⟨t103,A30,H⟩:=H
  replace H : (some t103) = some r:=H
  have A3:=Aside0.mk A30
  clear A30
  obtain rfl:=Option.some.inj H
  go_enter Try.func33,Try.ntmps33
  go_wp2_with (first|((with_reducible refine gate_dst (N:=8) rfl ?_);(try (refine gate_guard (by rfl) ?_;dsimp only));refine goesL_ (some 8) rfl rfl Try.func51 (by kernel_rfl) rfl #[.slice A0 l0.length c0] rfl (by (try simp only [List.map_toArray,List.map_cons,List.map_nil]);first|done|rfl|(simp only [List.length_drop,List.length_take];rfl)) ?_;(with_reducible refine (cats_rises.calls k _ _ l0 t103 _ ?side1 ?side2 A3.out).mono ?_);(case side1=>repeat (first|exact HR0.out|(with_reducible refine Kd.C_alloc ?_ _)|(with_reducible refine Kd.C_drewN ?_ _)|(with_reducible refine Kd.C_drew ?_)));(case side2=>exact HC0.out);rintro e w' ⟨rfl,⟨nd,rfl⟩⟩;refine ⟨_,rfl,?_⟩))
  go_ret
  exact ⟨by first|rfl|(simp;done)|(simp [*];done),by repeat (first|exact Drawn0.refl _|apply Drawn0.step)⟩
 ·rw [if_neg c2] at H
  have c2b0 : decide ((l0.length : Int) ≤ 16) = false:=decide_eq_false c2
  have c2b1 : decide (l0.length ≤ 16) = false:=decide_eq_false (by omega)
  clear c2
  obtain rfl:=Option.some.inj H
  go_enter Try.func33,Try.ntmps33
  go_wp2
  go_ret
  exact ⟨by first|rfl|(simp;done)|(simp [*];done),by repeat (first|exact Drawn0.refl _|apply Drawn0.step)⟩

-- NOT PRINTED: function 52 (cats_merge)

/-! ### cats_Or_1: function 53 -/
def cats_Or_1.f (a0 : Bool) (a1 : Bool) : Option (Bool):=some true
set_option maxHeartbeats 8000000 in
set_option maxRecDepth 100000 in
theorem cats_Or_1.calls (a0 : Bool) (a1 : Bool) (r : Bool) (w : World) (h : cats_Or_1.f a0 a1 = some r) :
  Calls Try.prog 53 #[.bool a0,.bool a1] w fun e w'=>e = .returned (.bool r) ∧ Drawn0 w w':=by
 have H : (some true) = some r:=h
 clear h
 obtain rfl:=Option.some.inj H
 go_enter Try.func53,Try.ntmps53
 go_wp2
 go_ret
 exact ⟨by first|rfl|(simp;done)|(simp [*];done),by repeat (first|exact Drawn0.refl _|apply Drawn0.step)⟩

end Go.Proofs.Ytfbfgaaaegbihaa.PA
