/-
  Which labels of sets may be, by sets.May. No condition but lengths.
-/
import Derived.Test.YtfbfgaaaegbihaaQCats
import Derived.Test.YtfbfgaaaegbihaaPSx3
import Derived.Test.YtfbfgaaaegbihaaPSx7
namespace Go.Proofs.Ytfbfgaaaegbihaa.PS
open Go Go.RowKit Go.Proofs.YtfbfgaaaegbihaaW.PrintWords Go.Proofs.YtfbfgaaaegbihaaW.PJ

theorem Cm.of_ex {α : Type} {F : Nat → Option α} {v : α} (h : ∀ k, LeO (F k) (F (k + 1))) (n : Nat) (e : F n = some v) : Cm F v := ⟨n, fun _ hk => at_rounds h hk e⟩

/-- A set that may be. -/
def R (l : List Int) : Prop := l.Pairwise (· < ·) ∧ l.length ≤ 16
theorem R_asc {l : List Int} (h : R l) : asc l = true := (asc_iff l).2 h.1
theorem R_nil : R [] := ⟨List.Pairwise.nil, by simp⟩
theorem R_one (c : Int) : R [c] := ⟨by simp, by simp⟩
theorem R_lt {l : List Int} (h : R l) : l.length < 1000 := by have := h.2; omega

def un (a b : List Int) : List Int := mg (fun _ _ => true) a b
def le (a b : List Int) : List Int := mg (fun _ b => !b) a b
def an (a b : List Int) : List Int := mg (fun a b => a && b) a b
theorem un_asc {a b : List Int} (ha : a.Pairwise (· < ·)) (hb : b.Pairwise (· < ·)) : (un a b).Pairwise (· < ·) := mg_asc _ a b ha hb
theorem le_asc {a b : List Int} (ha : a.Pairwise (· < ·)) (hb : b.Pairwise (· < ·)) : (le a b).Pairwise (· < ·) := mg_asc _ a b ha hb
theorem an_asc {a b : List Int} (ha : a.Pairwise (· < ·)) (hb : b.Pairwise (· < ·)) : (an a b).Pairwise (· < ·) := mg_asc _ a b ha hb
theorem un_mem {a b : List Int} (ha : a.Pairwise (· < ·)) (hb : b.Pairwise (· < ·)) (c : Int) : c ∈ un a b ↔ c ∈ a ∨ c ∈ b := by
  unfold un; rw [mg_mem _ a b ha hb]; simp
theorem le_mem {a b : List Int} (ha : a.Pairwise (· < ·)) (hb : b.Pairwise (· < ·)) (c : Int) : c ∈ le a b ↔ c ∈ a ∧ c ∉ b := by
  unfold le; rw [mg_mem _ a b ha hb]; simp; grind
theorem an_mem {a b : List Int} (ha : a.Pairwise (· < ·)) (hb : b.Pairwise (· < ·)) (c : Int) : c ∈ an a b ↔ c ∈ a ∧ c ∈ b := by
  unfold an; rw [mg_mem _ a b ha hb]; simp; grind
theorem mk_un {a b : List Int} (ha : a.Pairwise (· < ·)) (hb : b.Pairwise (· < ·)) : mk (a ++ b) [] = un a b :=
  asc_ext (mk_asc _ _ List.Pairwise.nil) (un_asc ha hb) fun x => by rw [mk_mem, un_mem ha hb]; simp
theorem fl_le {a b : List Int} (ha : a.Pairwise (· < ·)) (hb : b.Pairwise (· < ·)) : (a.filter fun c => decide (c ∈ b) == false) = le a b :=
  asc_ext (ha.filter _) (le_asc ha hb) fun x => by rw [le_mem ha hb]; simp
theorem fl_an {a b : List Int} (ha : a.Pairwise (· < ·)) (hb : b.Pairwise (· < ·)) : (a.filter fun c => decide (c ∈ b) == true) = an a b :=
  asc_ext (ha.filter _) (an_asc ha hb) fun x => by rw [an_mem ha hb]; simp
theorem le_len (a b : List Int) : (le a b).length ≤ a.length + b.length := mg_len _ a b
theorem un_len (a b : List Int) : (un a b).length ≤ a.length + b.length := mg_len _ a b
theorem an_len (a b : List Int) : (an a b).length ≤ a.length + b.length := mg_len _ a b
theorem le_nil {a b : List Int} (ha : a.Pairwise (· < ·)) (hb : b.Pairwise (· < ·)) : (le a b == []) = true ↔ ∀ c ∈ a, c ∈ b := by
  rw [beq_iff_eq, List.eq_nil_iff_forall_not_mem]
  constructor
  · intro h c hc
    have := h c
    rw [le_mem ha hb] at this
    grind
  · intro h c hc
    rw [le_mem ha hb] at hc
    grind

/-- Whether a label of sets may be. -/
def may (S I O : List Int) : Bool := (asc S && decide (S.length ≤ 16)) && (asc I && decide (I.length ≤ 16)) && (asc O && decide (O.length ≤ 16)) && decide (S.length + I.length + O.length ≤ 16) && decide ((un (un S I) O).length = S.length + I.length + O.length)
theorem may_R {S I O : List Int} (h : may S I O = true) : R S ∧ R I ∧ R O := by
  simp only [may, Bool.and_eq_true, decide_eq_true_eq, asc_iff] at h
  exact ⟨⟨h.1.1.1.1.1, h.1.1.1.1.2⟩, ⟨h.1.1.1.2.1, h.1.1.1.2.2⟩, ⟨h.1.1.2.1, h.1.1.2.2⟩⟩

def ok1 (l : List Int) : Bool := asc l && decide (l.length ≤ 16)
theorem ok1_R {l : List Int} (h : ok1 l = true) : R l := by
  simp only [ok1, Bool.and_eq_true, decide_eq_true_eq, asc_iff] at h
  exact h
theorem may_ok1 (S I O : List Int) : may S I O = (ok1 S && ok1 I && ok1 O && decide (S.length + I.length + O.length ≤ 16) && decide ((un (un S I) O).length = S.length + I.length + O.length)) := rfl
theorem CMay (l : List Int) (h : l.length < 4611686018427387904) : Cm (fun k => cats_May.f k l) (ok1 l) := (cats_May_ev l h).of (by unfold ok1; exact Bool.and_comm _ _)

theorem sMay_cm (S I O : List Int) (hS : S.length < 70368744177000) (hI : I.length < 70368744177000) (hO : O.length < 70368744177000) : Cm (fun k => sets_May.f k S I O) (may S I O) := by
  refine Cm.bind (Cm.here _) ?_
  have e0 : wrap64 (0 + 1) = 1 := by simp [wrap64]
  have e1 : wrap64 (1 + 1) = 2 := by simp [wrap64]
  have e2 : wrap64 (2 + 1) = 3 := by simp [wrap64]
  rw [may_ok1]
  refine Cm.step (fun _ => sets_May.l0.eq_2 ..) (Cm.pos (by simp) (Cm.pos (by omega) (Cm.pos (by simp) (Cm.bind (CMay S (by omega)) (Cm.ite (fun h0 => ?_) (fun h0 => ?_))))))
  · rw [e0]
    refine Cm.step (fun _ => sets_May.l0.eq_2 ..) (Cm.pos (by simp) (Cm.pos (by omega) (Cm.pos (by simp) (Cm.bind (CMay I (by omega)) (Cm.ite (fun h1 => ?_) (fun h1 => ?_))))))
    · rw [e1]
      refine Cm.step (fun _ => sets_May.l0.eq_2 ..) (Cm.pos (by simp) (Cm.pos (by omega) (Cm.pos (by simp) (Cm.bind (CMay O (by omega)) (Cm.ite (fun h2 => ?_) (fun h2 => ?_))))))
      · rw [e2]
        have rS := ok1_R h0
        have rI := ok1_R h1
        have rO := ok1_R h2
        have lS := rS.2
        have lI := rI.2
        have lO := rO.2
        rw [h0, h1, h2]
        refine Cm.step (fun _ => sets_May.l0.eq_2 ..) (Cm.neg (by simp) ?_)
        have ew : wrap64 (wrap64 ((S.length : Int) + (I.length : Int)) + (O.length : Int)) = ((S.length + I.length + O.length : Nat) : Int) := by unfold wrap64; omega
        rw [ew]
        refine Cm.ite (fun h => ?_) (fun h => ?_)
        · have hl := un_len I O
          refine Cm.bind (cats_Or_ev I O (by omega)) (Cm.bind (cats_Or_ev S (un I O) (by omega)) (Cm.eq ?_))
          have eu : mg (fun _ _ => true) S (un I O) = un (un S I) O :=
            asc_ext (un_asc rS.1 (un_asc rI.1 rO.1)) (un_asc (un_asc rS.1 rI.1) rO.1) fun x => by
              show x ∈ un S (un I O) ↔ _
              rw [un_mem rS.1 (un_asc rI.1 rO.1), un_mem rI.1 rO.1, un_mem (un_asc rS.1 rI.1) rO.1, un_mem rS.1 rI.1]; grind
          rw [eu, decide_eq_true (by omega : S.length + I.length + O.length ≤ 16)]
          rw [Bool.eq_iff_iff]
          simp
          omega
        · rw [decide_eq_false (by omega : ¬ S.length + I.length + O.length ≤ 16)]
          exact Cm.eq (by simp)
      · rw [Bool.not_eq_true] at h2; rw [h2]; exact Cm.eq (by simp)
    · rw [Bool.not_eq_true] at h1; rw [h1]; exact Cm.eq (by simp)
  · rw [Bool.not_eq_true] at h0; rw [h0]; exact Cm.eq (by simp)

theorem begun8_cm : Cm (fun k => transomlaw8_begun.f k) true := Cm.of_ex (transomlaw8_begun.mono) 60 (by decide +kernel)
end Go.Proofs.Ytfbfgaaaegbihaa.PS
