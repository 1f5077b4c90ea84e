/-
  Sets as rising lists: both, either, less; which labels of sets may be. No condition beyond what each law says. (Own words of this claim.)
-/
import Derived.Test.YtfbfgaaaegbihaaWWords
import Derived.Test.YtfbfgaaaegbihaaXEv
namespace Go.Proofs.YtfbfgaaaegbihaaW.PJ
open Go Go.RowKit Go.Proofs.YtfbfgaaaegbihaaW.PrintWords

theorem Cm.of_ex {α : Type} {F : Nat → Option α} {v : α} (h : ∀ k, LeO (F k) (F (k + 1))) (n : Nat) (e : F n = some v) : Cm F v := ⟨n, fun _ hk => at_rounds h hk e⟩

/-- A set that may be. -/
def R (l : List Int) : Prop := l.Pairwise (· < ·) ∧ l.length ≤ 16
theorem R_asc {l : List Int} (h : R l) : asc l = true := (asc_iff l).2 h.1
theorem R_nil : R [] := ⟨List.Pairwise.nil, by simp⟩
theorem R_one (c : Int) : R [c] := ⟨by simp, by simp⟩
theorem R_lt {l : List Int} (h : R l) : l.length < 1000 := by have := h.2; omega

def un (a b : List Int) : List Int := mg (fun _ _ => true) a b
def le (a b : List Int) : List Int := mg (fun _ b => !b) a b
def an (a b : List Int) : List Int := mg (fun a b => a && b) a b
theorem un_asc {a b : List Int} (ha : a.Pairwise (· < ·)) (hb : b.Pairwise (· < ·)) : (un a b).Pairwise (· < ·) := mg_asc _ a b ha hb
theorem le_asc {a b : List Int} (ha : a.Pairwise (· < ·)) (hb : b.Pairwise (· < ·)) : (le a b).Pairwise (· < ·) := mg_asc _ a b ha hb
theorem an_asc {a b : List Int} (ha : a.Pairwise (· < ·)) (hb : b.Pairwise (· < ·)) : (an a b).Pairwise (· < ·) := mg_asc _ a b ha hb
theorem un_mem {a b : List Int} (ha : a.Pairwise (· < ·)) (hb : b.Pairwise (· < ·)) (c : Int) : c ∈ un a b ↔ c ∈ a ∨ c ∈ b := by
  unfold un; rw [mg_mem _ a b ha hb]; simp
theorem le_mem {a b : List Int} (ha : a.Pairwise (· < ·)) (hb : b.Pairwise (· < ·)) (c : Int) : c ∈ le a b ↔ c ∈ a ∧ c ∉ b := by
  unfold le; rw [mg_mem _ a b ha hb]; simp; grind
theorem an_mem {a b : List Int} (ha : a.Pairwise (· < ·)) (hb : b.Pairwise (· < ·)) (c : Int) : c ∈ an a b ↔ c ∈ a ∧ c ∈ b := by
  unfold an; rw [mg_mem _ a b ha hb]; simp; grind
theorem mk_un {a b : List Int} (ha : a.Pairwise (· < ·)) (hb : b.Pairwise (· < ·)) : mk (a ++ b) [] = un a b :=
  asc_ext (mk_asc _ _ List.Pairwise.nil) (un_asc ha hb) fun x => by rw [mk_mem, un_mem ha hb]; simp
theorem fl_le {a b : List Int} (ha : a.Pairwise (· < ·)) (hb : b.Pairwise (· < ·)) : (a.filter fun c => decide (c ∈ b) == false) = le a b :=
  asc_ext (ha.filter _) (le_asc ha hb) fun x => by rw [le_mem ha hb]; simp
theorem fl_an {a b : List Int} (ha : a.Pairwise (· < ·)) (hb : b.Pairwise (· < ·)) : (a.filter fun c => decide (c ∈ b) == true) = an a b :=
  asc_ext (ha.filter _) (an_asc ha hb) fun x => by rw [an_mem ha hb]; simp
theorem le_len (a b : List Int) : (le a b).length ≤ a.length + b.length := mg_len _ a b
theorem un_len (a b : List Int) : (un a b).length ≤ a.length + b.length := mg_len _ a b
theorem an_len (a b : List Int) : (an a b).length ≤ a.length + b.length := mg_len _ a b
theorem le_nil {a b : List Int} (ha : a.Pairwise (· < ·)) (hb : b.Pairwise (· < ·)) : (le a b == []) = true ↔ ∀ c ∈ a, c ∈ b := by
  rw [beq_iff_eq, List.eq_nil_iff_forall_not_mem]
  constructor
  · intro h c hc
    have := h c
    rw [le_mem ha hb] at this
    grind
  · intro h c hc
    rw [le_mem ha hb] at hc
    grind

/-- Whether a label of sets may be. -/
def may (S I O : List Int) : Bool := (asc S && decide (S.length ≤ 16)) && (asc I && decide (I.length ≤ 16)) && (asc O && decide (O.length ≤ 16)) && decide (S.length + I.length + O.length ≤ 16) && decide ((un (un S I) O).length = S.length + I.length + O.length)
theorem may_R {S I O : List Int} (h : may S I O = true) : R S ∧ R I ∧ R O := by
  simp only [may, Bool.and_eq_true, decide_eq_true_eq, asc_iff] at h
  exact ⟨⟨h.1.1.1.1.1, h.1.1.1.1.2⟩, ⟨h.1.1.1.2.1, h.1.1.1.2.2⟩, ⟨h.1.1.2.1, h.1.1.2.2⟩⟩

def ok1 (l : List Int) : Bool := asc l && decide (l.length ≤ 16)
theorem ok1_R {l : List Int} (h : ok1 l = true) : R l := by
  simp only [ok1, Bool.and_eq_true, decide_eq_true_eq, asc_iff] at h
  exact h
theorem may_ok1 (S I O : List Int) : may S I O = (ok1 S && ok1 I && ok1 O && decide (S.length + I.length + O.length ≤ 16) && decide ((un (un S I) O).length = S.length + I.length + O.length)) := rfl
end Go.Proofs.YtfbfgaaaegbihaaW.PJ
