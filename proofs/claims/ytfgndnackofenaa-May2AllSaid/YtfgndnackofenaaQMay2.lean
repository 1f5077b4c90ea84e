/-
  What may2 tells of labels of sets,as inclusions. No condition but that the sets may be.
-/
import Derived.Test.YtfgndnackofenaaQCats
import Derived.Test.YtfgndnackofenaaQRMay
import Derived.Test.YtfgndnackofenaaPMx3
import Derived.Test.YtfgndnackofenaaPMx4
namespace Go.Proofs.Ytfgndnackofenaa.PM
open Go Go.RowKit Go.Proofs.YtfgndnackofenaaW.PrintWords Go.Proofs.YtfgndnackofenaaW.PJ

def sees (tS tI tO oS oI : List Int) : Bool:=(le oS (un tS tO) == []) && (le tI oI == [])
def turns (tS tI tO oS oI : List Int) : Bool:=(le tS oS == []) && (le oI (un tI tO) == [])
def rises (tS tI tO oS oI oO : List Int) : Int:=if (le oO tO == []) = true then (if turns tS tI tO oS oI = true then 0 else 6) else 5
def makes (tS tI tO oS oI oO : List Int) : Int:=if oO = [] then (if turns tS tI tO oS oI = true then 0 else 6) else 5

theorem In_cm (a b : List Int) (hl : a.length + b.length < 70368744177664) : Cm (fun k=>cats_In.f k a b) (le a b == []):=cats_In_ev a b hl
theorem Sees_cm {tS tI tO oS oI : List Int} (oO : List Int) (h1 : R tS) (h2 : R tI) (h3 : R tO) (h4 : R oS) (h5 : R oI) : Cm (fun k=>may2_Sees.f k tS tI tO oS oI oO) (sees tS tI tO oS oI):=by
  have:=h1.2
  have:=h2.2
  have:=h3.2
  have:=h4.2
  have:=h5.2
  have:=un_len tS tO
  unfold sees
  refine Cm.bind (cats_Or_ev tS tO (by omega)) (Cm.bind (In_cm oS (un tS tO) (by omega)) (Cm.ite (fun h=>Cm.bind (In_cm tI oI (by omega)) (Cm.eq ?_)) (fun h=>Cm.eq ?_)))
  · rw [h];rfl
  · rw [Bool.not_eq_true] at h;rw [h];rfl
theorem Turns_cm {tS tI tO oS oI : List Int} (oO : List Int) (h1 : R tS) (h2 : R tI) (h3 : R tO) (h4 : R oS) (h5 : R oI) : Cm (fun k=>may2_Turns.f k tS tI tO oS oI oO) (turns tS tI tO oS oI):=by
  have:=h1.2
  have:=h2.2
  have:=h3.2
  have:=h4.2
  have:=h5.2
  have:=un_len tI tO
  unfold turns
  refine Cm.bind (In_cm tS oS (by omega)) (Cm.ite (fun h=>Cm.bind (cats_Or_ev tI tO (by omega)) (Cm.bind (In_cm oI (un tI tO) (by omega)) (Cm.eq ?_))) (fun h=>Cm.eq ?_))
  · rw [h];rfl
  · rw [Bool.not_eq_true] at h;rw [h];rfl
theorem Rises_cm {tS tI tO oS oI oO : List Int} (h1 : R tS) (h2 : R tI) (h3 : R tO) (h4 : R oS) (h5 : R oI) (h6 : R oO) : Cm (fun k=>may2_Rises.f k tS tI tO oS oI oO) (rises tS tI tO oS oI oO):=by
  have:=h3.2
  have:=h6.2
  unfold rises
  refine Cm.bind (In_cm oO tO (by omega)) (Cm.ite (fun h=>Cm.bind (Turns_cm oO h1 h2 h3 h4 h5) (Cm.ite (fun h'=>Cm.eq ?_) (fun h'=>Cm.eq ?_))) (fun h=>Cm.eq ?_))
  · rw [if_pos h,if_pos h']
  · rw [if_pos h,if_neg h']
  · rw [if_neg h]
theorem Makes_cm {tS tI tO oS oI : List Int} (oO : List Int) (h1 : R tS) (h2 : R tI) (h3 : R tO) (h4 : R oS) (h5 : R oI) : Cm (fun k=>may2_Makes.f k tS tI tO oS oI oO) (makes tS tI tO oS oI oO):=by
  unfold makes
  refine Cm.ite (fun h=>Cm.eq ?_) (fun h=>Cm.bind (Turns_cm oO h1 h2 h3 h4 h5) (Cm.ite (fun h'=>Cm.eq ?_) (fun h'=>Cm.eq ?_)))
  · have : oO ≠ []:=fun e=>by rw [e] at h;simp at h
    rw [if_neg this]
  · have : oO = []:=List.eq_nil_of_length_eq_zero (by omega)
    rw [if_pos this,if_pos h']
  · have : oO = []:=List.eq_nil_of_length_eq_zero (by omega)
    rw [if_pos this,if_neg h']
theorem sees_iff {tS tI tO oS oI : List Int} (h1 : R tS) (h2 : R tI) (h3 : R tO) (h4 : R oS) (h5 : R oI) : sees tS tI tO oS oI = true ↔ (∀ c ∈ oS,c ∈ tS ∨ c ∈ tO) ∧ ∀ c ∈ tI,c ∈ oI:=by
  unfold sees
  rw [Bool.and_eq_true,le_nil h4.1 (un_asc h1.1 h3.1),le_nil h2.1 h5.1]
  simp only [un_mem h1.1 h3.1]
theorem turns_iff {tS tI tO oS oI : List Int} (h1 : R tS) (h2 : R tI) (h3 : R tO) (h4 : R oS) (h5 : R oI) : turns tS tI tO oS oI = true ↔ (∀ c ∈ tS,c ∈ oS) ∧ ∀ c ∈ oI,c ∈ tI ∨ c ∈ tO:=by
  unfold turns
  rw [Bool.and_eq_true,le_nil h1.1 h4.1,le_nil h5.1 (un_asc h2.1 h3.1)]
  simp only [un_mem h2.1 h3.1]
theorem rises_iff {tS tI tO oS oI oO : List Int} (h3 : R tO) (h6 : R oO) : rises tS tI tO oS oI oO = 0 ↔ (∀ c ∈ oO,c ∈ tO) ∧ turns tS tI tO oS oI = true:=by
  unfold rises
  rw [← le_nil h6.1 h3.1]
  split
  · split <;> simp_all
  · simp_all
/-- Who may be stands in one set alone. -/
theorem un_both {a b : List Int} (ha : a.Pairwise (· < ·)) (hb : b.Pairwise (· < ·)) (h : (un a b).length = a.length + b.length) (c : Int) (hc : c ∈ a) (hd : c ∈ b) : False:=by
  have hs : (b.erase c).Sublist b:=List.erase_sublist
  have hb' : (b.erase c).Pairwise (· < ·):=hb.sublist hs
  have e : un a b = un a (b.erase c):=asc_ext (un_asc ha hb) (un_asc ha hb') fun x=>by
    rw [un_mem ha hb,un_mem ha hb']
    by_cases hx : x = c
    · subst hx;simp [hc]
    · rw [List.mem_erase_of_ne hx]
  have h1:=un_len a (b.erase c)
  rw [← e,h,List.length_erase_of_mem hd] at h1
  have : 0 < b.length:=List.length_pos_of_mem hd
  omega
theorem may_apart {S I O : List Int} (h : may S I O = true) : ∀ c,c ∈ I → c ∈ O → False:=by
  obtain ⟨rS,rI,rO⟩:=may_R h
  simp only [may,Bool.and_eq_true,decide_eq_true_eq] at h
  intro c hI hO
  have h1:=un_len (un S I) O
  have h2:=un_len S I
  have h3:=h.2
  exact un_both (un_asc rS.1 rI.1) rO.1 (by omega) c ((un_mem rS.1 rI.1 c).2 (Or.inr hI)) hO
theorem sub_len {a b : List Int} (ha : a.Pairwise (· < ·)) (hb : b.Pairwise (· < ·)) (h : ∀ c ∈ a,c ∈ b) (hl : a.length = b.length) : a = b:=by
  have e : a = b.filter fun c=>decide (c ∈ a):=asc_ext ha (hb.filter _) fun x=>by
    simp only [List.mem_filter,decide_eq_true_eq]
    exact ⟨fun hx=>⟨h x hx,hx⟩,fun hx=>hx.2⟩
  have hs : a.Sublist b:=e ▸ List.filter_sublist
  exact hs.eq_of_length hl
theorem begun10_cm : Cm (fun k=>transomlaw10_begun.f k) true:=Cm.of_ex (transomlaw10_begun.mono) 60 (by decide +kernel)
end Go.Proofs.Ytfgndnackofenaa.PM
