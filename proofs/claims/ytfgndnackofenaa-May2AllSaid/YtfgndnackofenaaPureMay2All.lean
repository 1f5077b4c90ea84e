/-
  May2All,in plain Lean. Conditions: the lengths that the row gives.
-/
import Derived.Test.YtfgndnackofenaaQMay2Lab
import Derived.Test.YtfgndnackofenaaPMx15
namespace Go.Proofs.Ytfgndnackofenaa.Pure
open Go Go.RowKit Go.Proofs.Ytfgndnackofenaa.PM Go.Proofs.YtfgndnackofenaaW.PrintWords Go.Proofs.YtfgndnackofenaaW.PrintLast Go.Proofs.YtfgndnackofenaaW.PJ

theorem may_three {S I O : List Int} (h : may S I O = true) : (∀ c,c ∈ S → c ∈ I → False) ∧ (∀ c,c ∈ S → c ∈ O → False) ∧ ∀ c,c ∈ I → c ∈ O → False:=by
  obtain ⟨rS,rI,rO⟩:=may_R h
  have hIO:=may_apart h
  simp only [may,Bool.and_eq_true,decide_eq_true_eq] at h
  have h1:=un_len (un S I) O
  have h2:=un_len S I
  have h3:=h.2
  exact ⟨fun c hc hd=>un_both rS.1 rI.1 (by omega) c hc hd,fun c hc hd=>un_both (un_asc rS.1 rI.1) rO.1 (by omega) c ((un_mem rS.1 rI.1 c).2 (Or.inl hc)) hd,hIO⟩
theorem sl_O {S I O : List Int} {c : Int} (h : c ∈ O) : sl_ S I O c = 0:=by unfold sl_;rw [if_pos h]
theorem sl_I {S I O : List Int} {c : Int} (h : c ∉ O) (h1 : c ∈ I) : sl_ S I O c = 1:=by unfold sl_;rw [if_neg h,if_pos h1]
theorem sl_S {S I O : List Int} {c : Int} (h : c ∉ O) (h1 : c ∉ I) (h2 : c ∈ S) : sl_ S I O c = 4:=by unfold sl_;rw [if_neg h,if_neg h1,if_pos h2]
theorem sl_N {S I O : List Int} {c : Int} (h : c ∉ O) (h1 : c ∉ I) (h2 : c ∉ S) : sl_ S I O c = 2:=by unfold sl_;rw [if_neg h,if_neg h1,if_neg h2]
theorem sl_cases (S I O : List Int) (c : Int) : (c ∈ O ∧ sl_ S I O c = 0) ∨ (c ∉ O ∧ c ∈ I ∧ sl_ S I O c = 1) ∨ (c ∉ O ∧ c ∉ I ∧ c ∈ S ∧ sl_ S I O c = 4) ∨ (c ∉ O ∧ c ∉ I ∧ c ∉ S ∧ sl_ S I O c = 2):=by
  by_cases h : c ∈ O
  · exact Or.inl ⟨h,sl_O h⟩
  · by_cases h1 : c ∈ I
    · exact Or.inr (Or.inl ⟨h,h1,sl_I h h1⟩)
    · by_cases h2 : c ∈ S
      · exact Or.inr (Or.inr (Or.inl ⟨h,h1,h2,sl_S h h1 h2⟩))
      · exact Or.inr (Or.inr (Or.inr ⟨h,h1,h2,sl_N h h1 h2⟩))
theorem turns_flo {tS tI tO oS oI oO : List Int} (ht : may tS tI tO = true) (ho : may oS oI oO = true) (hs : ∀ c ∈ oO,c ∈ tO) : flo tS tI tO oS oI oO = turns tS tI tO oS oI:=by
  obtain ⟨r1,r2,r3⟩:=may_R ht
  obtain ⟨r4,r5,r6⟩:=may_R ho
  obtain ⟨d1,d2,d3⟩:=may_three ht
  obtain ⟨e1,e2,e3⟩:=may_three ho
  rw [Bool.eq_iff_iff,flo_iff,turns_iff r1 r2 r3 r4 r5]
  constructor
  · intro h
    refine ⟨fun c hc=>?_,fun c hc=>?_⟩
    · have h1:=h c
      rw [sl_S (fun x=>d2 c hc x) (fun x=>d1 c hc x) hc] at h1
      rcases sl_cases oS oI oO c with ⟨_,k⟩|⟨_,_,k⟩|⟨_,_,k,_⟩|⟨_,_,_,k⟩
      · omega
      · omega
      · exact k
      · omega
    · have h1:=h c
      rw [sl_I (fun x=>e3 c hc x) hc] at h1
      rcases sl_cases tS tI tO c with ⟨k,_⟩|⟨_,k,_⟩|⟨_,_,_,k⟩|⟨_,_,_,k⟩
      · exact Or.inr k
      · exact Or.inl k
      · omega
      · omega
  · rintro ⟨h1,h2⟩ c
    rcases sl_cases tS tI tO c with ⟨_,k⟩|⟨k1,k2,k⟩|⟨k1,k2,k3,k⟩|⟨k1,k2,k3,k⟩ <;>
      rcases sl_cases oS oI oO c with ⟨m1,m⟩|⟨m1,m2,m⟩|⟨m1,m2,m3,m⟩|⟨m1,m2,m3,m⟩ <;>
      first
        | omega
        | exact absurd (hs c m1) k1
        | exact absurd (h1 c k3) m3
        | (rcases h2 c m2 with z|z
           · exact absurd z k2
           · exact absurd z k1)
        | exact (e1 c (h1 c k3) m2).elim
theorem sees_see {tS tI tO oS oI : List Int} (ht : may tS tI tO = true) (ho : R oS) (ho' : R oI) (hd : ∀ c,c ∈ oS → c ∈ oI → False) : see tS tI tO oS oI [] = sees tS tI tO oS oI:=by
  obtain ⟨r1,r2,r3⟩:=may_R ht
  obtain ⟨d1,d2,d3⟩:=may_three ht
  rw [Bool.eq_iff_iff,see_iff,sees_iff r1 r2 r3 ho ho']
  constructor
  · intro h
    refine ⟨fun c hc=>?_,fun c hc=>?_⟩
    · have h1:=h c
      rw [sl_S (by simp) (fun x=>hd c hc x) hc] at h1
      unfold rs at h1
      rcases sl_cases tS tI tO c with ⟨k,_⟩|⟨_,_,k⟩|⟨_,_,k,_⟩|⟨_,_,_,k⟩
      · exact Or.inr k
      · rw [k] at h1;simp at h1
      · exact Or.inl k
      · rw [k] at h1;simp at h1
    · have h1:=h c
      rw [sl_I (fun x=>d3 c hc x) hc] at h1
      unfold rs at h1
      rcases sl_cases oS oI [] c with ⟨k,_⟩|⟨_,k,_⟩|⟨_,_,_,k⟩|⟨_,_,_,k⟩
      · cases k
      · exact k
      · rw [k] at h1;simp at h1
      · rw [k] at h1;simp at h1
  · rintro ⟨h1,h2⟩ c
    rcases sl_cases tS tI tO c with ⟨_,k⟩|⟨k1,k2,k⟩|⟨k1,k2,k3,k⟩|⟨k1,k2,k3,k⟩ <;>
      rcases sl_cases oS oI [] c with ⟨m1,m⟩|⟨m1,m2,m⟩|⟨m1,m2,m3,m⟩|⟨m1,m2,m3,m⟩ <;>
      rw [k,m] <;>
      first
        | decide
        | exact absurd (h2 c k2) m2
        | (rcases h1 c m3 with z|z
           · first|exact absurd z k3|exact (d1 c z k2).elim
           · exact absurd z k1)

theorem May2All : transomlaw10_May2All.Pure:=by
  intro tS tI tO oS oI oO ⟨_,h1,_⟩ ⟨_,h2,_⟩ ⟨_,h3,_⟩ ⟨_,h4,_⟩ ⟨_,h5,_⟩ ⟨_,h6,_⟩
  refine Cm.ex (F:=fun k=>transomlaw10_May2All.f k tS tI tO oS oI oO) ?_
  have j0t : Cm (fun k=>transomlaw10_May2All.j0 k true tS tI tO oS oI oO) true:=Cm.step (fun _=>transomlaw10_May2All.j0.eq_2 ..) (Cm.pos rfl (Cm.here _))
  refine Cm.bind begun10_cm (Cm.pos rfl (Cm.bind (rMay_cm tS tI tO (by omega) (by omega) (by omega)) (Cm.ite (fun ht=>Cm.bind (rMay_cm oS oI oO (by omega) (by omega) (by omega)) ?_) (fun _=>j0t))))
  cases ho : may oS oI oO with
  | false=>exact j0t
  | true =>
    obtain ⟨r1,r2,r3⟩:=may_R ht
    obtain ⟨r4,r5,r6⟩:=may_R ho
    obtain ⟨e1,e2,e3⟩:=may_three ho
    have eR : rises tS tI tO oS oI oO = (if (lvs (mkl 2 (bk oS oI oO)) 0).all (fun c=>decide (c ∈ tO)) = true then (if flo tS tI tO oS oI oO = true then 0 else 6) else 5):=by
      unfold rises
      by_cases hs : ∀ c ∈ oO,c ∈ tO
      · rw [if_pos ((le_nil r6.1 r3.1).2 hs),if_pos (List.all_eq_true.2 fun c hc=>decide_eq_true (hs c ((lvs_bk0 oS oI oO c).1 hc))),turns_flo ht ho hs]
      · rw [if_neg (fun h=>hs ((le_nil r6.1 r3.1).1 h)),if_neg (fun h=>hs fun c hc=>of_decide_eq_true (List.all_eq_true.1 h c ((lvs_bk0 oS oI oO c).2 hc)))]
    have eM : makes tS tI tO oS oI oO = (if oO = [] then (if flo tS tI tO oS oI oO = true then 0 else 6) else 5):=by
      unfold makes
      by_cases hz : oO = []
      · rw [if_pos hz,if_pos hz,turns_flo ht ho (by rw [hz];intro c hc;cases hc)]
      · rw [if_neg hz,if_neg hz]
    have mo : may oS oI [] = true:=by
      simp only [may,Bool.and_eq_true,decide_eq_true_eq] at ho ⊢
      have hu:=un_len (un oS oI) oO
      have hv:=un_len oS oI
      have e : un (un oS oI) [] = un oS oI:=asc_ext (un_asc (un_asc r4.1 r5.1) List.Pairwise.nil) (un_asc r4.1 r5.1) fun x=>by rw [un_mem (un_asc r4.1 r5.1) List.Pairwise.nil];simp
      rw [e]
      refine ⟨⟨⟨⟨ho.1.1.1.1,ho.1.1.1.2⟩,rfl,by simp⟩,by simp;omega⟩,by simp;omega⟩
    have eS:=sees_see ht r4 r5 e1
    have eT:=turns_flo ht mo (by intro c hc;cases hc)
    refine Cm.step (fun _=>transomlaw10_May2All.j0.eq_2 ..) (Cm.neg (by simp) (Cm.bind (Rises_cm r1 r2 r3 r4 r5 r6) (Cm.bind ((Rises2_cm r1 r2 r3 r4 r5 r6).of eR.symm) (Cm.pos rfl (Cm.bind (Makes_cm oO r1 r2 r3 r4 r5) (Cm.bind ((Makes2_cm r1 r2 r3 r4 r5 r6).of eM.symm) ?_))))))
    rw [bne_self_eq_false]
    exact Cm.step (fun _=>transomlaw10_May2All.j1.eq_2 ..) (Cm.neg (by simp) (Cm.bind (Sees_cm [] r1 r2 r3 r4 r5) (Cm.bind ((Sees2_cm r1 r2 r3 r4 r5 R_nil).of eS) (Cm.pos (by simp) (Cm.bind (Turns_cm [] r1 r2 r3 r4 r5) (Cm.bind ((Turns2_cm r1 r2 r3 r4 r5 R_nil).of eT) (Cm.eq (by simp))))))))
end Go.Proofs.Ytfgndnackofenaa.Pure
