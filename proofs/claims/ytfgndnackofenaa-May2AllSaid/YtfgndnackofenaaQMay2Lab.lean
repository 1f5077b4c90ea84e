/-
  The document's answer to may2,by levels: what a label of sets says of each category. No condition but that the sets may be.
-/
import Derived.Test.YtfgndnackofenaaQLab
import Derived.Test.YtfgndnackofenaaQMay2
import Derived.Test.YtfgndnackofenaaPMx10
import Derived.Test.YtfgndnackofenaaPMx12
import Derived.Test.YtfgndnackofenaaPMx13
import Derived.Test.YtfgndnackofenaaPMx14
namespace Go.Proofs.Ytfgndnackofenaa.PM
open Go Go.RowKit Go.Proofs.YtfgndnackofenaaW.PrintWords Go.Proofs.YtfgndnackofenaaW.PJ

def prs (v : Int) (l : List Int) : List Pr:=l.map fun c=>⟨c,v⟩
theorem prs_len (v : Int) (l : List Int) : (prs v l).length = l.length:=by simp [prs]
def bk (S I O : List Int) : List Pr:=prs 4 S ++ prs 1 I ++ prs 0 O
theorem bk_len (S I O : List Int) : (bk S I O).length = S.length + I.length + O.length:=by simp [bk,prs_len];omega

theorem Back_l2 (S I O : List Int) (hO : O.length < 1000) : ∀ (n j : Nat) (acc : List Pr),O.length - j ≤ n → acc.length + (O.length - j) < 100000 →
    Cm (fun k=>transomref8_Back.l2 k acc (j : Int) S I O) (2,mkl 2 (acc ++ prs 0 (O.drop j)))
  | 0,j,acc,hn,hl=>by
    refine Cm.step (fun _=>transomref8_Back.l2.eq_2 ..) (Cm.neg (by omega) (Cm.bind (MakeLabel_cm 2 acc (by omega)) ?_))
    rw [List.drop_eq_nil_of_le (by omega)]
    exact Cm.eq (by simp [prs])
  | n + 1,j,acc,hn,hl=>by
    by_cases h : j < O.length
    · have hu:=wup j (by omega)
      refine Cm.step (fun _=>transomref8_Back.l2.eq_2 ..) (Cm.pos (by omega) (Cm.pos (by omega) (Cm.pos (by omega) ?_)))
      rw [hu,rd_at O j h]
      clear hu
      refine (Back_l2 S I O hO n (j + 1) _ (by omega) (by simp;omega)).of ?_
      rw [List.drop_eq_getElem_cons h]
      simp only [prs,List.map_cons,List.append_assoc,List.singleton_append]
    · refine Cm.step (fun _=>transomref8_Back.l2.eq_2 ..) (Cm.neg (by omega) (Cm.bind (MakeLabel_cm 2 acc (by omega)) ?_))
      rw [List.drop_eq_nil_of_le (by omega)]
      exact Cm.eq (by simp [prs])
theorem Back_l1 (S I O : List Int) (hI : I.length < 1000) (hO : O.length < 1000) : ∀ (n j : Nat) (acc : List Pr),I.length - j ≤ n → acc.length + (I.length - j) < 50000 →
    Cm (fun k=>transomref8_Back.l1 k acc (j : Int) S I O) (2,mkl 2 (acc ++ prs 1 (I.drop j) ++ prs 0 O))
  | 0,j,acc,hn,hl=>by
    refine Cm.step (fun _=>transomref8_Back.l1.eq_2 ..) (Cm.neg (by omega) ((Back_l2 S I O hO _ 0 acc (Nat.le_refl _) (by omega)).of ?_))
    rw [List.drop_eq_nil_of_le (by omega : I.length ≤ j)]
    simp [prs]
  | n + 1,j,acc,hn,hl=>by
    by_cases h : j < I.length
    · have hu:=wup j (by omega)
      refine Cm.step (fun _=>transomref8_Back.l1.eq_2 ..) (Cm.pos (by omega) (Cm.pos (by omega) (Cm.pos (by omega) ?_)))
      rw [hu,rd_at I j h]
      clear hu
      refine (Back_l1 S I O hI hO n (j + 1) _ (by omega) (by simp;omega)).of ?_
      rw [List.drop_eq_getElem_cons h]
      simp only [prs,List.map_cons,List.append_assoc,List.nil_append,List.cons_append]
    · refine Cm.step (fun _=>transomref8_Back.l1.eq_2 ..) (Cm.neg (by omega) ((Back_l2 S I O hO _ 0 acc (Nat.le_refl _) (by omega)).of ?_))
      rw [List.drop_eq_nil_of_le (by omega : I.length ≤ j)]
      simp [prs]
theorem Back_l0 (S I O : List Int) (hS : S.length < 1000) (hI : I.length < 1000) (hO : O.length < 1000) : ∀ (n j : Nat) (acc : List Pr),S.length - j ≤ n → acc.length + (S.length - j) < 20000 →
    Cm (fun k=>transomref8_Back.l0 k acc (j : Int) S I O) (2,mkl 2 (acc ++ prs 4 (S.drop j) ++ prs 1 I ++ prs 0 O))
  | 0,j,acc,hn,hl=>by
    refine Cm.step (fun _=>transomref8_Back.l0.eq_2 ..) (Cm.neg (by omega) ((Back_l1 S I O hI hO _ 0 acc (Nat.le_refl _) (by omega)).of ?_))
    rw [List.drop_eq_nil_of_le (by omega : S.length ≤ j)]
    simp [prs]
  | n + 1,j,acc,hn,hl=>by
    by_cases h : j < S.length
    · have hu:=wup j (by omega)
      refine Cm.step (fun _=>transomref8_Back.l0.eq_2 ..) (Cm.pos (by omega) (Cm.pos (by omega) (Cm.pos (by omega) ?_)))
      rw [hu,rd_at S j h]
      clear hu
      refine (Back_l0 S I O hS hI hO n (j + 1) _ (by omega) (by simp;omega)).of ?_
      rw [List.drop_eq_getElem_cons h]
      simp only [prs,List.map_cons,List.append_assoc,List.nil_append,List.cons_append]
    · refine Cm.step (fun _=>transomref8_Back.l0.eq_2 ..) (Cm.neg (by omega) ((Back_l1 S I O hI hO _ 0 acc (Nat.le_refl _) (by omega)).of ?_))
      rw [List.drop_eq_nil_of_le (by omega : S.length ≤ j)]
      simp [prs]
theorem Back_cm (S I O : List Int) (hS : S.length < 1000) (hI : I.length < 1000) (hO : O.length < 1000) : Cm (fun k=>transomref8_Back.f k S I O) (2,mkl 2 (bk S I O)) :=
  (Back_l0 S I O hS hI hO _ 0 [] (Nat.le_refl _) (by simp;omega)).of (by simp [bk])

theorem lvl_app (c d : Int) (l m : List Pr) : lvl d (l ++ m) c = lvl (lvl d l c) m c:=by simp [lvl,List.foldl_append]
theorem lvl_prs (c v : Int) : ∀ (l : List Int) (d : Int),lvl d (prs v l) c = if c ∈ l then v else d
  | [],d=>rfl
  | x :: l,d=>by
    have ih:=lvl_prs c v l (if x = c then v else d)
    show lvl (if x = c then v else d) (prs v l) c = _
    rw [ih]
    by_cases h : c ∈ l
    · simp [h]
    · by_cases hx : x = c
      · simp [hx]
      · have : ¬ c = x:=fun e=>hx e.symm
        simp [h,hx,this]
/-- The level that sets say of a category. -/
def sl_ (S I O : List Int) (c : Int) : Int:=if c ∈ O then 0 else if c ∈ I then 1 else if c ∈ S then 4 else 2
theorem at_bk (S I O : List Int) (c : Int) : at_ 2 (mkl 2 (bk S I O)) c = sl_ S I O c:=by
  rw [at_mkl]
  unfold bk sl_
  rw [lvl_app,lvl_app,lvl_prs,lvl_prs,lvl_prs]
theorem lvs_mem (d v : Int) (l : List Pr) (hv : v ≠ d) (c : Int) : c ∈ lvs (mkl d l) v ↔ lvl d l c = v:=by
  unfold lvs mkl
  simp only [List.mem_map,List.mem_filter,List.mem_filterMap,beq_iff_eq]
  constructor
  · rintro ⟨p,⟨⟨x,_,hx⟩,hp⟩,rfl⟩
    split at hx
    · cases hx
    · have hx:=Option.some.inj hx
      subst hx
      exact hp
  · intro h
    refine ⟨⟨c,lvl d l c⟩,⟨⟨c,?_,by rw [if_neg (by rw [h];exact hv)]⟩,h⟩,rfl⟩
    rw [mk_mem]
    by_cases hc : c ∈ cs l
    · exact Or.inr hc
    · exact absurd (lvl_not c l d hc) (by rw [h];exact hv)
theorem lvl_made (d c : Int) (h : Int → Int) (r : Int → Int) : ∀ (C : List Int) (x : Int),lvl x (C.filterMap fun y=>if h y = d then none else some (⟨y,r (h y)⟩ : Pr)) c = if c ∈ C ∧ h c ≠ d then r (h c) else x
  | [],x=>by simp [lvl]
  | y :: C,x=>by
    by_cases hy : h y = d
    · rw [List.filterMap_cons_none (by rw [if_pos hy]),lvl_made d c h r C x]
      by_cases hc : c = y
      · subst hc;simp [hy]
      · simp [hc]
    · rw [List.filterMap_cons_some (by rw [if_neg hy])]
      show lvl (if y = c then r (h y) else x) _ c = _
      rw [lvl_made d c h r C]
      by_cases hc : y = c
      · subst hc;simp [hy]
      · have : ¬ c = y:=fun e=>hc e.symm
        simp [hc,this]
def rs (v : Int) : Int:=if v = 0 then 5 else v
def rise_ (l : List Pr) : List Pr:=l.map fun p=>⟨p.f0,rs p.f1⟩
theorem rise_made (d : Int) (l : List Pr) : rise_ (mkl d l) = (mk (cs l) []).filterMap fun y=>if lvl d l y = d then none else some (⟨y,rs (lvl d l y)⟩ : Pr):=by
  unfold rise_ mkl
  rw [List.map_filterMap]
  congr 1
  funext y
  split <;> rfl
theorem at_rise (d : Int) (l : List Pr) (c : Int) (hd : rs d = d) : at_ d (mkl d (rise_ (mkl d l))) c = rs (lvl d l c):=by
  rw [at_mkl,rise_made,lvl_made d c (lvl d l) rs]
  by_cases h : lvl d l c = d
  · rw [if_neg (by simp [h]),h,hd]
  · have hc : c ∈ mk (cs l) []:=by
      rw [mk_mem]
      by_cases hc : c ∈ cs l
      · exact Or.inr hc
      · exact absurd (lvl_not c l d hc) h
    rw [if_pos ⟨hc,h⟩]
theorem Rise_cm (v : Int) : Cm (fun _=>transomref1_Rise.f v) (rs v):=by
  unfold rs
  exact Cm.ite (fun h=>Cm.eq (by rw [if_pos h])) (fun h=>Cm.eq (by rw [if_neg h]))
theorem RiseAll_l0 (P : List Pr) (d : Int) (hP : P.length < 100000) : ∀ (n j : Nat) (acc : List Pr),P.length - j ≤ n → acc.length + (P.length - j) < 200000 →
    Cm (fun k=>transomref1_RiseAll.l0 k acc (j : Int) d P) (rs d,mkl (rs d) (acc ++ rise_ (P.drop j)))
  | 0,j,acc,hn,hl=>by
    refine Cm.step (fun _=>transomref1_RiseAll.l0.eq_2 ..) (Cm.neg (by omega) (Cm.bind (Rise_cm d) (Cm.bind (MakeLabel_cm (rs d) acc (by omega)) ?_)))
    rw [List.drop_eq_nil_of_le (by omega)]
    exact Cm.eq (by simp [rise_])
  | n + 1,j,acc,hn,hl=>by
    by_cases h : j < P.length
    · have hu:=wup j (by omega)
      refine Cm.step (fun _=>transomref1_RiseAll.l0.eq_2 ..) (Cm.pos (by omega) (Cm.pos (by omega) ?_))
      rw [hu,rdT P j h]
      clear hu
      refine Cm.bind (Rise_cm _) (Cm.pos (by omega) ((RiseAll_l0 P d hP n (j + 1) _ (by omega) (by simp;omega)).of ?_))
      rw [List.drop_eq_getElem_cons h]
      simp only [rise_,List.map_cons,List.append_assoc,List.nil_append,List.cons_append]
    · refine Cm.step (fun _=>transomref1_RiseAll.l0.eq_2 ..) (Cm.neg (by omega) (Cm.bind (Rise_cm d) (Cm.bind (MakeLabel_cm (rs d) acc (by omega)) ?_)))
      rw [List.drop_eq_nil_of_le (by omega)]
      exact Cm.eq (by simp [rise_])
theorem RiseAll_cm (P : List Pr) (d : Int) (hP : P.length < 100000) : Cm (fun k=>transomref1_RiseAll.f k d P) (rs d,mkl (rs d) (rise_ P)) :=
  (RiseAll_l0 P d hP _ 0 [] (Nat.le_refl _) (by simp;omega)).of (by simp)

theorem bk_small {S I O : List Int} (hS : R S) (hI : R I) (hO : R O) : (mkl 2 (bk S I O)).length < 1000:=by
  have h1:=mkl_len 2 (bk S I O)
  have h2:=bk_len S I O
  have:=hS.2
  have:=hI.2
  have:=hO.2
  omega
theorem lvl_bk (S I O : List Int) (c : Int) : lvl 2 (bk S I O) c = sl_ S I O c:=by rw [← at_mkl,at_bk]
theorem lvs_bk3 (S I O : List Int) : lvs (mkl 2 (bk S I O)) 3 = []:=by
  refine List.eq_nil_iff_forall_not_mem.2 fun c hc=>?_
  rw [lvs_mem 2 3 _ (by decide),lvl_bk] at hc
  unfold sl_ at hc
  split at hc
  · omega
  · split at hc
    · omega
    · split at hc <;> omega
theorem lvs_bk0 (S I O : List Int) (c : Int) : c ∈ lvs (mkl 2 (bk S I O)) 0 ↔ c ∈ O:=by
  rw [lvs_mem 2 0 _ (by decide),lvl_bk]
  unfold sl_
  constructor
  · intro h
    split at h
    · assumption
    · split at h
      · omega
      · split at h <;> omega
  · intro h;rw [if_pos h]
theorem Names_cm {S I O : List Int} (hS : R S) (hI : R I) (hO : R O) : Cm (fun k=>transomref8_Names.f k 2 (mkl 2 (bk S I O))) true:=by
  have:=bk_small hS hI hO
  refine Cm.pos rfl (Cm.bind ((Levels_cm _ 2 3 (by omega)).of (lvs_bk3 S I O)) (Cm.eq rfl))
def flo (tS tI tO oS oI oO : List Int) : Bool:=lfl 2 (mkl 2 (bk tS tI tO)) 2 (mkl 2 (bk oS oI oO))
theorem flo_iff (tS tI tO oS oI oO : List Int) : flo tS tI tO oS oI oO = true ↔ ∀ c,sl_ tS tI tO c ≤ sl_ oS oI oO c:=by
  unfold flo
  rw [lfl_iff]
  simp only [at_bk]
  exact ⟨fun h=>h.1,fun h=>⟨h,Int.le_refl _⟩⟩
theorem flo_cm {tS tI tO oS oI oO : List Int} (h1 : R tS) (h2 : R tI) (h3 : R tO) (h4 : R oS) (h5 : R oI) (h6 : R oO) :
    Cm (fun k=>transomref1_Flows.f k 2 (mkl 2 (bk tS tI tO)) 2 (mkl 2 (bk oS oI oO))) (flo tS tI tO oS oI oO):=by
  have:=bk_small h1 h2 h3
  have:=bk_small h4 h5 h6
  exact LFlows_cm _ _ 2 2 (by omega) (by omega)
theorem Rises_l0 {tS tI tO oS oI oO : List Int} (h1 : R tS) (h2 : R tI) (h3 : R tO) (h4 : R oS) (h5 : R oI) (h6 : R oO) (L : List Int) (hL : L.length < 1000000) : ∀ (n j : Nat),L.length - j ≤ n →
    Cm (fun k=>transomref8_Rises.l0 k L (j : Int) 2 (mkl 2 (bk tS tI tO)) 2 (mkl 2 (bk oS oI oO))) (if (L.drop j).all (fun c=>decide (c ∈ tO)) = true then (if flo tS tI tO oS oI oO = true then 0 else 6) else 5):=by
  have hs:=bk_small h1 h2 h3
  have last : ∀ j : Nat,¬ j < L.length → Cm (fun k=>transomref8_Rises.l0 k L (j : Int) 2 (mkl 2 (bk tS tI tO)) 2 (mkl 2 (bk oS oI oO))) (if (L.drop j).all (fun c=>decide (c ∈ tO)) = true then (if flo tS tI tO oS oI oO = true then 0 else 6) else 5):=by
    intro j hj
    rw [List.drop_eq_nil_of_le (by omega),List.all_nil,if_pos rfl]
    refine Cm.step (fun _=>transomref8_Rises.l0.eq_2 ..) (Cm.neg (by omega) (Cm.bind (flo_cm h1 h2 h3 h4 h5 h6) (Cm.ite (fun h=>Cm.eq ?_) (fun h=>Cm.eq ?_))))
    · rw [if_pos h]
    · rw [if_neg h]
  intro n
  induction n with
  | zero=>intro j hn;exact last j (by omega)
  | succ n ih =>
    intro j hn
    by_cases h : j < L.length
    · have hu:=wup j (by omega)
      refine Cm.step (fun _=>transomref8_Rises.l0.eq_2 ..) (Cm.pos (by omega) (Cm.pos (by omega) ?_))
      rw [hu,rd_at L j h,List.drop_eq_getElem_cons h,List.all_cons]
      clear hu
      refine Cm.bind ((At_cm _ 2 L[j] (by omega)).of (at_bk tS tI tO L[j])) (Cm.ite (fun h7=>?_) (fun h7=>Cm.eq ?_))
      · have hm : L[j] ∈ tO:=by
          unfold sl_ at h7
          split at h7
          · assumption
          · split at h7
            · omega
            · split at h7 <;> omega
        rw [decide_eq_true hm,Bool.true_and]
        exact ih (j + 1) (by omega)
      · have hm : L[j] ∉ tO:=fun hm=>h7 (by unfold sl_;rw [if_pos hm])
        rw [decide_eq_false hm,Bool.false_and,if_neg (by simp)]
    · exact last j h
theorem Rises2_cm {tS tI tO oS oI oO : List Int} (h1 : R tS) (h2 : R tI) (h3 : R tO) (h4 : R oS) (h5 : R oI) (h6 : R oO) :
    Cm (fun k=>transomref8_Rises2.f k tS tI tO oS oI oO) (if (lvs (mkl 2 (bk oS oI oO)) 0).all (fun c=>decide (c ∈ tO)) = true then (if flo tS tI tO oS oI oO = true then 0 else 6) else 5):=by
  have hs:=bk_small h4 h5 h6
  have hv : (lvs (mkl 2 (bk oS oI oO)) 0).length ≤ (mkl 2 (bk oS oI oO)).length:=by unfold lvs;rw [List.length_map];exact List.length_filter_le _ _
  refine Cm.bind (Back_cm tS tI tO (R_lt h1) (R_lt h2) (R_lt h3)) (Cm.bind (Back_cm oS oI oO (R_lt h4) (R_lt h5) (R_lt h6)) (Cm.bind ?_ (Cm.here _)))
  refine Cm.bind (Names_cm h4 h5 h6) (Cm.pos rfl (Cm.bind (Levels_cm _ 2 0 (by simp only;omega)) ?_))
  exact Rises_l0 h1 h2 h3 h4 h5 h6 _ (by simp only;omega) _ 0 (Nat.le_refl _)
theorem Makes2_cm {tS tI tO oS oI oO : List Int} (h1 : R tS) (h2 : R tI) (h3 : R tO) (h4 : R oS) (h5 : R oI) (h6 : R oO) :
    Cm (fun k=>transomref8_Makes2.f k tS tI tO oS oI oO) (if oO = [] then (if flo tS tI tO oS oI oO = true then 0 else 6) else 5):=by
  have hs:=bk_small h4 h5 h6
  have hz : oO = [] ↔ lvs (mkl 2 (bk oS oI oO)) 0 = []:=by
    rw [List.eq_nil_iff_forall_not_mem,List.eq_nil_iff_forall_not_mem]
    simp only [lvs_bk0]
  refine Cm.bind (Back_cm tS tI tO (R_lt h1) (R_lt h2) (R_lt h3)) (Cm.bind (Back_cm oS oI oO (R_lt h4) (R_lt h5) (R_lt h6)) (Cm.bind ?_ (Cm.here _)))
  refine Cm.bind (Names_cm h4 h5 h6) (Cm.pos rfl (Cm.bind (Levels_cm _ 2 0 (by simp only;omega)) (Cm.ite (fun h=>Cm.eq ?_) (fun h=>Cm.bind (flo_cm h1 h2 h3 h4 h5 h6) (Cm.ite (fun h'=>Cm.eq ?_) (fun h'=>Cm.eq ?_))))))
  · rw [if_neg (fun e=>by rw [hz.1 e] at h;simp at h)]
  · rw [if_pos (hz.2 (List.eq_nil_of_length_eq_zero (by simp only at h;omega))),if_pos h']
  · rw [if_pos (hz.2 (List.eq_nil_of_length_eq_zero (by simp only at h;omega))),if_neg h']
theorem Turns2_cm {tS tI tO oS oI oO : List Int} (h1 : R tS) (h2 : R tI) (h3 : R tO) (h4 : R oS) (h5 : R oI) (h6 : R oO) :
    Cm (fun k=>transomref8_Turns2.f k tS tI tO oS oI oO) (flo tS tI tO oS oI oO) :=
  Cm.bind (Back_cm tS tI tO (R_lt h1) (R_lt h2) (R_lt h3)) (Cm.bind (Back_cm oS oI oO (R_lt h4) (R_lt h5) (R_lt h6)) (Cm.bind (Cm.bind (flo_cm h1 h2 h3 h4 h5 h6) (Cm.here _)) (Cm.here _)))
def see (tS tI tO oS oI oO : List Int) : Bool:=lfl 2 (mkl 2 (bk oS oI oO)) (rs 2) (mkl (rs 2) (rise_ (mkl 2 (bk tS tI tO))))
theorem see_iff (tS tI tO oS oI oO : List Int) : see tS tI tO oS oI oO = true ↔ ∀ c,sl_ oS oI oO c ≤ rs (sl_ tS tI tO c):=by
  unfold see
  rw [lfl_iff]
  have e : rs 2 = 2:=by decide
  simp only [e,at_bk,at_rise 2 _ _ e,lvl_bk]
  exact ⟨fun h=>h.1,fun h=>⟨h,Int.le_refl _⟩⟩
theorem Sees2_cm {tS tI tO oS oI oO : List Int} (h1 : R tS) (h2 : R tI) (h3 : R tO) (h4 : R oS) (h5 : R oI) (h6 : R oO) :
    Cm (fun k=>transomref8_Sees2.f k tS tI tO oS oI oO) (see tS tI tO oS oI oO):=by
  have hs:=bk_small h1 h2 h3
  have ho:=bk_small h4 h5 h6
  have hr : (rise_ (mkl 2 (bk tS tI tO))).length = (mkl 2 (bk tS tI tO)).length:=by simp [rise_]
  have hm:=mkl_len (rs 2) (rise_ (mkl 2 (bk tS tI tO)))
  exact Cm.bind (Back_cm tS tI tO (R_lt h1) (R_lt h2) (R_lt h3)) (Cm.bind (Back_cm oS oI oO (R_lt h4) (R_lt h5) (R_lt h6)) (Cm.bind (Cm.bind (RiseAll_cm _ 2 (by simp only;omega)) (Cm.bind (LFlows_cm _ _ 2 (rs 2) (by simp only;omega) (by simp only;omega)) (Cm.here _))) (Cm.here _)))
end Go.Proofs.Ytfgndnackofenaa.PM
