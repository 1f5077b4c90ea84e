/-
  What the document's answer does with labels: cats,MakeLabel,At,Flows,Levels. No condition but lengths.
-/
import Derived.Test.YtfgndnackofenaaQRef
import Derived.Test.YtfgndnackofenaaXUn
import Derived.Test.YtfgndnackofenaaPMx10
import Derived.Test.YtfgndnackofenaaPMx11
import Derived.Test.YtfgndnackofenaaPMx9
namespace Go.Proofs.Ytfgndnackofenaa.PM
open Go Go.RowKit Go.Proofs.YtfgndnackofenaaW.PrintWords Go.Proofs.YtfgndnackofenaaW.PJ

abbrev Pr:=S61
theorem rdT (xs : List Pr) (i : Nat) (h : i < xs.length) : rd_T61 xs (i : Int) = xs[i]:=by
  unfold rd_T61;simp [List.getD_eq_getElem?_getD,h]
def lvl (d : Int) (l : List Pr) (c : Int) : Int:=l.foldl (fun v p=>if p.f0 = c then p.f1 else v) d
def cs (l : List Pr) : List Int:=l.map fun p=>p.f0
def mkl (d : Int) (l : List Pr) : List Pr:=(mk (cs l) []).filterMap fun c=>if lvl d l c = d then none else some ⟨c,lvl d l c⟩
def at_ (d : Int) (l : List Pr) (c : Int) : Int:=match l.find? (fun p=>p.f0 == c) with|some p=>p.f1|none=>d
theorem lvl_not (c : Int) : ∀ (l : List Pr) (d : Int),c ∉ cs l → lvl d l c = d
  | [],d,_=>rfl
  | p :: l,d,h=>by
    simp only [cs,List.map_cons,List.mem_cons,not_or] at h
    have h1 : ¬ p.f0 = c:=fun e=>h.1 e.symm
    simp only [lvl,List.foldl_cons,if_neg h1]
    exact lvl_not c l d h.2
theorem at_mkl (d : Int) (l : List Pr) (c : Int) : at_ d (mkl d l) c = lvl d l c:=by
  unfold at_
  cases hf : (mkl d l).find? (fun p=>p.f0 == c) with
  | some p =>
    have h1:=List.find?_some hf
    have h2:=List.mem_of_find?_eq_some hf
    have h1 : p.f0 = c:=by simpa using h1
    unfold mkl at h2
    obtain ⟨x,_,hx⟩:=List.mem_filterMap.1 h2
    split at hx
    · cases hx
    · have hx:=Option.some.inj hx
      subst hx
      subst h1
      rfl
  | none =>
    have h1:=List.find?_eq_none.1 hf
    by_cases hc : c ∈ cs l
    · by_cases hv : lvl d l c = d
      · exact hv.symm
      · exfalso
        refine h1 ⟨c,lvl d l c⟩ ?_ (by simp)
        unfold mkl
        exact List.mem_filterMap.2 ⟨c,(mk_mem c (cs l) []).2 (Or.inr hc),by rw [if_neg hv]⟩
    · exact (lvl_not c l d hc).symm
theorem mkl_len (d : Int) (l : List Pr) : (mkl d l).length ≤ l.length:=by
  have h1:=List.length_filterMap_le (fun c=>if lvl d l c = d then none else some (⟨c,lvl d l c⟩ : Pr)) (mk (cs l) [])
  have h2:=mk_len (cs l) []
  have h3 : (cs l).length = l.length:=by simp [cs]
  simp only [List.length_nil,Nat.zero_add] at h2
  unfold mkl
  omega
theorem cs_len (l : List Pr) : (cs l).length = l.length:=by simp [cs]

theorem cats_l1 (Q : List Pr) (a : Int) (hQ : Q.length < 1000000) : ∀ (n j : Nat) (acc : List Int),Q.length - j ≤ n → acc.length + (Q.length - j) < 3000000 →
    Cm (fun k=>transomref1_cats.l1 k acc (j : Int) a Q) (mk (acc ++ (Q.drop j).map fun p=>p.f0) [])
  | 0,j,acc,hn,hl=>by
    refine Cm.step (fun _=>transomref1_cats.l1.eq_2 ..) (Cm.neg (by omega) (Cm.bind (Make_cm acc (by omega)) ?_))
    rw [List.drop_eq_nil_of_le (by omega)]
    exact Cm.eq (by simp)
  | n + 1,j,acc,hn,hl=>by
    by_cases h : j < Q.length
    · have hu:=wup j (by omega)
      refine Cm.step (fun _=>transomref1_cats.l1.eq_2 ..) (Cm.pos (by omega) (Cm.pos (by omega) (Cm.pos (by omega) ?_)))
      rw [hu,rdT Q j h]
      clear hu
      refine (cats_l1 Q a hQ n (j + 1) _ (by omega) (by simp;omega)).of ?_
      rw [List.drop_eq_getElem_cons h,List.map_cons,List.append_assoc]
      rfl
    · refine Cm.step (fun _=>transomref1_cats.l1.eq_2 ..) (Cm.neg (by omega) (Cm.bind (Make_cm acc (by omega)) ?_))
      rw [List.drop_eq_nil_of_le (by omega)]
      exact Cm.eq (by simp)
theorem cats_l0 (P Q : List Pr) (a b : Int) (hP : P.length < 1000000) (hQ : Q.length < 1000000) : ∀ (n j : Nat) (acc : List Int),P.length - j ≤ n → acc.length + (P.length - j) < 2000000 →
    Cm (fun k=>transomref1_cats.l0 k acc (j : Int) a P b Q) (mk ((acc ++ (P.drop j).map fun p=>p.f0) ++ cs Q) [])
  | 0,j,acc,hn,hl=>by
    refine Cm.step (fun _=>transomref1_cats.l0.eq_2 ..) (Cm.neg (by omega) ?_)
    rw [List.drop_eq_nil_of_le (by omega)]
    exact (cats_l1 Q b hQ _ 0 acc (Nat.le_refl _) (by omega)).of (by simp [cs])
  | n + 1,j,acc,hn,hl=>by
    by_cases h : j < P.length
    · have hu:=wup j (by omega)
      refine Cm.step (fun _=>transomref1_cats.l0.eq_2 ..) (Cm.pos (by omega) (Cm.pos (by omega) (Cm.pos (by omega) ?_)))
      rw [hu,rdT P j h]
      clear hu
      refine (cats_l0 P Q a b hP hQ n (j + 1) _ (by omega) (by simp;omega)).of ?_
      rw [List.drop_eq_getElem_cons h,List.map_cons,List.append_assoc acc]
      rfl
    · refine Cm.step (fun _=>transomref1_cats.l0.eq_2 ..) (Cm.neg (by omega) ?_)
      rw [List.drop_eq_nil_of_le (by omega)]
      exact (cats_l1 Q b hQ _ 0 acc (Nat.le_refl _) (by omega)).of (by simp [cs])
theorem Lcats_cm (P Q : List Pr) (a b : Int) (hP : P.length < 1000000) (hQ : Q.length < 1000000) : Cm (fun k=>transomref1_cats.f k a P b Q) (mk (cs P ++ cs Q) []) :=
  (cats_l0 P Q a b hP hQ _ 0 [] (Nat.le_refl _) (by simp;omega)).of (by simp [cs])

theorem ML_l1 (d : Int) (l : List Pr) (hl : l.length < 1000000) (C : List Int) (hC : C.length < 1000000) (i : Nat) (hi : i < C.length) (e : Int) (out : List Pr) (ho : out.length < 2000000) (v : Int × List Pr)
    (h0 : Cm (fun k=>transomref1_MakeLabel.l0 k d l C ((i + 1 : Nat) : Int) e (if lvl d l C[i] = d then out else out ++ [⟨C[i],lvl d l C[i]⟩])) v) :
    ∀ (n j : Nat) (x : Int),l.length - j ≤ n → (l.drop j).foldl (fun v p=>if p.f0 = C[i] then p.f1 else v) x = lvl d l C[i] →
    Cm (fun k=>transomref1_MakeLabel.l1 k d l C (i : Int) x (j : Int) e out) v:=by
  have last : ∀ (j : Nat) (x : Int),¬ j < l.length → x = lvl d l C[i] → Cm (fun k=>transomref1_MakeLabel.l1 k d l C (i : Int) x (j : Int) e out) v:=by
    intro j x hj hx
    refine Cm.step (fun _=>transomref1_MakeLabel.l1.eq_2 ..) (Cm.neg (by omega) ?_)
    rw [wup i (by omega),rd_at C i hi,hx]
    refine Cm.ite (fun h=>?_) (fun h=>Cm.pos (by omega) (Cm.pos (by omega) (Cm.pos (by omega) ?_)))
    · rw [if_pos h] at h0;exact h0
    · rw [if_neg h] at h0;exact h0
  intro n
  induction n with
  | zero =>
    intro j x hn hx
    rw [List.drop_eq_nil_of_le (by omega)] at hx
    exact last j x (by omega) hx
  | succ n ih =>
    intro j x hn hx
    by_cases h : j < l.length
    · have hu:=wup j (by omega)
      refine Cm.step (fun _=>transomref1_MakeLabel.l1.eq_2 ..) (Cm.pos (by omega) (Cm.pos (by omega) (Cm.pos (by omega) (Cm.pos (by omega) ?_))))
      rw [hu,rd_at C i hi,rdT l j h]
      clear hu
      rw [List.drop_eq_getElem_cons h,List.foldl_cons] at hx
      refine Cm.ite (fun h2=>ih (j + 1) _ (by omega) ?_) (fun h2=>ih (j + 1) _ (by omega) ?_)
      · rw [if_pos h2] at hx;exact hx
      · rw [if_neg h2] at hx;exact hx
    · rw [List.drop_eq_nil_of_le (by omega)] at hx
      exact last j x h hx
theorem ML_l0 (d : Int) (l : List Pr) (hl : l.length < 1000000) (C : List Int) (hC : C.length < 1000000) (e : Int) : ∀ (n i : Nat) (out : List Pr),C.length - i ≤ n → out.length + (C.length - i) < 2000000 →
    Cm (fun k=>transomref1_MakeLabel.l0 k d l C (i : Int) e out) (e,out ++ (C.drop i).filterMap fun c=>if lvl d l c = d then none else some ⟨c,lvl d l c⟩)
  | 0,i,out,hn,ho=>by
    refine Cm.step (fun _=>transomref1_MakeLabel.l0.eq_2 ..) (Cm.neg (by omega) ?_)
    rw [List.drop_eq_nil_of_le (by omega)]
    exact Cm.eq (by simp)
  | n + 1,i,out,hn,ho=>by
    by_cases h : i < C.length
    · refine Cm.step (fun _=>transomref1_MakeLabel.l0.eq_2 ..) (Cm.pos (by omega) ?_)
      refine ML_l1 d l hl C hC i h e out (by omega) _ ?_ _ 0 d (Nat.le_refl _) (by simp [lvl])
      refine (ML_l0 d l hl C hC e n (i + 1) _ (by omega) (by split <;> first|omega|(simp;omega))).of ?_
      rw [List.drop_eq_getElem_cons h]
      by_cases h2 : lvl d l C[i] = d
      · rw [if_pos h2,List.filterMap_cons_none (by rw [if_pos h2])]
      · rw [if_neg h2,List.filterMap_cons_some (by rw [if_neg h2]),List.append_assoc];rfl
    · refine Cm.step (fun _=>transomref1_MakeLabel.l0.eq_2 ..) (Cm.neg (by omega) ?_)
      rw [List.drop_eq_nil_of_le (by omega)]
      exact Cm.eq (by simp)
theorem MakeLabel_cm (d : Int) (l : List Pr) (hl : l.length < 900000) : Cm (fun k=>transomref1_MakeLabel.f k d l) (d,mkl d l):=by
  have h2:=mk_len (cs l) []
  have h3:=cs_len l
  simp only [List.length_nil,Nat.zero_add] at h2
  refine Cm.bind ((Lcats_cm l [] 0 0 (by omega) (by simp)).of (show _ = mk (cs l) [] by simp [cs])) ?_
  exact (ML_l0 d l (by omega) (mk (cs l) []) (by omega) d _ 0 [] (Nat.le_refl _) (by simp;omega)).of (by simp [mkl])

theorem At_l0 (P : List Pr) (d c : Int) (hP : P.length < 1000000) : ∀ (n j : Nat),P.length - j ≤ n → Cm (fun k=>transomref1_At.l0 k c (j : Int) d P) (at_ d (P.drop j) c)
  | 0,j,hn=>by
    refine Cm.step (fun _=>transomref1_At.l0.eq_2 ..) (Cm.neg (by omega) ?_)
    rw [List.drop_eq_nil_of_le (by omega)]
    exact Cm.eq (by simp [at_])
  | n + 1,j,hn=>by
    by_cases h : j < P.length
    · have hu:=wup j (by omega)
      refine Cm.step (fun _=>transomref1_At.l0.eq_2 ..) (Cm.pos (by omega) (Cm.pos (by omega) ?_))
      rw [hu,rdT P j h,List.drop_eq_getElem_cons h]
      clear hu
      refine Cm.ite (fun h2=>Cm.eq ?_) (fun h2=>(At_l0 P d c hP n (j + 1) (by omega)).of ?_)
      · simp only [at_,List.find?_cons,h2,beq_self_eq_true]
      · have : (P[j].f0 == c) = false:=by simpa using h2
        simp only [at_,List.find?_cons,this]
    · refine Cm.step (fun _=>transomref1_At.l0.eq_2 ..) (Cm.neg (by omega) ?_)
      rw [List.drop_eq_nil_of_le (by omega)]
      exact Cm.eq (by simp [at_])
theorem At_cm (P : List Pr) (d c : Int) (hP : P.length < 1000000) : Cm (fun k=>transomref1_At.f k d P c) (at_ d P c) :=
  (At_l0 P d c hP _ 0 (Nat.le_refl _)).of (by simp)
def lfl (a : Int) (P : List Pr) (b : Int) (Q : List Pr) : Bool:=((mk (cs P ++ cs Q) []).all fun c=>decide (at_ a P c ≤ at_ b Q c)) && decide (a ≤ b)
theorem Flows_l0 (P Q : List Pr) (a b : Int) (hP : P.length < 1000000) (hQ : Q.length < 1000000) (C : List Int) (hC : C.length < 4000000) : ∀ (n j : Nat),C.length - j ≤ n →
    Cm (fun k=>transomref1_Flows.l0 k C (j : Int) a P b Q) (((C.drop j).all fun c=>decide (at_ a P c ≤ at_ b Q c)) && decide (a ≤ b))
  | 0,j,hn=>by
    refine Cm.step (fun _=>transomref1_Flows.l0.eq_2 ..) (Cm.neg (by omega) ?_)
    rw [List.drop_eq_nil_of_le (by omega)]
    exact Cm.eq (by simp)
  | n + 1,j,hn=>by
    by_cases h : j < C.length
    · have hu:=wup j (by omega)
      refine Cm.step (fun _=>transomref1_Flows.l0.eq_2 ..) (Cm.pos (by omega) (Cm.pos (by omega) ?_))
      rw [hu,rd_at C j h,List.drop_eq_getElem_cons h]
      clear hu
      refine Cm.bind (At_cm P a _ hP) (Cm.bind (At_cm Q b _ hQ) (Cm.ite (fun h2=>Cm.eq ?_) (fun h2=>(Flows_l0 P Q a b hP hQ C hC n (j + 1) (by omega)).of ?_)))
      · have : decide (at_ a P C[j] ≤ at_ b Q C[j]) = false:=by simpa using h2
        rw [List.all_cons,this];rfl
      · have : decide (at_ a P C[j] ≤ at_ b Q C[j]) = true:=by simp only [decide_eq_true_eq];omega
        rw [List.all_cons,this];rfl
    · refine Cm.step (fun _=>transomref1_Flows.l0.eq_2 ..) (Cm.neg (by omega) ?_)
      rw [List.drop_eq_nil_of_le (by omega)]
      exact Cm.eq (by simp)
theorem LFlows_cm (P Q : List Pr) (a b : Int) (hP : P.length < 1000000) (hQ : Q.length < 1000000) : Cm (fun k=>transomref1_Flows.f k a P b Q) (lfl a P b Q):=by
  have h2:=mk_len (cs P ++ cs Q) []
  have h3:=cs_len P
  have h4:=cs_len Q
  simp only [List.length_nil,Nat.zero_add,List.length_append] at h2
  exact Cm.bind (Lcats_cm P Q a b hP hQ) ((Flows_l0 P Q a b hP hQ _ (by omega) _ 0 (Nat.le_refl _)).of (by simp [lfl]))
/-- Of made labels: level by level, and of those that none names. -/
theorem at_not (d : Int) (l : List Pr) (c : Int) (h : c ∉ cs l) : at_ d l c = d:=by
  unfold at_
  have : l.find? (fun p=>p.f0 == c) = none:=List.find?_eq_none.2 fun p hp=>by
    simp only [beq_iff_eq]
    intro e
    exact h (List.mem_map.2 ⟨p,hp,e⟩)
  rw [this]
theorem lfl_iff (a : Int) (P : List Pr) (b : Int) (Q : List Pr) : lfl a P b Q = true ↔ (∀ c,at_ a P c ≤ at_ b Q c) ∧ a ≤ b:=by
  unfold lfl
  rw [Bool.and_eq_true,List.all_eq_true,decide_eq_true_eq]
  constructor
  · rintro ⟨h,hab⟩
    refine ⟨fun c=>?_,hab⟩
    by_cases hc : c ∈ mk (cs P ++ cs Q) []
    · simpa using h c hc
    · rw [mk_mem] at hc
      simp only [List.not_mem_nil,List.mem_append,false_or,not_or] at hc
      rw [at_not a P c hc.1,at_not b Q c hc.2]
      exact hab
  · rintro ⟨h,hab⟩
    exact ⟨fun c _=>by simpa using h c,hab⟩
def lvs (P : List Pr) (v : Int) : List Int:=(P.filter fun p=>p.f1 == v).map fun p=>p.f0
theorem Levels_l0 (P : List Pr) (d v : Int) (hP : P.length < 1000000) : ∀ (n j : Nat) (acc : List Int),P.length - j ≤ n → acc.length + (P.length - j) < 2000000 →
    Cm (fun k=>transomref1_Levels.l0 k v acc (j : Int) d P) (acc ++ lvs (P.drop j) v)
  | 0,j,acc,hn,hl=>by
    refine Cm.step (fun _=>transomref1_Levels.l0.eq_2 ..) (Cm.neg (by omega) ?_)
    rw [List.drop_eq_nil_of_le (by omega)]
    exact Cm.eq (by simp [lvs])
  | n + 1,j,acc,hn,hl=>by
    by_cases h : j < P.length
    · have hu:=wup j (by omega)
      refine Cm.step (fun _=>transomref1_Levels.l0.eq_2 ..) (Cm.pos (by omega) (Cm.pos (by omega) ?_))
      rw [hu,rdT P j h,List.drop_eq_getElem_cons h]
      clear hu
      refine Cm.ite (fun h2=>Cm.pos (by omega) ((Levels_l0 P d v hP n (j + 1) _ (by omega) (by simp;omega)).of ?_)) (fun h2=>(Levels_l0 P d v hP n (j + 1) _ (by omega) (by omega)).of ?_)
      · have : (P[j].f1 == v) = true:=by simpa using h2
        unfold lvs;rw [List.filter_cons,if_pos this,List.map_cons,List.append_assoc];rfl
      · have : ¬ (P[j].f1 == v) = true:=by simpa using h2
        unfold lvs;rw [List.filter_cons,if_neg this]
    · refine Cm.step (fun _=>transomref1_Levels.l0.eq_2 ..) (Cm.neg (by omega) ?_)
      rw [List.drop_eq_nil_of_le (by omega)]
      exact Cm.eq (by simp [lvs])
theorem Levels_cm (P : List Pr) (d v : Int) (hP : P.length < 1000000) : Cm (fun k=>transomref1_Levels.f k d P v) (lvs P v) :=
  (Levels_l0 P d v hP _ 0 [] (Nat.le_refl _) (by simp;omega)).of (by simp)
end Go.Proofs.Ytfgndnackofenaa.PM
