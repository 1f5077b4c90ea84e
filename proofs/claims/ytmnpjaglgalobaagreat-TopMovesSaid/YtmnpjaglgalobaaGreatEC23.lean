/-
  A canonical executor: a region's operations in any order that its edges allow come to what they come to in the text's order. Laws over any program; no condition.
-/
import Derived.Test.YtmnpjaglgalobaaGreatEC12
import Derived.Test.YtmnpjaglgalobaaGreatE15
namespace Go.Proofs.YtmnpjaglgalobaaGreatW.C
open Go Go.RowKit
open Go.Proofs.YtmnpjaglgalobaaGreatW.E (upd upd_same upd_ne upd_comm dstOK dstOK_spec)
set_option linter.unusedVariables false
set_option linter.unusedSimpArgs false

/-- Does an operation's guard let it run? -/
def awantedC (ops : Array Oper) (o : Oper) (st : St) : Option Bool :=
  match o.guard with
  | none => some true
  | some (j, want) => match (ops[j]?).bind (·.dst) with
    | some t => match st.s t with
      | .val (.bool b) => some (b == want)
      | .val _ => some false
      | _ => none
    | none => none

section
variable {P : Program} {base : Nat → Prop} {w0 : Base} {ops : Array Oper}

theorem awanted_ok {E : Env} {st : St} {a : Act} (hs : ∀ t, RV E (st.s t) (a.tmps.getD t undef)) {o : Oper} {b : Bool} (h : awantedC ops o st = some b) : Region.wanted o (yielded ops a.tmps) = b := by
  unfold awantedC at h
  unfold Region.wanted
  split at h
  · rename_i hg
    rw [hg]; cases h; rfl
  · rename_i j want hg
    rw [hg]
    simp only
    split at h
    · rename_i t ht
      split at h
      · rename_i bb hb
        cases h
        have h1 := hs t
        rw [hb, RV.val_iff] at h1
        have h2 : a.tmps[t]? = some (.bool bb) := by
          rw [Array.getD_eq_getD_getElem?] at h1
          cases hq : a.tmps[t]? with
          | none => rw [hq] at h1; simp [undef] at h1
          | some v => rw [hq] at h1; simpa using h1
        unfold yielded
        rw [ht]
        simp only [Option.bind_some, h2]
        cases bb <;> cases want <;> rfl
      · rename_i u hu hb
        cases h
        have h1 := hs t
        rw [hb, RV.val_iff] at h1
        unfold yielded
        rw [ht]
        simp only [Option.bind_some]
        split
        · rename_i b hbt
          rw [Array.getD_eq_getD_getElem?, hbt] at h1
          simp only [Option.getD_some] at h1
          exact absurd h1.symm (hu b)
        · rfl
      · cases h
    · cases h

/-- One operation of a region: nothing (its guard says no), or what it makes, whatever its surroundings. -/
def StepF (P : Program) (ops : Array Oper) (o : Oper) (st : St) (e : Eff) (F : Nat → Bool) : Prop :=
  (awantedC ops o st = some false ∧ e = { v := .val undef }) ∨ (awantedC ops o st = some true ∧ EffL P o st e F ∧ ∀ k, e.ov k ≠ none → F k = true ∧ st.B k ≠ .dead)
theorem StepF.congr {o : Oper} {st st' : St} {e : Eff} {F : Nat → Bool} (h : StepF P ops o st e F) (hn : st'.n = st.n) (hx : ∀ x ∈ o.op.operands, evalC st' x = evalC st x) (hw : awantedC ops o st' = awantedC ops o st) (hB : ∀ k, F k = true → st'.B k = st.B k) : StepF P ops o st' e F := by
  rcases h with ⟨h1, h2⟩ | ⟨h1, h2, h3⟩
  · exact .inl ⟨hw.trans h1, h2⟩
  · exact .inr ⟨hw.trans h1, h2.congr hn hx hB, fun k hk => ⟨(h3 k hk).1, by rw [hB k (h3 k hk).1]; exact (h3 k hk).2⟩⟩
theorem wpOp_stepF {st : St} {o : Oper} {i : Nat} (hi : ops[i]? = some o) (hn : dstOK o st.n = true) {e : Eff} {F : Nat → Bool} (he : StepF P ops o st e F) {a : Act} {w : World} (hrel : Rel base w0 st a w)
    {K : Act → World → Prop} {Q : Exit → Act → World → Prop} (hK : ∀ a' w', Rel base w0 (st.app o.dst e) a' w' → K a' w') : wpOp P ops Q i K a w := by
  obtain ⟨E, hok, hle0, hdd, hs⟩ := hrel.ex
  unfold wpOp
  rcases he with ⟨hw, rfl⟩ | ⟨hw, he, hgd⟩
  · simp only [hi, awanted_ok hs hw, Bool.false_eq_true, if_false]
    refine hK _ _ ⟨⟨E, hok, hle0, hdd, slots_put (st := st) (e := { v := .val undef }) hs hrel.size (dstOK_spec hn) (Env.Le.refl E) (.val _)⟩, ?_, ?_⟩
    · cases o.dst <;> simp [Act.put, St.app, hrel.size]
    · cases o.dst <;> simp [Act.put, hrel.defs]
  · simp only [hi, awanted_ok hs hw, if_true]
    refine .inl ((he.does base w0.w).rel (fun k hk => ?_) (dstOK_spec hn) hrel hK)
    cases h : e.ov k with
    | none => rfl
    | some x => exact absurd hk (hgd k (by rw [h]; simp)).2

def DStep (P : Program) (ops : Array Oper) (fx : Nat → Eff × (Nat → Bool)) (st : St) (i : Nat) (st' : St) : Prop :=
  ∃ o, ops[i]? = some o ∧ dstOK o st.n = true ∧ StepF P ops o st (fx i).1 (fx i).2 ∧ st' = st.app o.dst (fx i).1
inductive DRun (P : Program) (ops : Array Oper) (fx : Nat → Eff × (Nat → Bool)) : List Nat → St → St → Prop where
  | nil (st : St) : DRun P ops fx [] st st
  | cons (i : Nat) (l : List Nat) (st st1 st2 : St) (h : DStep P ops fx st i st1) (k : DRun P ops fx l st1 st2) : DRun P ops fx (i :: l) st st2

/-- Neither writes what the other sees. -/
def MInd (fx : Nat → Eff × (Nat → Bool)) (i j : Nat) : Prop :=
  (∀ k, (fx i).1.ov k ≠ none → (fx j).2 k = false ∧ (fx j).1.ov k = none) ∧ ∀ k, (fx j).1.ov k ≠ none → (fx i).2 k = false

theorem evalC_app {st : St} {dst : Option Nat} {e : Eff} {x : Operand} (h : ∀ d, dst = some d → x ≠ .tmp d) : evalC (st.app dst e) x = evalC st x := by
  cases x with
  | tmp t =>
    cases dst with
    | none => rfl
    | some d =>
      have : t ≠ d := fun e => h d rfl (by rw [e])
      simp only [evalC, St.app, upd_ne _ _ this]
  | _ => rfl
theorem looks_app {st : St} {dst : Option Nat} {e : Eff} {o : Oper} (h : ∀ d, dst = some d → d ∉ o.looksAt ops) : (∀ x ∈ o.op.operands, evalC (st.app dst e) x = evalC st x) ∧ awantedC ops o (st.app dst e) = awantedC ops o st := by
  refine ⟨fun x hx => evalC_app fun d hd hxd => h d hd ?_, ?_⟩
  · subst hxd
    exact List.mem_append_left _ (List.mem_filterMap.2 ⟨.tmp d, by simpa using hx, rfl⟩)
  · unfold awantedC
    cases hg : o.guard with
    | none => rfl
    | some gw =>
      obtain ⟨g, want⟩ := gw
      simp only
      cases ht : (ops[g]?).bind (·.dst) with
      | none => rfl
      | some t =>
        simp only
        have : (st.app dst e).s t = st.s t := by
          have := evalC_app (st := st) (dst := dst) (e := e) (x := .tmp t) (fun d hd hxd => h d hd (by cases hxd; simp [Oper.looksAt, hg, ht]))
          exact this
        rw [this]
theorem app_comm {st : St} {d1 d2 : Option Nat} {e1 e2 : Eff} (hd : ∀ d, d1 = some d → d2 ≠ some d) (hb : ∀ k, e1.ov k ≠ none → e2.ov k = none) : (st.app d1 e1).app d2 e2 = (st.app d2 e2).app d1 e1 := by
  obtain ⟨n, s, B⟩ := st
  simp only [St.app, St.mk.injEq, true_and]
  refine ⟨?_, ?_⟩
  · cases d1 <;> cases d2 <;> try rfl
    rename_i a b
    exact upd_comm _ _ _ (fun e => hd a rfl (by rw [e]))
  · funext k
    unfold ovr
    cases h1 : e1.ov k with
    | none => rfl
    | some x =>
      rw [hb k (by rw [h1]; simp)]
      rfl

theorem swap {fx : Nat → Eff × (Nat → Bool)} {st st1 st2 : St} {i j : Nat} {oi oj : Oper} (hi : ops[i]? = some oi) (hj : ops[j]? = some oj) (hap : oi.apart ops oj = true) (hm : MInd fx i j) (h1 : DStep P ops fx st i st1) (h2 : DStep P ops fx st1 j st2) :
    ∃ st1', DStep P ops fx st j st1' ∧ DStep P ops fx st1' i st2 := by
  obtain ⟨oi', hi', hni, hei, rfl⟩ := h1
  rw [hi] at hi'; cases hi'
  obtain ⟨oj', hj', hnj, hej, rfl⟩ := h2
  rw [hj] at hj'; cases hj'
  obtain ⟨a1, a2, a3⟩ := Oper.apart_spec hap
  obtain ⟨b1, b2⟩ := looks_app (ops := ops) (st := st) (e := (fx i).1) a1
  obtain ⟨c1, c2⟩ := looks_app (ops := ops) (st := st) (e := (fx j).1) a3
  refine ⟨_, ⟨oj, hj, hnj, hej.congr rfl (fun x hx => (b1 x hx).symm) b2.symm (fun k hk => ?_), rfl⟩, ⟨oi, hi, hni, hei.congr rfl c1 c2 (fun k hk => ?_), app_comm (fun d hd => a2 d hd) (fun k hk => (hm.1 k hk).2)⟩⟩
  · have : (fx i).1.ov k = none := by
      cases h : (fx i).1.ov k with
      | none => rfl
      | some x => have := (hm.1 k (by rw [h]; simp)).1; rw [hk] at this; cases this
    exact (ovr_off this).symm
  · have : (fx j).1.ov k = none := by
      cases h : (fx j).1.ov k with
      | none => rfl
      | some x => have := hm.2 k (by rw [h]; simp); rw [hk] at this; cases this
    exact ovr_off this

theorem DRun.front {fx : Nat → Eff × (Nat → Bool)} {i : Nat} {oi : Oper} (hi : ops[i]? = some oi) : ∀ (l1 l2 : List Nat) (st st' : St), (∀ k ∈ l1, ∃ ok, ops[k]? = some ok ∧ ok.apart ops oi = true ∧ MInd fx k i) → DRun P ops fx (l1 ++ i :: l2) st st' → DRun P ops fx (i :: (l1 ++ l2)) st st'
  | [], l2, st, st', _, h => h
  | k :: l1, l2, st, st', hk, h => by
    cases h with
    | cons _ _ _ st1 _ h1 h2 =>
      have h3 := DRun.front hi l1 l2 st1 st' (fun j hj => hk j (List.mem_cons_of_mem _ hj)) h2
      cases h3 with
      | cons _ _ _ st2 _ h4 h5 =>
        obtain ⟨ok, hok, hap, hm⟩ := hk k List.mem_cons_self
        obtain ⟨st1', h6, h7⟩ := swap hok hi hap hm h1 h4
        exact .cons i _ st st1' st' h6 (.cons k _ st1' st2 st' h7 h5)

/-- What the kernel is asked of a region whose order is open: pairs without order are apart. -/
def orderOK (ops : Array Oper) (M : List Nat) : Bool :=
  (List.range ops.size).all fun i => match ops[i]? with
    | none => false
    | some o => (o.after.toList.all fun e => !Region.binds .any e || e.on < i) && (List.range i).all fun k =>
        if (M.getD i 0).testBit k then (o.after.toList.any fun e => Region.binds .any e && (e.on == k || (k < e.on && (M.getD e.on 0).testBit k)))
        else (match ops[k]? with | some ok => ok.apart ops o | none => false)

theorem orderOK_spec {M : List Nat} (h : orderOK ops M = true) {i : Nat} (hi : i < ops.size) : ∃ o, ops[i]? = some o ∧ (∀ e ∈ o.after, Region.binds .any e = true → e.on < i) ∧
    ∀ k, k < i → ((M.getD i 0).testBit k = true → ∃ e ∈ o.after, Region.binds .any e = true ∧ (e.on = k ∨ (k < e.on ∧ (M.getD e.on 0).testBit k = true))) ∧ ((M.getD i 0).testBit k = false → ∃ ok, ops[k]? = some ok ∧ ok.apart ops o = true) := by
  unfold orderOK at h
  have h1 := List.all_eq_true.1 h i (List.mem_range.2 hi)
  have ho : ops[i]? = some ops[i] := by simp [hi]
  rw [ho] at h1
  simp only [Bool.and_eq_true] at h1
  refine ⟨ops[i], ho, fun e he hb => ?_, fun k hk => ?_⟩
  · have := List.all_eq_true.1 h1.1 e (by simpa using he)
    simp only [hb, Bool.not_true, Bool.false_or, decide_eq_true_eq] at this
    exact this
  · have h2 := List.all_eq_true.1 h1.2 k (List.mem_range.2 hk)
    split at h2
    · rename_i hb
      refine ⟨fun _ => ?_, fun h => by rw [hb] at h; cases h⟩
      obtain ⟨e, he, h3⟩ := List.any_eq_true.1 h2
      simp only [Bool.and_eq_true, Bool.or_eq_true, beq_iff_eq, decide_eq_true_eq] at h3
      exact ⟨e, by simpa using he, h3.1, h3.2⟩
    · rename_i hb
      refine ⟨fun h => absurd h hb, fun _ => ?_⟩
      split at h2
      · rename_i ok hok; exact ⟨ok, hok, h2⟩
      · cases h2

theorem wpAny_run {fx : Nat → Eff × (Nat → Bool)} {M : List Nat} (hord : orderOK ops M = true) (hmem : ∀ i k, k < i → i < ops.size → (M.getD i 0).testBit k = false → MInd fx k i) {Q : Exit → Act → World → Prop} : ∀ (fuel : Nat) (listed : Array Bool) (rem : List Nat) (st st' : St) (a : Act) (w : World),
    fuel = rem.length → (∀ i, i ∈ rem ↔ i < ops.size ∧ listed.getD i true = false) → rem.Pairwise (· < ·) →
    (∀ k, k < ops.size → listed.getD k true = true → ∀ o, ops[k]? = some o → ∀ e ∈ o.after, Region.binds .any e = true → listed.getD e.on true = true) → listed.size = ops.size →
    DRun P ops fx rem st st' → Rel base w0 st a w → (∀ a' w', Rel base w0 st' a' w' → Q .normal a' w') → wpAny P .any ops Q fuel listed a w := by
  intro fuel
  -- two ways to ask whether an operation is listed
  have hgd : ∀ (listed : Array Bool) (i : Nat), listed.size = ops.size → i < ops.size → listed.getD i true = listed.getD i false := fun listed i h1 h2 => by
    simp [Array.getD, h1, h2]
  induction fuel with
  | zero =>
    intro listed rem st st' a w hf hrem hsort hdown hsz hrun hrel hQ
    have hr : rem = [] := List.eq_nil_of_length_eq_zero hf.symm
    subst hr
    cases hrun
    refine ⟨?_, hQ _ _ hrel⟩
    apply List.eq_nil_iff_forall_not_mem.2
    intro j hj
    obtain ⟨h1, o, h2, _⟩ := mem_ready.1 hj
    have := (hrem j).2 ⟨(Array.getElem?_eq_some_iff.1 h2).1, h1⟩
    simp at this
  | succ fuel ih =>
    intro listed rem st st' a w hf hrem hsort hdown hsz hrun hrel hQ
    refine ⟨fun hnil => ?_, fun i hi => ?_⟩
    · exfalso
      cases rem with
      | nil => simp at hf
      | cons i rem =>
        have hi := (hrem i).1 List.mem_cons_self
        obtain ⟨o, ho, hback, _⟩ := orderOK_spec hord hi.1
        have : i ∈ Region.ready .any ops listed := mem_ready.2 ⟨hi.2, o, ho, fun e he hb => by
          have hlt := hback e he hb
          cases hl : listed.getD e.on false with
          | true => rfl
          | false =>
            have : e.on ∈ i :: rem := (hrem e.on).2 ⟨by omega, by rw [hgd listed e.on hsz (by omega)]; exact hl⟩
            rcases List.mem_cons.1 this with h | h
            · omega
            · have := List.rel_of_pairwise_cons hsort h; omega⟩
        rw [hnil] at this
        cases this
    · obtain ⟨hun, o, ho, hall⟩ := mem_ready.1 hi
      have hilt : i < ops.size := (Array.getElem?_eq_some_iff.1 ho).1
      have himem : i ∈ rem := (hrem i).2 ⟨hilt, hun⟩
      obtain ⟨l1, l2, rfl⟩ := List.append_of_mem himem
      have hpreds : ∀ e ∈ o.after, Region.binds .any e = true → listed.getD e.on true = true := fun e he hb => by
        have h1 := hall e he hb
        by_cases hlt : e.on < ops.size
        · rw [hgd listed e.on hsz hlt]; exact h1
        · simp [Array.getD, hsz, hlt]
      -- whatever the mask names is listed
      have hmask : ∀ m, m < ops.size → ∀ om, ops[m]? = some om → (∀ e ∈ om.after, Region.binds .any e = true → listed.getD e.on true = true) → ∀ k, k < m → (M.getD m 0).testBit k = true → listed.getD k true = true := by
        intro m
        induction m using Nat.strongRecOn with
        | _ m ihm =>
          intro hm om hom hp k hk hbit
          obtain ⟨o', ho', hback, hks⟩ := orderOK_spec hord hm
          rw [hom] at ho'; cases ho'
          obtain ⟨e, he, hb, hor⟩ := (hks k hk).1 hbit
          rcases hor with h | ⟨hke, h⟩
          · rw [← h]; exact hp e he hb
          · have hlt := hback e he hb
            have hl := hp e he hb
            have heo : ops[e.on]? = some ops[e.on] := by simp [show e.on < ops.size by omega]
            exact ihm e.on hlt (by omega) _ heo (fun e' he' hb' => hdown e.on (by omega) hl _ heo e' he' hb') k hke h
      have hfront := DRun.front ho l1 l2 st st' (fun k hk => by
        have hkm := (hrem k).1 (List.mem_append_left _ hk)
        have hki : k < i := by
          have := List.pairwise_append.1 hsort
          exact this.2.2 k hk i List.mem_cons_self
        obtain ⟨o', ho', hback, hks⟩ := orderOK_spec hord hilt
        rw [ho] at ho'; cases ho'
        cases hbit : (M.getD i 0).testBit k with
        | true =>
          have := hmask i hilt o ho hpreds k hki hbit
          rw [this] at hkm
          cases hkm.2
        | false => obtain ⟨ok, hok, hap⟩ := (hks k hki).2 hbit; exact ⟨ok, hok, hap, hmem i k hki hilt hbit⟩) hrun
      cases hfront with
      | cons _ _ _ st1 _ h1 h2 =>
        obtain ⟨o', ho', hn, he, rfl⟩ := h1
        rw [ho] at ho'; cases ho'
        refine wpOp_stepF ho hn he hrel (fun a' w' hrel' => ih _ (l1 ++ l2) _ st' a' w' (by simp at hf ⊢; omega) (fun j => ?_) ?_ ?_ (by simpa using hsz) h2 hrel' hQ)
        · have hns : i ∉ l1 ++ l2 := by
            have h3 := List.pairwise_append.1 hsort
            intro h
            rcases List.mem_append.1 h with h | h
            · have := h3.2.2 i h i List.mem_cons_self; omega
            · have := List.rel_of_pairwise_cons h3.2.1 h; omega
          by_cases hji : j = i
          · subst hji
            refine ⟨fun h => absurd h hns, fun h => ?_⟩
            have : (listed.setIfInBounds j true).getD j true = true := by simp [Array.getD, hsz, hilt]
            rw [this] at h; cases h.2
          · rw [getD_set_ne true (Ne.symm hji), ← hrem j]
            simp [hji]
        · have h3 := List.pairwise_append.1 hsort
          exact List.pairwise_append.2 ⟨h3.1, (List.pairwise_cons.1 h3.2.1).2, fun x hx y hy => h3.2.2 x hx y (List.mem_cons_of_mem _ hy)⟩
        · intro k hk hl ok hok e he hb
          by_cases hki : k = i
          · subst hki
            rw [ho] at hok; cases hok
            by_cases hei : e.on = k
            · rw [hei]; simp [Array.getD, hsz, hilt]
            · rw [getD_set_ne true (Ne.symm hei)]; exact hpreds e he hb
          · rw [getD_set_ne true (Ne.symm hki)] at hl
            by_cases hei : e.on = i
            · rw [hei]; simp [Array.getD, hsz, hilt]
            · rw [getD_set_ne true (Ne.symm hei)]; exact hdown k hk hl ok hok e he hb

end
end Go.Proofs.YtmnpjaglgalobaaGreatW.C

/-
  A canonical executor: code: sequences, branches, loops, scopes, calls. Laws over any program; no condition.
-/
namespace Go.Proofs.YtmnpjaglgalobaaGreatW.C
open Go Go.RowKit
open Go.Proofs.YtmnpjaglgalobaaGreatW.E (upd upd_same upd_ne upd_comm dstOK dstOK_spec callable res1 results_eq)
set_option linter.unusedVariables false
set_option linter.unusedSimpArgs false

/-- A loop, ahead of a round. -/
def LoopW (P : Program) (c : Code) (Q : Exit → Act → World → Prop) (a : Act) (w : World) : Prop :=
  ∀ (b : Frame) (k : List Item) (cs : List Frame), ∃ e a' w', Q e a' w' ∧ Arrives P (lone (b.at a (.code c :: .inLoop c :: k)) cs w) b k cs e a' w'
/-- A scope, ahead of some of its code. -/
def ScopeW (P : Program) (c x : Code) (Q : Exit → Act → World → Prop) (a : Act) (w : World) : Prop :=
  ∀ (b : Frame) (k : List Item) (cs : List Frame), ∃ e a' w', Q e a' w' ∧ Arrives P (lone (b.at a (.code x :: .inScope c :: k)) cs w) b k cs e a' w'

section
variable {P : Program} {Q : Exit → Act → World → Prop} {a : Act} {w : World}
theorem wp_loopW {c : Code} (h : LoopW P c Q a w) : (Code.loop c).wp P Q a w := by
  intro b k cs
  obtain ⟨e, a', w', hq, harr⟩ := h b k cs
  exact ⟨e, a', w', hq, .of_steps (.one step_loop) harr⟩
theorem loopW_step {c : Code} (h : c.wp P (fun e a' w' => match e with | .normal => LoopW P c Q a' w' | e => Q e a' w') a w) : LoopW P c Q a w := by
  intro b k cs
  obtain ⟨e, a₁, w₁, hq, harr⟩ := h b (.inLoop c :: k) cs
  cases e with
  | normal =>
    obtain ⟨e₂, a₂, w₂, hq₂, harr₂⟩ := hq b k cs
    exact ⟨e₂, a₂, w₂, hq₂, .of_steps (Steps.trans harr (.one step_inLoop)) harr₂⟩
  | exit id => exact ⟨_, a₁, w₁, hq, .pass (x := .inLoop c) rfl (fun _ _ => .inl (by simp)) harr⟩
  | goto l => exact ⟨_, a₁, w₁, hq, .pass (x := .inLoop c) rfl (fun _ _ => .inl (by simp)) harr⟩
  | ret => exact ⟨_, a₁, w₁, hq, .pass (x := .inLoop c) rfl (fun _ _ => .inl (by simp)) harr⟩
  | panic ch => exact ⟨_, a₁, w₁, hq, .pass (x := .inLoop c) rfl (fun _ _ => .inl (by simp)) harr⟩
  | outgrown => exact ⟨_, a₁, w₁, hq, .pass (x := .inLoop c) rfl (fun _ _ => .inl (by simp)) harr⟩
theorem wp_scopeW {c : Code} (h : ScopeW P c c Q a w) : (Code.scope c).wp P Q a w := by
  intro b k cs
  obtain ⟨e, a', w', hq, harr⟩ := h b k cs
  exact ⟨e, a', w', hq, .of_steps (.one step_scope) harr⟩
theorem scopeW_step {c x : Code} (h : x.wp P (fun e a' w' => match e with
    | .goto l => (match findLabel c l with | some rest => ScopeW P c rest Q a' w' | none => False)
    | e => Q e a' w') a w) : ScopeW P c x Q a w := by
  intro b k cs
  obtain ⟨e, a₁, w₁, hq, harr⟩ := h b (.inScope c :: k) cs
  cases e with
  | normal => exact ⟨.normal, a₁, w₁, hq, Steps.trans harr (.one step_inScope)⟩
  | exit id => exact ⟨.exit id, a₁, w₁, hq, fun k' hk => harr k' (by simp [exitTo, hk])⟩
  | goto l =>
    simp only at hq
    cases hf : findLabel c l with
    | none => rw [hf] at hq; exact hq.elim
    | some rest =>
      rw [hf] at hq
      have hg : gotoIn l (.inScope c :: k) = some (.code rest :: .inScope c :: k) := by simp [gotoIn, hf]
      obtain ⟨e₂, a₂, w₂, hq₂, harr₂⟩ := hq b k cs
      exact ⟨e₂, a₂, w₂, hq₂, .of_steps (harr _ hg) harr₂⟩
  | ret => exact ⟨_, a₁, w₁, hq, harr⟩
  | panic ch => exact ⟨_, a₁, w₁, hq, harr⟩
  | outgrown => exact ⟨_, a₁, w₁, hq, harr⟩
end

/-! ### Results -/
def res1C (T : CTab) (st : St) : ResultVar → Option CV
  | .tmp t => some (st.s t)
  | .cell a t => match st.s a with
    | .ptr k off => match st.B k, T.get t with
      | .row cs, some i => rdC i (cs.drop off)
      | _, _ => none
    | _ => none
def resMC (T : CTab) (st : St) : List ResultVar → Option (List CV)
  | [] => some []
  | r :: rs => match res1C T st r, resMC T st rs with
    | some v, some vs => some (v :: vs)
    | _, _ => none
def resC (T : CTab) (st : St) : List ResultVar → Option CV
  | [r] => res1C T st r
  | rs => match resMC T st rs with
    | some vs => some (.tup vs)
    | none => none

section
variable {P : Program} {T : CTab} {base : Nat → Prop} {w0 : World}
theorem run_res1C (hT : T.OK P) {st : St} {E : Env} {w : World} (hok : OK base w0 E st.B w) {a : Act} (hs : ∀ t, RV E (st.s t) (a.tmps.getD t undef)) (hn : a.tmps.size = st.n) (hd : a.defers = []) {r : ResultVar} {v : CV} (h : res1C T st r = some v) :
    ∃ x, (res1 a.tmps r).run P w = .ok x w ∧ RV E v x := by
  cases r with
  | tmp t => simp only [res1C, Option.some.injEq] at h; subst h; exact ⟨_, rfl, hs t⟩
  | cell c t =>
    unfold res1C at h
    simp only at h
    split at h
    · rename_i k off hx
      split at h
      · rename_i cs i hk hi
        have hsc := hs c
        rw [hx] at hsc
        obtain ⟨b, hp, x, h1, h2⟩ := load_run (P := P) hok hsc hk (mkC_ok (hT _ _ hi)) h
        refine ⟨x, ?_, h2⟩
        simp only [res1, Sem.run_bind, hp, asAddr, Sem.run_pure, Result.andThen_ok, h1]
      · cases h
    · cases h
end
end Go.Proofs.YtmnpjaglgalobaaGreatW.C

/-
  A canonical executor: calls. Laws over any program; no condition.
-/
namespace Go.Proofs.YtmnpjaglgalobaaGreatW.C
open Go Go.RowKit
open Go.Proofs.YtmnpjaglgalobaaGreatW.E (upd upd_same upd_ne upd_comm dstOK dstOK_spec callable res1 results_eq)
set_option linter.unusedVariables false
set_option linter.unusedSimpArgs false

section
variable {P : Program} {T : CTab} {base : Nat → Prop} {w0 : World}
theorem run_resMC (hT : T.OK P) {st : St} {E : Env} {w : World} (hok : OK base w0 E st.B w) {a : Act} (hs : ∀ t, RV E (st.s t) (a.tmps.getD t undef)) (hn : a.tmps.size = st.n) (hd : a.defers = []) : ∀ (rs : List ResultVar) (vs : List CV), resMC T st rs = some vs →
    ∃ xs : List Value, (rs.mapM (res1 a.tmps)).run P w = .ok xs w ∧ vs.length = xs.length ∧ rs.length = vs.length ∧ ∀ (i : Nat) c x, vs[i]? = some c → xs[i]? = some x → RV E c x
  | [], vs, h => by simp [resMC] at h; subst h; exact ⟨[], rfl, rfl, rfl, by simp⟩
  | r :: rs, vs, h => by
    unfold resMC at h
    split at h
    · rename_i v vs' hv hvs
      cases h
      obtain ⟨x, h1, h2⟩ := run_res1C (P := P) hT hok hs hn hd hv
      obtain ⟨xs, h3, h4, h5, h6⟩ := run_resMC hT hok hs hn hd rs vs' hvs
      refine ⟨x :: xs, ?_, by simp [h4], by simp [h5], fun i c y hc hy => ?_⟩
      · simp only [List.mapM_cons, Sem.run_bind, h1, Result.andThen_ok, h3, Sem.run_pure]
      · cases i with
        | zero => simp at hc hy; subst hc; subst hy; exact h2
        | succ i => exact h6 i c y (by simpa using hc) (by simpa using hy)
    · cases h
theorem run_resC (hT : T.OK P) {st : St} {E : Env} {w : World} (hok : OK base w0 E st.B w) {fn : Func} {a : Act} (hs : ∀ t, RV E (st.s t) (a.tmps.getD t undef)) (hn : a.tmps.size = st.n) (hd : a.defers = []) {v : CV} (h : resC T st fn.results.toList = some v) :
    ∃ x, (results fn a.tmps).run P w = .ok x w ∧ RV E v x := by
  rw [results_eq]
  unfold resC at h
  split at h
  · rename_i r hr
    obtain ⟨x, h1, h2⟩ := run_res1C (P := P) hT hok hs hn hd h
    refine ⟨x, ?_, h2⟩
    rw [hr]
    simp [h1]
  · rename_i hne
    split at h
    · rename_i vs hvs
      cases h
      obtain ⟨xs, h1, h2, h4, h3⟩ := run_resMC (P := P) hT hok hs hn hd _ _ hvs
      have hlen : xs.length ≠ 1 := by
        intro e
        obtain ⟨r, hr⟩ := List.length_eq_one_iff.1 (show fn.results.toList.length = 1 by omega)
        exact hne r hr
      refine ⟨.tuple xs.toArray, ?_, .tup _ _ (by simp [h2]) (fun i c x hc hx => h3 i c x hc (by simpa using hx))⟩
      simp only [Sem.run_bind, h1, Result.andThen_ok, Sem.run_pure]
      rw [dif_neg (by simpa using hlen)]
    · cases h
end

/-- From the state told, the code ends as told. -/
def CW (P : Program) (base : Nat → Prop) (w0 : Base) (c : Code) (Q : Exit → St → Prop) (st : St) : Prop :=
  ∀ a w, Rel base w0 st a w → c.wp P (fun e a' w' => ∃ st', Q e st' ∧ Rel base w0 st' a' w') a w
def Fin (T : CTab) (rs : List ResultVar) (R : CV → (Nat → Ent) → Prop) : Exit → St → Prop
  | .normal, st => ∃ r, resC T st rs = some r ∧ R r st.B
  | .ret, st => ∃ r, resC T st rs = some r ∧ R r st.B
  | _, _ => False
/-- Called with these values, where the boxes are so, the function ends as told. -/
def CallTo (P : Program) (T : CTab) (g : FuncId) (args : List CV) (B : Nat → Ent) (R : CV → (Nat → Ent) → Prop) : Prop :=
  callable P g = true ∧ ∃ fn c, P.funcs[g]? = some fn ∧ fn.body = some c ∧ args.length ≤ fn.ntmps ∧
    ∀ base w0, CW P base w0 c (Fin T fn.results.toList R) ⟨fn.ntmps, fun t => args.getD t (.val undef), B⟩
def calleeC (ev : Operand → CV) (c : Call) : Option (FuncId × List CV) :=
  match c.callee with
  | .value f => match ev f with
    | .fn g first caps => some (g, first ++ (c.args.toList.map ev ++ caps))
    | _ => none
  | _ => none

section
variable {P : Program} {T : CTab} {base : Nat → Prop} {w0 : World} {st : St} {o : Oper}
theorem run_callC {E : Env} {w : World} {a : Act} (hs : ∀ t, RV E (st.s t) (a.tmps.getD t undef)) {c : Call} (ho : o.op = .call c) {g : FuncId} {args : List CV} (hc : calleeC (evalC st) c = some (g, args)) (hg : callable P g = true) :
    ∃ vs : Array Value, (execOp a.eval o).run P w = .ok (.enter g vs) w ∧ args.length = vs.size ∧ ∀ (i : Nat) x u, args[i]? = some x → vs[i]? = some u → RV E x u := by
  unfold calleeC at hc
  split at hc
  · rename_i f hf
    split at hc
    · rename_i g' first caps hev
      simp only [Option.some.injEq, Prod.mk.injEq] at hc
      obtain ⟨rfl, rfl⟩ := hc
      have h1 := evalC_ok hs f
      rw [hev] at h1
      obtain ⟨fv, cv, h2, h3, h4, h5, h6⟩ : ∃ fv cv : Array Value, a.eval f = .func (.func g') fv cv ∧ first.length = fv.size ∧ caps.length = cv.size ∧ (∀ (i : Nat) c u, first[i]? = some c → fv[i]? = some u → RV E c u) ∧ ∀ (i : Nat) c u, caps[i]? = some c → cv[i]? = some u → RV E c u := by
        generalize a.eval f = v at h1
        cases h1 with | fn _ _ _ us vs hl0 hl h0 h => exact ⟨us, vs, rfl, hl0, hl, h0, h⟩
      refine ⟨fv ++ (c.args.map a.eval ++ cv), ?_, by simp [h3, h4], fun i x u hx hu => ?_⟩
      · unfold callable at hg
        split at hg
        · rename_i fn hfn
          simp only [Bool.and_eq_true, bne_iff_ne, ne_eq] at hg
          have hb : fn.body.isNone = false := by cases hbb : fn.body <;> simp_all
          simp only [execOp, ho, resolve, hf, h2, Deferred.ofValue, Sem.run_bind, Sem.run_pure, Result.andThen_ok, invoke, callFunc, run_program, hfn]
          rw [← Array.append_assoc]
          simp [hg.1, hb]
        · cases hg
      · by_cases hi0 : i < fv.size
        · rw [List.getElem?_append_left (by omega)] at hx
          rw [Array.getElem?_append_left hi0] at hu
          exact h5 i x u hx hu
        · rw [List.getElem?_append_right (by omega)] at hx
          rw [Array.getElem?_append_right (by omega)] at hu
          rw [h3] at hx
          generalize i - fv.size = i at hx hu
          by_cases hi : i < c.args.size
          · rw [List.getElem?_append_left (by simpa using hi)] at hx
            rw [Array.getElem?_append_left (by simpa using hi)] at hu
            simp only [List.getElem?_map, Option.map_eq_some_iff, Array.getElem?_toList] at hx
            obtain ⟨y, hy, rfl⟩ := hx
            simp only [Array.getElem?_map, hy, Option.map_some, Option.some.injEq] at hu
            subst hu
            exact evalC_ok hs y
          · rw [List.getElem?_append_right (by simp; omega)] at hx
            rw [Array.getElem?_append_right (by simp; omega)] at hu
            simp only [List.length_map, Array.length_toList] at hx
            simp only [Array.size_map] at hu
            exact h6 _ x u hx hu
    · cases hc
  · cases hc

/-- A call of a function of which it is told how it ends. -/
theorem wp_call (hT : T.OK P) {c : Call} (ho : o.op = .call c) {g : FuncId} {args : List CV} (hc : calleeC (evalC st) c = some (g, args)) {R : CV → (Nat → Ent) → Prop} (hcall : CallTo P T g args st.B R)
    {E : Env} {a : Act} {w : World} (hok : OK base w0 E st.B w) (hs : ∀ t, RV E (st.s t) (a.tmps.getD t undef)) {K : Act → World → Prop} {Q : Exit → Act → World → Prop}
    (hK : ∀ r B' v w' E', R r B' → E.Le E' → (∀ k, st.B k = .dead → B' k = .dead ∧ E'.bm k = E.bm k) → OK base w0 E' B' w' → RV E' r v → K (a.put o.dst v) w') : o.wp P a w K Q := by
  obtain ⟨hcb, fn, code, hf, hb, hle, hbody⟩ := hcall
  obtain ⟨vs, hrun, hlen, hvs⟩ := run_callC (P := P) (w := w) hs ho hc hcb
  unfold Oper.wp
  rw [hrun]
  show Calls P g vs w _
  have hslots : ∀ t, RV E (args.getD t (.val undef)) ((vs ++ Array.replicate (fn.ntmps - vs.size) undef).getD t undef) := fun t => by
    by_cases ht : t < vs.size
    · have e1 : (vs ++ Array.replicate (fn.ntmps - vs.size) undef).getD t undef = vs[t] := by
        simp [Array.getD, Array.size_append, Array.size_replicate, show t < vs.size + (fn.ntmps - vs.size) by omega, Array.getElem_append_left ht]
      have ht' : t < args.length := by omega
      have e2 : args.getD t (.val undef) = args[t] := by simp only [List.getD_eq_getElem?_getD, List.getElem?_eq_getElem ht', Option.getD_some]
      rw [e1, e2]
      exact hvs t _ _ (List.getElem?_eq_getElem ht') (by simp [ht])
    · have e1 : (vs ++ Array.replicate (fn.ntmps - vs.size) undef).getD t undef = undef := by
        rw [Array.getD_eq_getD_getElem?, Array.getElem?_append_right (by omega), Array.getElem?_replicate]
        split <;> rfl
      have e2 : args.getD t (.val undef) = .val undef := by
        simp only [List.getD_eq_getElem?_getD, List.getElem?_eq_none (show args.length ≤ t by omega), Option.getD_none]
      rw [e1, e2]
      exact .val _
  have hrel0 : Rel base ⟨w0, E, st.B⟩ ⟨fn.ntmps, fun t => args.getD t (.val undef), st.B⟩ { tmps := vs ++ Array.replicate (fn.ntmps - vs.size) undef, defers := [] } w :=
    ⟨⟨E, hok, Env.Le.refl _, fun k hk => ⟨hk, rfl⟩, hslots⟩, by simp; omega, rfl⟩
  refine calls_of_wp hf hb (wp_mono (hbody base ⟨w0, E, st.B⟩ _ w hrel0) fun e a' w' ⟨st', hq, hrel'⟩ => ?_)
  have fin : (∃ r, resC T st' fn.results.toList = some r ∧ R r st'.B) → a'.defers = [] ∧ ∃ v, (results fn a'.tmps).run P w' = .ok v w' ∧ K (a.put o.dst v) w' := by
    rintro ⟨r, hr, hR⟩
    obtain ⟨E', hok', hle', hdd, hs'⟩ := hrel'.ex
    obtain ⟨x, hx, hxr⟩ := run_resC (P := P) hT hok' hs' hrel'.size hrel'.defs hr
    exact ⟨hrel'.defs, x, hx, hK r st'.B x w' E' hR hle' hdd hok' hxr⟩
  cases e with
  | normal => exact fin hq
  | ret => exact fin hq
  | _ => exact hq.elim

/-- A call that ends in one way, as one operation. -/
theorem does_callC (hT : T.OK P) {c : Call} (ho : o.op = .call c) {g : FuncId} {args : List CV} (hc : calleeC (evalC st) c = some (g, args)) {r : CV} {ov : Nat → Option Ent} (hcall : CallTo P T g args st.B fun r' B' => r' = r ∧ B' = ovr st.B ov) : Does P base w0 st o ⟨r, ov⟩ :=
  fun E a w hok hs hn hd K Q hK => wp_call hT ho hc hcall hok hs fun r' B' v w' E' ⟨h1, h2⟩ hle hdd hok' hrv => by
    subst h1; subst h2
    exact hK v w' E' hle (fun k hk _ => (hdd k hk).2) hok' hrv
end
end Go.Proofs.YtmnpjaglgalobaaGreatW.C

/-
  A canonical executor: its state, in tries. Laws over any program; no condition.
-/
namespace Go.Proofs.YtmnpjaglgalobaaGreatW.C
open Go Go.RowKit
open Go.Proofs.YtmnpjaglgalobaaGreatW.E (upd upd_same upd_ne upd_comm)
set_option linter.unusedVariables false
set_option linter.unusedSimpArgs false

inductive Tr (α : Type) where
  | lf
  | nd (l : Tr α) (v : Option α) (r : Tr α)
def Tr.get {α : Type} : Tr α → Nat → Option α
  | .lf, _ => none
  | .nd l v r, k => bif Nat.beq k 0 then v else bif Nat.beq (k % 2) 1 then l.get (k / 2) else r.get (k / 2 - 1)
/-- none: the key is too large for the depth. -/
def Tr.set {α : Type} : Nat → Tr α → Nat → α → Option (Tr α)
  | 0, _, _, _ => none
  | f + 1, t, k, x =>
    let l := match t with | .lf => .lf | .nd l _ _ => l
    let v := match t with | .lf => none | .nd _ v _ => v
    let r := match t with | .lf => .lf | .nd _ _ r => r
    bif Nat.beq k 0 then some (.nd l (some x) r)
    else bif Nat.beq (k % 2) 1 then (match Tr.set f l (k / 2) x with
      | some l' => some (.nd l' v r)
      | none => none)
    else (match Tr.set f r (k / 2 - 1) x with
      | some r' => some (.nd l v r')
      | none => none)
theorem Tr.get_nd {α : Type} (l : Tr α) (v : Option α) (r : Tr α) (k : Nat) : (Tr.nd l v r).get k = if k = 0 then v else if k % 2 = 1 then l.get (k / 2) else r.get (k / 2 - 1) := by
  rw [Tr.get]
  simp only [cond_eq_ite, Nat.beq_eq]
theorem Tr.get_set {α : Type} : ∀ (f : Nat) (t : Tr α) (k : Nat) (x : α) (t' : Tr α), Tr.set f t k x = some t' → ∀ j, t'.get j = if j = k then some x else t.get j
  | 0, t, k, x, t', h, j => by cases h
  | f + 1, t, k, x, t', h, j => by
    obtain ⟨l, v, r, ht, hl⟩ : ∃ l v r, (∀ j, t.get j = (Tr.nd l v r).get j) ∧ Tr.set (f + 1) t k x = Tr.set (f + 1) (.nd l v r) k x := by
      cases t with
      | lf => exact ⟨.lf, none, .lf, fun j => by rw [Tr.get_nd]; simp [Tr.get], rfl⟩
      | nd l v r => exact ⟨l, v, r, fun _ => rfl, rfl⟩
    rw [ht j]
    rw [hl] at h
    unfold Tr.set at h
    simp only [cond_eq_ite, Nat.beq_eq] at h
    split at h
    · rename_i hk
      cases h
      rw [Tr.get_nd, Tr.get_nd]
      by_cases hj : j = 0
      · subst hj; subst hk; simp
      · rw [if_neg hj, if_neg hj, if_neg (show ¬ j = k by omega)]
    · rename_i hk
      split at h
      · rename_i hodd
        split at h
        · rename_i l' hl'
          cases h
          have ih := Tr.get_set f l (k / 2) x l' hl'
          rw [Tr.get_nd, Tr.get_nd, ih (j / 2)]
          by_cases hj : j = 0
          · rw [if_pos hj, if_pos hj, if_neg (by omega)]
          · rw [if_neg hj, if_neg hj]
            by_cases hjo : j % 2 = 1
            · rw [if_pos hjo, if_pos hjo]
              by_cases hjk : j = k
              · subst hjk; simp
              · rw [if_neg (by omega), if_neg hjk]
            · rw [if_neg hjo, if_neg hjo, if_neg (by omega)]
        · cases h
      · rename_i hev
        split at h
        · rename_i r' hr'
          cases h
          have ih := Tr.get_set f r (k / 2 - 1) x r' hr'
          rw [Tr.get_nd, Tr.get_nd, ih (j / 2 - 1)]
          by_cases hj : j = 0
          · rw [if_pos hj, if_pos hj, if_neg (by omega)]
          · rw [if_neg hj, if_neg hj]
            by_cases hjo : j % 2 = 1
            · rw [if_pos hjo, if_pos hjo, if_neg (by omega)]
            · rw [if_neg hjo, if_neg hjo]
              by_cases hjk : j = k
              · subst hjk; simp
              · rw [if_neg (by omega), if_neg hjk]
        · cases h

/-- The executor's state: slots; boxes, each with the time of its last write; the time, which is the next key. -/
structure X where
  n : Nat
  s : Tr CV
  B : Tr (Ent × Nat)
  nk : Nat
def X.slot (x : X) (t : Nat) : CV := (x.s.get t).getD (.val undef)
def entOf : Option (Ent × Nat) → Ent
  | some (e, _) => e
  | none => .un
def X.ent (x : X) (k : Nat) : Ent := entOf (x.B.get k)
def X.st (x : X) : St := ⟨x.n, x.slot, x.ent⟩

def X.putS (x : X) (dst : Option Nat) (v : CV) : Option X := match dst with
  | none => some x
  | some t => bif Nat.blt t x.n then (match Tr.set 20 x.s t v with
      | some s' => some { x with s := s' }
      | none => none) else none
/-- Writes, all at one time; none is to a box that is dead. -/
def putL : List (Nat × Ent) → Nat → Tr (Ent × Nat) → Option (Tr (Ent × Nat))
  | [], _, B => some B
  | (k, e) :: l, t, B => match entOf (B.get k) with
    | .dead => none
    | _ => match putL l t B with
      | some B' => Tr.set 40 B' k (e, t)
      | none => none
def X.putB (x : X) (wr : List (Nat × Ent)) : Option X := match wr with
  | [] => some x
  | wr => match putL wr x.nk x.B with
    | some B' => some { x with B := B', nk := x.nk + 1 }
    | none => none

theorem X.putS_st {x x' : X} {dst : Option Nat} {v : CV} (h : x.putS dst v = some x') : x'.st = x.st.app dst { v } ∧ x'.n = x.n ∧ x'.B = x.B ∧ x'.nk = x.nk ∧ ∀ t, dst = some t → t < x.n := by
  unfold X.putS at h
  cases dst with
  | none =>
    cases h
    exact ⟨rfl, rfl, rfl, rfl, by simp⟩
  | some t =>
    simp only [cond_eq_ite] at h
    split at h
    · rename_i hlt
      have hlt' : t < x.n := by simpa using hlt
      split at h
      · rename_i s' hs
        cases h
        refine ⟨?_, rfl, rfl, rfl, fun u hu => by cases hu; exact hlt'⟩
        unfold X.st St.app
        simp only [St.mk.injEq, true_and]
        refine ⟨?_, rfl⟩
        funext j
        unfold X.slot
        simp only [Tr.get_set _ _ _ _ _ hs j]
        unfold upd
        by_cases e : j = t
        · simp [e]
        · simp [e]
      · cases h
    · cases h

/-- What was written since. -/
structure Later (x x' : X) : Prop where
  nk : x.nk ≤ x'.nk
  B : ∀ k, x'.B.get k = x.B.get k ∨ ∃ e s, x'.B.get k = some (e, s) ∧ x.nk ≤ s
  dead : ∀ k, x.ent k = .dead → x'.ent k = .dead
theorem Later.refl (x : X) : Later x x := ⟨Nat.le_refl _, fun _ => .inl rfl, fun _ h => h⟩
theorem Later.trans {x y z : X} (h : Later x y) (k : Later y z) : Later x z := ⟨Nat.le_trans h.nk k.nk, fun j => by
  rcases k.B j with h1 | ⟨e, s, h1, h2⟩
  · rcases h.B j with h3 | ⟨e, s, h3, h4⟩
    · exact .inl (h1.trans h3)
    · exact .inr ⟨e, s, h1.trans h3, h4⟩
  · exact .inr ⟨e, s, h1, Nat.le_trans h.nk h2⟩, fun j hj => k.dead j (h.dead j hj)⟩
theorem Later.same {x x' : X} (hB : x'.B = x.B) (hn : x'.nk = x.nk) : Later x x' := ⟨by rw [hn]; exact Nat.le_refl _, fun k => .inl (by rw [hB]), fun k h => by unfold X.ent; rw [hB]; exact h⟩

theorem putL_ok : ∀ (wr : List (Nat × Ent)) (t : Nat) (B B' : Tr (Ent × Nat)), putL wr t B = some B' →
    (∀ k, entOf (B'.get k) = ovr (fun j => entOf (B.get j)) (ovl wr) k) ∧ (∀ k, B'.get k = B.get k ∨ ∃ e, B'.get k = some (e, t)) ∧ ∀ k, ovl wr k ≠ none → entOf (B.get k) ≠ .dead
  | [], t, B, B', h => by
    cases h
    exact ⟨fun k => rfl, fun k => .inl rfl, fun k hk => absurd rfl hk⟩
  | (k, e) :: l, t, B, B', h => by
    unfold putL at h
    split at h
    · cases h
    · rename_i hnd
      split at h
      · rename_i B1 h1
        obtain ⟨g1, g2, g3⟩ := putL_ok l t B B1 h1
        have hg := Tr.get_set _ _ _ _ _ h
        refine ⟨fun j => ?_, fun j => ?_, fun j hj => ?_⟩
        · rw [hg j]
          unfold ovr ovl
          by_cases e1 : j = k
          · simp [e1, entOf]
          · rw [if_neg e1, if_neg e1]
            exact g1 j
        · rw [hg j]
          by_cases e1 : j = k
          · right; exact ⟨e, by rw [if_pos e1]⟩
          · rw [if_neg e1]; exact g2 j
        · unfold ovl at hj
          by_cases e1 : j = k
          · subst e1; exact hnd
          · rw [if_neg e1] at hj; exact g3 j hj
      · cases h

theorem X.putB_ok {x x' : X} {wr : List (Nat × Ent)} (h : x.putB wr = some x') : x'.n = x.n ∧ x'.s = x.s ∧ x'.ent = ovr x.ent (ovl wr) ∧ Later x x' ∧ ∀ k, ovl wr k ≠ none → x.ent k ≠ .dead := by
  unfold X.putB at h
  split at h
  · cases h
    exact ⟨rfl, rfl, rfl, .refl x, fun k hk => absurd rfl hk⟩
  · split at h
    · rename_i B' hB
      cases h
      obtain ⟨g1, g2, g3⟩ := putL_ok _ _ _ _ hB
      refine ⟨rfl, rfl, funext g1, ⟨Nat.le_succ _, fun k => ?_, fun k hk => ?_⟩, g3⟩
      · rcases g2 k with h | ⟨e, h⟩
        · exact .inl h
        · exact .inr ⟨e, _, h, Nat.le_refl _⟩
      · have h1 := g1 k
        have h2 : ovl wr k = none := by
          cases hq : ovl wr k with
          | none => rfl
          | some y => exact absurd hk (g3 k (by rw [hq]; simp))
        unfold ovr at h1
        rw [h2] at h1
        exact h1.trans hk
    · cases h
end Go.Proofs.YtmnpjaglgalobaaGreatW.C

/-
  A canonical executor: the run. Laws over any program; no condition.
-/
namespace Go.Proofs.YtmnpjaglgalobaaGreatW.C
open Go Go.RowKit
open Go.Proofs.YtmnpjaglgalobaaGreatW.E (upd upd_same upd_ne upd_comm dstOK dstOK_spec callable)
set_option linter.unusedVariables false
set_option linter.unusedSimpArgs false

/-- One operation, no Go function called. -/
def stepX (P : Program) (T : CTab) (x : X) (o : Oper) : Option X := match cop P T x.nk (evalC x.st) x.ent o with
  | some (v, wr) => match x.putB wr with
    | some x1 => x1.putS o.dst v
    | none => none
  | none => none
/-- The outcomes of a range's step. -/
def nextX (x : X) (it : Operand) : Option (List Out) := match evalC x.st it with
  | .ptr r 0 => match x.ent r with
    | .itr m since seen last => match x.ent m with
      | .mpb es cl => if es.all (fun e => decide (e.2.2 < since)) = true ∧ since ≤ last then
          some (match leftC es seen with
            | [] => [(.tup [.val (.bool false)], [])]
            | l => l.map fun e => (.tup [.val (.bool true), .val e.1, e.2.1], [(r, .itr m since (seen ++ [e.2.2]) cl)]))
        else none
      | _ => none
    | _ => none
  | _ => none
def putX (x : X) (dst : Option Nat) (r : Out) : Option X := match x.putB r.2 with
  | some x1 => x1.putS dst r.1
  | none => none
def argsTr : List CV → Nat → Tr CV → Option (Tr CV)
  | [], _, t => some t
  | c :: cs, i, t => match Tr.set 20 t i c with
    | some t' => argsTr cs (i + 1) t'
    | none => none
theorem argsTr_ok : ∀ (cs : List CV) (i : Nat) (t t' : Tr CV), argsTr cs i t = some t' → ∀ j, t'.get j = if i ≤ j ∧ j < i + cs.length then cs[j - i]? else t.get j
  | [], i, t, t', h, j => by
    cases h
    rw [if_neg (by simp)]
  | c :: cs, i, t, t', h, j => by
    unfold argsTr at h
    split at h
    · rename_i t1 h1
      rw [argsTr_ok cs (i + 1) t1 t' h j, Tr.get_set _ _ _ _ _ h1 j]
      by_cases h2 : j = i
      · subst h2
        rw [if_neg (by omega), if_pos rfl, if_pos (by simp)]
        simp
      · by_cases h3 : i + 1 ≤ j ∧ j < i + 1 + cs.length
        · rw [if_pos h3, if_pos (by simp; omega), show j - i = (j - (i + 1)) + 1 by omega, List.getElem?_cons_succ]
        · rw [if_neg h3, if_neg h2, if_neg (by simp; omega)]
    · cases h

/-- What a call starts from. -/
def enterX (P : Program) (T : CTab) (x : X) (c : Call) : Option (Func × Code × X) := match calleeC (evalC x.st) c with
  | some (g, args) => match P.funcs[g]? with
    | some fn => match fn.body with
      | some code => bif callable P g && Nat.ble args.length fn.ntmps then (match argsTr args 0 .lf with
          | some s => some (fn, code, ⟨fn.ntmps, s, x.B, x.nk⟩)
          | none => none) else none
      | none => none
    | none => none
  | none => none
def leaveX (T : CTab) (fn : Func) (e : Exit) (x : X) : Option (CV × X) := match e with
  | .normal => (resC T x.st fn.results.toList).map (·, x)
  | .ret => (resC T x.st fn.results.toList).map (·, x)
  | _ => none

section
variable {P : Program} {T : CTab} {base : Nat → Prop} {w0 : Base}
theorem putX_ok {x x' : X} {dst : Option Nat} {r : Out} (h : putX x dst r = some x') : x'.st = x.st.app dst ⟨r.1, ovl r.2⟩ ∧ Later x x' ∧ (∀ k, x.st.B k = .dead → ovl r.2 k = none) ∧ ∀ t, dst = some t → t < x.n := by
  unfold putX at h
  split at h
  · rename_i x1 h1
    obtain ⟨g1, g2, g3, g4, g5⟩ := X.putB_ok h1
    obtain ⟨q1, q2, q3, q4, q5⟩ := X.putS_st h
    refine ⟨?_, g4.trans (.same q3 q4), fun k hk => ?_, fun t ht => by rw [← g1]; exact q5 t ht⟩
    · rw [q1]
      have hst : x1.st = ⟨x.n, x.slot, ovr x.ent (ovl r.2)⟩ := by
        have hsl : x1.slot = x.slot := by funext t; unfold X.slot; rw [g2]
        show St.mk x1.n x1.slot x1.ent = _
        rw [g1, g3, hsl]
      rw [hst]
      rfl
    · cases hq : ovl r.2 k with
      | none => rfl
      | some y => exact absurd hk (g5 k (by rw [hq]; simp))
  · cases h
theorem stepX_ok (hT : T.OK P) {x x' : X} {o : Oper} (h : stepX P T x o = some x') : Later x x' ∧ ∀ (base : Nat → Prop) (w0 : Base) (a : Act) (w : World), Rel base w0 x.st a w → ∀ K Q, (∀ a' w', Rel base w0 x'.st a' w' → K a' w') → o.wp P a w K Q := by
  unfold stepX at h
  split at h
  · rename_i v wr hc
    have h' : putX x o.dst (v, wr) = some x' := by
      unfold putX
      split at h
      · rename_i x1 h1; simp only [h1]; exact h
      · cases h
    obtain ⟨g1, g2, g3, g4⟩ := putX_ok h'
    refine ⟨g2, fun base w0 a w hrel K Q hK => ?_⟩
    have hd : Does P base w0.w x.st o ⟨v, ovl wr⟩ := cop_ok (B := x.ent) hT (fun k _ => rfl) hc
    exact hd.rel g3 g4 hrel (fun a' w' hr => hK a' w' (by rw [g1]; exact hr))
  · cases h
end
end Go.Proofs.YtmnpjaglgalobaaGreatW.C

/-
  A canonical executor: the run is sound. Laws over any program; no condition.
-/
namespace Go.Proofs.YtmnpjaglgalobaaGreatW.C
open Go Go.RowKit
open Go.Proofs.YtmnpjaglgalobaaGreatW.E (upd upd_same upd_ne upd_comm dstOK dstOK_spec callable)
set_option linter.unusedVariables false
set_option linter.unusedSimpArgs false

def Sound {R : Type} (base : Nat → Prop) (w0 : Base) (Good : R → Prop) (x : X) (k : Exit → X → R) : Exit → Act → World → Prop :=
  fun e a' w' => ∃ x', Later x x' ∧ Good (k e x') ∧ Rel base w0 x'.st a' w'

theorem loopW_mono {P : Program} {c : Code} {Q Q' : Exit → Act → World → Prop} {a : Act} {w : World} (h : LoopW P c Q a w) (hq : ∀ e a w, Q e a w → Q' e a w) : LoopW P c Q' a w :=
  fun b k cs => let ⟨e, a', w', q, r⟩ := h b k cs; ⟨e, a', w', hq _ _ _ q, r⟩
theorem scopeW_mono {P : Program} {c y : Code} {Q Q' : Exit → Act → World → Prop} {a : Act} {w : World} (h : ScopeW P c y Q a w) (hq : ∀ e a w, Q e a w → Q' e a w) : ScopeW P c y Q' a w :=
  fun b k cs => let ⟨e, a', w', q, r⟩ := h b k cs; ⟨e, a', w', hq _ _ _ q, r⟩
theorem Sound.later {R : Type} {base : Nat → Prop} {w0 : Base} {Good : R → Prop} {x y : X} {k : Exit → X → R} (h : Later x y) {e : Exit} {a : Act} {w : World} (hs : Sound base w0 Good y k e a w) : Sound base w0 Good x k e a w := by
  obtain ⟨x', h1, h2, h3⟩ := hs
  exact ⟨x', h.trans h1, h2, h3⟩

theorem enter_st {P : Program} {T : CTab} {x : X} {c : Call} {fn : Func} {code : Code} {x0 : X} (h : enterX P T x c = some (fn, code, x0)) :
    ∃ g args, calleeC (evalC x.st) c = some (g, args) ∧ callable P g = true ∧ P.funcs[g]? = some fn ∧ fn.body = some code ∧ args.length ≤ fn.ntmps ∧
      x0.st = ⟨fn.ntmps, fun t => args.getD t (.val undef), x.ent⟩ ∧ x0.B = x.B ∧ x0.nk = x.nk := by
  unfold enterX at h
  split at h
  · rename_i g args hc
    split at h
    · rename_i fn' hf
      split at h
      · rename_i code' hb
        simp only [cond_eq_ite] at h
        split at h
        · rename_i hcond
          simp only [Bool.and_eq_true, Nat.ble_eq] at hcond
          split at h
          · rename_i s hs
            cases h
            refine ⟨g, args, hc, hcond.1, hf, hb, by simpa using hcond.2, ?_, rfl, rfl⟩
            unfold X.st
            simp only [St.mk.injEq, true_and]
            refine ⟨?_, rfl⟩
            funext t
            unfold X.slot
            simp only [argsTr_ok _ _ _ _ hs t]
            simp only [Nat.zero_le, true_and, Nat.zero_add, Nat.sub_zero]
            by_cases ht : t < args.length
            · rw [if_pos ht, List.getD_eq_getElem?_getD]
            · rw [if_neg ht, List.getD_eq_getElem?_getD, List.getElem?_eq_none (by omega)]
              rfl
          · cases h
        · cases h
      · cases h
    · cases h
  · cases h

theorem letsOut_mono {Q Q' : Exit → Act → World → Prop} (hq : ∀ e a w, Q e a w → Q' e a w) (h : LetsOut Q) : LetsOut Q' := by
  obtain ⟨a, w, h⟩ := h
  exact ⟨a, w, hq _ _ _ h⟩
theorem wp_monoQ {P : Program} {o : Oper} {a : Act} {w : World} {K : Act → World → Prop} {Q Q' : Exit → Act → World → Prop} (hq : ∀ e a w, Q e a w → Q' e a w) (hh : o.wp P a w K Q) : o.wp P a w K Q' := by
  unfold Oper.wp at *
  generalize (execOp a.eval o).run P w = r at *
  cases r with
  | ok n w' =>
    cases n <;> simp only [Oper.upon] at hh ⊢ <;> first
      | exact hh
      | exact Calls.mono hh (fun e w'' he => by cases e <;> first | exact he | exact hq _ _ _ he | exact letsOut_mono hq he)
  | halt s w' => cases s <;> simp only [Oper.upon] at hh ⊢ <;> first | exact hh | exact hq _ _ _ hh
theorem wpOps_mono {P : Program} {ops : Array Oper} {Q Q' : Exit → Act → World → Prop} (hq : ∀ e a w, Q e a w → Q' e a w) : ∀ (l : List Nat) (a : Act) (w : World), wpOps P ops Q l a w → wpOps P ops Q' l a w
  | [], a, w, h => hq _ _ _ h
  | i :: l, a, w, h => by
    have ih := wpOps_mono (P := P) (ops := ops) hq l
    rw [wpOps_cons] at h ⊢
    unfold wpOp at h ⊢
    cases hi : ops[i]? with
    | none => rw [hi] at h; exact ih _ _ h
    | some o =>
      rw [hi] at h
      simp only at h ⊢
      split at h
      · rename_i hw
        rw [if_pos hw]
        rcases h with h | ⟨h1, h2⟩
        · exact .inl (Oper.wp_mono ih (wp_monoQ hq h))
        · exact .inr ⟨h1, letsOut_mono hq h2⟩
      · rename_i hw
        rw [if_neg hw]
        exact ih _ _ h

theorem nextX_ok {P : Program} {x : X} {it : Operand} {l : List Out} {o : Oper} (ho : o.op = .next it false) (h : nextX x it = some l) (base : Nat → Prop) (w0 : World) : DoesAny P base w0 x.st o (l.map fun r => ⟨r.1, ovl r.2⟩) := by
  unfold nextX at h
  split at h
  · rename_i r hx
    split at h
    · rename_i m since seen last hr
      split at h
      · rename_i es cl hm
        split at h
        · rename_i hc
          have hd := does_next (P := P) (base := base) (w0 := w0) (st := x.st) ho hx hr hm hc.1 hc.2
          have : nextC r m since seen es cl = l.map fun r => ⟨r.1, ovl r.2⟩ := by
            cases h
            unfold nextC
            cases leftC es seen with
            | nil => simp [ovl_0]
            | cons q qs => simp [ovl_1]
          rw [this] at hd
          exact hd
        · cases h
      · cases h
    · cases h
  · cases h

theorem drop_cons {α : Type} {l : List α} {i : Nat} {o : α} {rest : List α} (h : o :: rest = l.drop i) : l[i]? = some o ∧ rest = l.drop (i + 1) := by
  constructor
  · have : (l.drop i)[0]? = some o := by rw [← h]; rfl
    simpa using this
  · rw [← List.drop_drop, ← h]; rfl

end Go.Proofs.YtmnpjaglgalobaaGreatW.C

/-
  A canonical executor: an operation of a region whose order is open. Laws over any program; no condition.
-/
namespace Go.Proofs.YtmnpjaglgalobaaGreatW.C
open Go Go.RowKit
set_option linter.unusedVariables false
set_option linter.unusedSimpArgs false

def keyOf : CV → List Nat
  | .ptr k _ => [k]
  | .sl _ k _ _ _ => [k]
  | .mp k => [k]
  | _ => []
/-- The keys that an operation may look at. -/
def foot (ev : Operand → CV) (o : Oper) (nk : Nat) : List Nat := match o.op with
  | .load _ x => keyOf (ev x)
  | .store _ x _ => keyOf (ev x)
  | .convert _ _ x => keyOf (ev x)
  | .lookup _ x _ _ => keyOf (ev x)
  | .mapUpdate _ x _ _ => keyOf (ev x)
  | .range _ x => nk :: keyOf (ev x)
  | .alloc _ => [nk]
  | .box _ _ => [nk]
  | .buildSlice _ _ _ => [nk]
  | .makeMap _ _ => [nk]
  | .makeSlice _ _ _ => [nk]
  | .call c => (match c.callee with
    | .builtin .len => []
    | .builtin .cap => []
    | .builtin _ => nk :: c.args.toList.flatMap fun x => keyOf (ev x)
    | _ => [])
  | _ => []
def inF (F : List Nat) (k : Nat) : Bool := F.any fun j => Nat.beq j k
/-- What an operation makes, and the keys that it looks at. -/
def stepD (P : Program) (T : CTab) (x : X) (nk : Nat) (o : Oper) : Option (Out × List Nat) :=
  match cop P T nk (evalC (mskS o (inF (foot (evalC x.st) o nk)) x.st)) (hide (inF (foot (evalC x.st) o nk)) x.ent) o with
  | some r => if r.2.all (fun p => inF (foot (evalC x.st) o nk) p.1) = true then some (r, foot (evalC x.st) o nk) else none
  | none => none
theorem inF_iff {F : List Nat} {k : Nat} : inF F k = true ↔ k ∈ F := by
  unfold inF
  rw [List.any_eq_true]
  constructor
  · rintro ⟨j, hj, h⟩
    rw [← Nat.eq_of_beq_eq_true h]; exact hj
  · exact fun h => ⟨k, h, Nat.beq_refl k⟩
theorem ovl_mem : ∀ (wr : List (Nat × Ent)) (k : Nat), ovl wr k ≠ none → ∃ p ∈ wr, p.1 = k
  | [], k, h => absurd rfl h
  | (j, e) :: l, k, h => by
    unfold ovl at h
    by_cases hk : k = j
    · exact ⟨(j, e), by simp, hk.symm⟩
    · rw [if_neg hk] at h
      obtain ⟨p, hp, h1⟩ := ovl_mem l k h
      exact ⟨p, List.mem_cons_of_mem _ hp, h1⟩
theorem stepD_ok {P : Program} {T : CTab} (hT : T.OK P) {x : X} {nk : Nat} {o : Oper} {r : Out} {F : List Nat} (h : stepD P T x nk o = some (r, F)) :
    EffL P o x.st ⟨r.1, ovl r.2⟩ (inF F) ∧ (∀ k, ovl r.2 k ≠ none → inF F k = true) ∧ ∀ k, inF (r.2.map (·.1)) k = true → inF F k = true := by
  unfold stepD at h
  split at h
  · rename_i q hc
    split at h
    · rename_i hall
      cases h
      have hw : ∀ k, ovl r.2 k ≠ none → inF (foot (evalC x.st) o nk) k = true := fun k hk => by
        obtain ⟨p, hp, rfl⟩ := ovl_mem _ _ hk
        exact List.all_eq_true.1 hall p hp
      refine ⟨EffL.of (fun base w0 => ?_) hw, hw, fun k hk => ?_⟩
      rotate_left
      · obtain ⟨j, hj, rfl⟩ := List.mem_map.1 (inF_iff.1 hk)
        exact List.all_eq_true.1 hall j hj
      exact cop_ok (st := mskS o (inF (foot (evalC x.st) o nk)) x.st) (B := hide (inF (foot (evalC x.st) o nk)) x.ent) hT (fun k _ => rfl) hc
    · cases h
  · cases h
end Go.Proofs.YtmnpjaglgalobaaGreatW.C

/-
  A canonical executor: what the operations of an open region look at and write; boxes hidden for a call. Laws over any program; no condition.
-/
namespace Go.Proofs.YtmnpjaglgalobaaGreatW.C
open Go Go.RowKit
set_option linter.unusedVariables false
set_option linter.unusedSimpArgs false

/-- What an operation of a region looks at (fl: all of it, none for a call) and writes. -/
structure Rec where
  i : Nat
  fl : Option (List Nat)
  W : Nat → Bool
  F : Nat → Bool
structure Rec.OK (r : Rec) : Prop where
  sub : ∀ k, r.W k = true → r.F k = true
  fl : ∀ l, r.fl = some l → ∀ k, r.F k = true → k ∈ l
def indR (a b : Rec) : Bool := match a.fl, b.fl with
  | some la, some lb => (la.all fun k => !(a.W k && b.F k)) && lb.all fun k => !(b.W k && a.F k)
  | some la, none => la.all fun k => !b.W k && !(a.W k && b.F k)
  | none, some lb => lb.all fun k => !a.W k && !(b.W k && a.F k)
  | none, none => false
theorem indR_ok {a b : Rec} (ha : a.OK) (hb : b.OK) (h : indR a b = true) : (∀ k, a.W k = true → b.F k = false) ∧ ∀ k, b.W k = true → a.F k = false := by
  unfold indR at h
  have ff : ∀ {x : Bool}, (x = true → False) → x = false := fun {x} h => by cases x; rfl; exact (h rfl).elim
  split at h
  · rename_i la lb h1 h2
    simp only [Bool.and_eq_true, List.all_eq_true, Bool.not_eq_true'] at h
    refine ⟨fun k hk => ff fun hf => ?_, fun k hk => ff fun hf => ?_⟩
    · have := h.1 k (ha.fl la h1 k (ha.sub k hk))
      rw [hk, hf] at this; cases this
    · have := h.2 k (hb.fl lb h2 k (hb.sub k hk))
      rw [hk, hf] at this; cases this
  · rename_i la h1 h2
    simp only [Bool.and_eq_true, List.all_eq_true, Bool.not_eq_true'] at h
    refine ⟨fun k hk => ff fun hf => ?_, fun k hk => ff fun hf => ?_⟩
    · have := (h k (ha.fl la h1 k (ha.sub k hk))).2
      rw [hk, hf] at this; cases this
    · have := (h k (ha.fl la h1 k hf)).1
      rw [hk] at this; cases this
  · rename_i lb h1 h2
    simp only [Bool.and_eq_true, List.all_eq_true, Bool.not_eq_true'] at h
    refine ⟨fun k hk => ff fun hf => ?_, fun k hk => ff fun hf => ?_⟩
    · have := (h k (hb.fl lb h2 k hf)).1
      rw [hk] at this; cases this
    · have := (h k (hb.fl lb h2 k (hb.sub k hk))).2
      rw [hk, hf] at this; cases this
  · cases h

/-- Some boxes are made dead. -/
def hideL : List Nat → Nat → Tr (Ent × Nat) → Option (Tr (Ent × Nat))
  | [], _, B => some B
  | k :: l, t, B => match Tr.set 40 B k (.dead, t) with
    | some B' => hideL l t B'
    | none => none
theorem hideL_ok : ∀ (l : List Nat) (t : Nat) (B B' : Tr (Ent × Nat)), hideL l t B = some B' → ∀ k, B'.get k = if inF l k = true then some (.dead, t) else B.get k
  | [], t, B, B', h, k => by cases h; simp [inF]
  | j :: l, t, B, B', h, k => by
    unfold hideL at h
    split at h
    · rename_i B1 h1
      rw [hideL_ok l t B1 B' h k, Tr.get_set _ _ _ _ _ h1 k]
      have e : inF (j :: l) k = (Nat.beq j k || inF l k) := by simp [inF]
      rw [e]
      by_cases hl : inF l k = true
      · simp [hl]
      · by_cases hk : k = j
        · subst hk; simp
        · have : Nat.beq j k = false := by
            cases hq : Nat.beq j k with
            | false => rfl
            | true => exact absurd (Nat.eq_of_beq_eq_true hq).symm hk
          simp [hl, hk, this]
    · cases h
/-- They are put back. -/
def backL (B0 : Tr (Ent × Nat)) (t : Nat) : List Nat → Tr (Ent × Nat) → Option (Tr (Ent × Nat))
  | [], B => some B
  | k :: l, B => match Tr.set 40 B k ((B0.get k).getD (.un, t)) with
    | some B' => backL B0 t l B'
    | none => none
theorem backL_ok (B0 : Tr (Ent × Nat)) (t : Nat) : ∀ (l : List Nat) (B B' : Tr (Ent × Nat)), backL B0 t l B = some B' → ∀ k, B'.get k = if inF l k = true then some ((B0.get k).getD (.un, t)) else B.get k
  | [], B, B', h, k => by cases h; simp [inF]
  | j :: l, B, B', h, k => by
    unfold backL at h
    split at h
    · rename_i B1 h1
      rw [backL_ok B0 t l B1 B' h k, Tr.get_set _ _ _ _ _ h1 k]
      have e : inF (j :: l) k = (Nat.beq j k || inF l k) := by simp [inF]
      rw [e]
      by_cases hl : inF l k = true
      · simp [hl]
      · by_cases hk : k = j
        · subst hk; simp
        · have : Nat.beq j k = false := by
            cases hq : Nat.beq j k with
            | false => rfl
            | true => exact absurd (Nat.eq_of_beq_eq_true hq).symm hk
          simp [hl, hk, this]
    · cases h
end Go.Proofs.YtmnpjaglgalobaaGreatW.C

/-
  A canonical executor: the run. Laws over any program; no condition.
-/
namespace Go.Proofs.YtmnpjaglgalobaaGreatW.C
open Go Go.RowKit
open Go.Proofs.YtmnpjaglgalobaaGreatW.E (upd upd_same upd_ne upd_comm dstOK dstOK_spec callable)
set_option linter.unusedVariables false
set_option linter.unusedSimpArgs false

inductive Task where
  | code (c : Code)
  | inLoop (c : Code)
  | inScope (c x : Code)
  | ops (ops : Array Oper) (rest : List Oper)
  | dops (ops : Array Oper) (rest : List Oper) (i nk0 : Nat) (recs : List Rec)
structure Ans (R : Type) where
  bad : R
  br : List R → R
/-- A call ends in one way. -/
def one {α : Type} : Ans (Option α) where
  bad := none
  br := fun | [r] => r | _ => none

/-- Does the region say that k comes ahead of i? -/
def ahead (ops : Array Oper) (i k : Nat) : Bool := ((Region.before ops).toList.getD i 0).testBit k
def freeOK (ops : Array Oper) (recs : List Rec) (r : Rec) : Bool := recs.all fun q => ahead ops r.i q.i || indR q r
/-- The keys that a call of an open region does not see. -/
def hidden (ops : Array Oper) (i nk0 : Nat) (recs : List Rec) : List Nat :=
  ((recs.filter fun q => !ahead ops i q.i).flatMap fun q => (q.fl.getD []).filter q.W) ++ List.range' (nk0 + i) (ops.size - i)
def since (t : Nat) (B : Tr (Ent × Nat)) (k : Nat) : Bool := match B.get k with
  | some (_, s) => Nat.ble t s
  | none => false

def runT (P : Program) (T : CTab) : Nat → (R : Type) → Ans R → Task → X → (Exit → X → R) → R
  | 0, _, A, _, _, _ => A.bad
  | f + 1, R, A, .code c, x, k => match c with
    | .skip => k .normal x
    | .region _ ops false => runT P T f R A (.ops ops ops.toList) x k
    | .region _ ops true => bif orderOK ops (Region.before ops).toList && P.follows .mixedOrders then runT P T f R A (.dops ops ops.toList 0 x.nk []) { x with nk := x.nk + ops.size } k else A.bad
    | .seq a b => runT P T f R A (.code a) x fun e x' => match e with
      | .normal => runT P T f R A (.code b) x' k
      | e => k e x'
    | .cond c a b => match evalC x.st c with
      | .val (.bool true) => runT P T f R A (.code a) x k
      | .val (.bool false) => runT P T f R A (.code b) x k
      | _ => A.bad
    | .block id c => runT P T f R A (.code c) x fun e x' => match e with
      | .exit id' => if id' = id then k .normal x' else k (.exit id') x'
      | e => k e x'
    | .loop c => runT P T f R A (.inLoop c) x k
    | .exit id => k (.exit id) x
    | .scope c => runT P T f R A (.inScope c c) x k
    | .label _ => k .normal x
    | .goto l => k (.goto l) x
    | .ret => k .ret x
    | _ => A.bad
  | f + 1, R, A, .inLoop c, x, k => runT P T f R A (.code c) x fun e x' => match e with
    | .normal => runT P T f R A (.inLoop c) x' k
    | e => k e x'
  | f + 1, R, A, .inScope c y, x, k => runT P T f R A (.code y) x fun e x' => match e with
    | .goto l => (match findLabel c l with
      | some rest => runT P T f R A (.inScope c rest) x' k
      | none => A.bad)
    | e => k e x'
  | f + 1, R, A, .ops ops rest, x, k => match rest with
    | [] => k .normal x
    | o :: rest => match awantedC ops o x.st with
      | some false => (match x.putS o.dst (.val undef) with
        | some x' => runT P T f R A (.ops ops rest) x' k
        | none => A.bad)
      | some true => (match stepX P T x o with
        | some x' => runT P T f R A (.ops ops rest) x' k
        | none => match o.op with
          | .call c => (match enterX P T x c with
            | some (fn, code, x0) => (match runT P T f (Option (CV × X)) one (.code code) x0 (leaveX T fn) with
              | some (r, x1) => (match X.putS ⟨x.n, x.s, x1.B, x1.nk⟩ o.dst r with
                | some x' => runT P T f R A (.ops ops rest) x' k
                | none => A.bad)
              | none => A.bad)
            | none => A.bad)
          | .next it false => (match nextX x it with
            | some l => A.br (l.map fun r => match putX x o.dst r with
              | some x' => runT P T f R A (.ops ops rest) x' k
              | none => A.bad)
            | none => A.bad)
          | _ => A.bad)
      | none => A.bad

  | f + 1, R, A, .dops ops rest i nk0 recs, x, k => match rest with
    | [] => k .normal x
    | o :: rest => match awantedC ops o x.st with
      | some false => (match x.putS o.dst (.val undef) with
        | some x' => runT P T f R A (.dops ops rest (i + 1) nk0 recs) x' k
        | none => A.bad)
      | some true => (match stepD P T x (nk0 + i) o with
        | some (r, F) => bif freeOK ops recs ⟨i, some F, fun j => inF (r.2.map (·.1)) j, inF F⟩ then (match putX x o.dst r with
            | some x' => runT P T f R A (.dops ops rest (i + 1) nk0 (⟨i, some F, fun j => inF (r.2.map (·.1)) j, inF F⟩ :: recs)) x' k
            | none => A.bad) else A.bad
        | none => match o.op with
          | .call c => (match hideL (hidden ops i nk0 recs) x.nk x.B with
            | some Bh => (match enterX P T { x with B := Bh } c with
              | some (fn, code, x0) => (match runT P T f (Option (CV × X)) one (.code code) x0 (leaveX T fn) with
                | some (r, x1) => (match backL x.B x.nk (hidden ops i nk0 recs) x1.B with
                  | some B2 => bif freeOK ops recs ⟨i, none, fun j => since x.nk x1.B j && !inF (hidden ops i nk0 recs) j, fun j => !inF (hidden ops i nk0 recs) j⟩ then (match X.putS ⟨x.n, x.s, B2, x1.nk⟩ o.dst r with
                      | some x' => runT P T f R A (.dops ops rest (i + 1) nk0 (⟨i, none, fun j => since x.nk x1.B j && !inF (hidden ops i nk0 recs) j, fun j => !inF (hidden ops i nk0 recs) j⟩ :: recs)) x' k
                      | none => A.bad) else A.bad
                  | none => A.bad)
                | none => A.bad)
              | none => A.bad)
            | none => A.bad)
          | _ => A.bad)
      | none => A.bad
end Go.Proofs.YtmnpjaglgalobaaGreatW.C

/-
  A canonical executor: the run only adds to its state. Laws over any program; no condition.
-/
namespace Go.Proofs.YtmnpjaglgalobaaGreatW.C
open Go Go.RowKit
open Go.Proofs.YtmnpjaglgalobaaGreatW.E (upd upd_same upd_ne upd_comm dstOK dstOK_spec callable)
set_option linter.unusedVariables false
set_option linter.unusedSimpArgs false

theorem leave_eq {T : CTab} {fn : Func} {e : Exit} {x x1 : X} {r : CV} (h : leaveX T fn e x = some (r, x1)) : x = x1 ∧ (e = .normal ∨ e = .ret) ∧ resC T x1.st fn.results.toList = some r := by
  cases e with
  | normal =>
    obtain ⟨q, hq1, hq2⟩ := Option.map_eq_some_iff.1 h
    cases hq2
    exact ⟨rfl, .inl rfl, hq1⟩
  | ret =>
    obtain ⟨q, hq1, hq2⟩ := Option.map_eq_some_iff.1 h
    cases hq2
    exact ⟨rfl, .inr rfl, hq1⟩
  | _ => cases h
theorem enter_B {P : Program} {T : CTab} {x : X} {c : Call} {fn : Func} {code : Code} {x0 : X} (h : enterX P T x c = some (fn, code, x0)) : x0.B = x.B ∧ x0.nk = x.nk := by
  obtain ⟨g, caps, c1, c2, c3, c4, c5, c6, c7, c8⟩ := enter_st h
  exact ⟨c7, c8⟩
theorem one_bad {α : Type} {q : α} : ¬ (one (α := α)).bad = some q := by simp [one]
theorem one_br {α : Type} {q : α} : ∀ l, (one (α := α)).br l = some q → ∃ r ∈ l, r = some q
  | [r], h => ⟨r, by simp, h⟩
  | [], h => by simp [one] at h
  | _ :: _ :: _, h => by simp [one] at h
theorem one_brA {α : Type} {q : α} : ∀ l, (one (α := α)).br l = some q → ∀ r ∈ l, r = some q
  | [r], h => fun r' hr => by simp at hr; subst hr; exact h
  | [], h => by simp [one] at h
  | _ :: _ :: _, h => by simp [one] at h

/-- The boxes as a call has left them, those that it did not see put back. -/
theorem back_ent {x xh x1 : X} {H : List Nat} {B2 : Tr (Ent × Nat)} {t : Nat} (h1 : hideL H t x.B = some xh.B) (h2 : backL x.B t H x1.B = some B2) (k : Nat) :
    (inF H k = true → entOf (B2.get k) = x.ent k ∧ xh.ent k = .dead) ∧ (inF H k = false → B2.get k = x1.B.get k ∧ xh.B.get k = x.B.get k) := by
  have e1 := hideL_ok _ _ _ _ h1 k
  have e2 := backL_ok _ _ _ _ _ h2 k
  refine ⟨fun hk => ?_, fun hk => ?_⟩
  · rw [if_pos hk] at e1 e2
    refine ⟨?_, by unfold X.ent; rw [e1]; rfl⟩
    rw [e2]
    unfold X.ent
    cases x.B.get k with
    | none => rfl
    | some y => rfl
  · rw [if_neg (by rw [hk]; simp)] at e1 e2
    exact ⟨e2, e1⟩
theorem back_later {x xh x1 : X} {H : List Nat} {B2 : Tr (Ent × Nat)} (hn : xh.nk = x.nk) (h1 : hideL H x.nk x.B = some xh.B) (h2 : backL x.B x.nk H x1.B = some B2) (hl : Later xh x1) (n : Nat) (s : Tr CV) : Later x ⟨n, s, B2, x1.nk⟩ := by
  refine ⟨by have := hl.nk; rw [hn] at this; exact this, fun k => ?_, fun k hk => ?_⟩
  · have e2 := backL_ok _ _ _ _ _ h2 k
    cases hk : inF H k with
    | true =>
      rw [if_pos hk] at e2
      show B2.get k = x.B.get k ∨ ∃ e s, B2.get k = some (e, s) ∧ x.nk ≤ s
      rw [e2]
      cases hx : x.B.get k with
      | none => right; exact ⟨.un, x.nk, rfl, Nat.le_refl _⟩
      | some y => exact .inl rfl
    | false =>
      obtain ⟨g1, g2⟩ := (back_ent (x := x) h1 h2 k).2 hk
      show B2.get k = x.B.get k ∨ ∃ e s, B2.get k = some (e, s) ∧ x.nk ≤ s
      rw [g1, ← g2, ← hn]
      exact hl.B k
  · cases hH : inF H k with
    | true => exact ((back_ent h1 h2 k).1 hH).1.trans hk
    | false =>
      obtain ⟨g1, g2⟩ := (back_ent h1 h2 k).2 hH
      show entOf (B2.get k) = _
      rw [g1]
      refine hl.dead k ?_
      unfold X.ent
      rw [g2]; exact hk

theorem runT_later {P : Program} {T : CTab} (hT : T.OK P) : ∀ (f : Nat) (R : Type) (A : Ans R) (Good : R → Prop), ¬ Good A.bad → (∀ l, Good (A.br l) → ∃ r ∈ l, Good r) → ∀ (task : Task) (x : X) (k : Exit → X → R), Good (runT P T f R A task x k) →
    ∃ e x', Later x x' ∧ Good (k e x') := by
  intro f
  induction f with
  | zero => intro R A Good hbad hbr task x k h; exact absurd h hbad
  | succ f ih =>
    intro R A Good hbad hbr task x k h
    have ih' := ih R A Good hbad hbr
    have thru : ∀ (t : Task) (x1 : X), Later x x1 → Good (runT P T f R A t x1 k) → ∃ e x', Later x x' ∧ Good (k e x') := fun t x1 hl hg => by
      obtain ⟨e, x', h1, h2⟩ := ih' t x1 k hg
      exact ⟨e, x', hl.trans h1, h2⟩
    have thru0 : ∀ (t : Task), Good (runT P T f R A t x k) → ∃ e x', Later x x' ∧ Good (k e x') := fun t hg => thru t x (.refl x) hg
    have ihc : ∀ (code : Code) (x0 x1 : X) (fn : Func) (r : CV), runT P T f (Option (CV × X)) one (.code code) x0 (leaveX T fn) = some (r, x1) → Later x0 x1 := fun code x0 x1 fn r hrun => by
      obtain ⟨e, x', h1, h2⟩ := ih (Option (CV × X)) one (fun q => q = some (r, x1)) one_bad one_br (.code code) x0 (leaveX T fn) hrun
      rw [← (leave_eq h2).1]; exact h1
    cases task with
    | code c =>
      cases c with
      | skip => exact ⟨_, x, .refl x, h⟩
      | label l => exact ⟨_, x, .refl x, h⟩
      | exit id => exact ⟨_, x, .refl x, h⟩
      | goto l => exact ⟨_, x, .refl x, h⟩
      | ret => exact ⟨_, x, .refl x, h⟩
      | region id ops draw =>
        cases draw with
        | true =>
          simp only [runT, cond_eq_ite] at h
          split at h
          · exact thru _ { x with nk := x.nk + ops.size } ⟨Nat.le_add_right _ _, fun _ => .inl rfl, fun _ h => h⟩ h
          · exact absurd h hbad
        | false => exact thru0 _ h
      | seq c d =>
        obtain ⟨e, x1, h1, h2⟩ := ih' (.code c) x _ h
        cases e with
        | normal => exact thru _ _ h1 h2
        | exit id => exact ⟨_, x1, h1, h2⟩
        | goto l => exact ⟨_, x1, h1, h2⟩
        | ret => exact ⟨_, x1, h1, h2⟩
        | panic ch => exact ⟨_, x1, h1, h2⟩
        | outgrown => exact ⟨_, x1, h1, h2⟩
      | cond c d e =>
        simp only [runT] at h
        split at h
        · exact thru0 _ h
        · exact thru0 _ h
        · exact absurd h hbad
      | block id c =>
        obtain ⟨e, x1, h1, h2⟩ := ih' (.code c) x _ h
        cases e with
        | exit id' =>
          simp only at h2
          split at h2
          · exact ⟨_, x1, h1, h2⟩
          · exact ⟨_, x1, h1, h2⟩
        | normal => exact ⟨_, x1, h1, h2⟩
        | goto l => exact ⟨_, x1, h1, h2⟩
        | ret => exact ⟨_, x1, h1, h2⟩
        | panic ch => exact ⟨_, x1, h1, h2⟩
        | outgrown => exact ⟨_, x1, h1, h2⟩
      | loop c => exact thru0 _ h
      | scope c => exact thru0 _ h
      | rangeFunc _ _ _ _ => exact absurd h hbad
      | refuse _ => exact absurd h hbad
    | inLoop c =>
      obtain ⟨e, x1, h1, h2⟩ := ih' (.code c) x _ h
      cases e with
      | normal => exact thru _ _ h1 h2
      | exit id => exact ⟨_, x1, h1, h2⟩
      | goto l => exact ⟨_, x1, h1, h2⟩
      | ret => exact ⟨_, x1, h1, h2⟩
      | panic ch => exact ⟨_, x1, h1, h2⟩
      | outgrown => exact ⟨_, x1, h1, h2⟩
    | inScope c y =>
      obtain ⟨e, x1, h1, h2⟩ := ih' (.code y) x _ h
      cases e with
      | goto l =>
        simp only at h2
        split at h2
        · exact thru _ _ h1 h2
        · exact absurd h2 hbad
      | normal => exact ⟨_, x1, h1, h2⟩
      | exit id => exact ⟨_, x1, h1, h2⟩
      | ret => exact ⟨_, x1, h1, h2⟩
      | panic ch => exact ⟨_, x1, h1, h2⟩
      | outgrown => exact ⟨_, x1, h1, h2⟩
    | ops ops rest =>
      cases rest with
      | nil => exact ⟨_, x, .refl x, h⟩
      | cons o rest =>
        simp only [runT] at h
        split at h
        · split at h
          · rename_i x' hx'
            obtain ⟨q1, q2, q3, q4, q5⟩ := X.putS_st hx'
            exact thru _ _ (.same q3 q4) h
          · exact absurd h hbad
        · split at h
          · rename_i x' hx'
            exact thru _ _ (stepX_ok hT hx').1 h
          · split at h
            · rename_i c hop
              split at h
              · rename_i fn code x0 hen
                split at h
                · rename_i r x1 hrun
                  split at h
                  · rename_i x' hx'
                    have hl := ihc _ _ _ _ _ hrun
                    obtain ⟨b1, b2⟩ := enter_B hen
                    obtain ⟨q1, q2, q3, q4, q5⟩ := X.putS_st hx'
                    exact thru _ _ (((Later.same b1 b2).trans hl).trans (.same q3 q4)) h
                  · exact absurd h hbad
                · exact absurd h hbad
              · exact absurd h hbad
            · rename_i it hop
              split at h
              · rename_i l hl
                obtain ⟨r, hr, hg⟩ := hbr _ h
                obtain ⟨q, hq, rfl⟩ := List.mem_map.1 hr
                split at hg
                · rename_i x' hx'
                  exact thru _ _ (putX_ok hx').2.1 hg
                · exact absurd hg hbad
              · exact absurd h hbad
            · exact absurd h hbad
        · exact absurd h hbad
    | dops ops rest i nk0 recs =>
      cases rest with
      | nil => exact ⟨_, x, .refl x, h⟩
      | cons o rest =>
        simp only [runT, cond_eq_ite] at h
        split at h
        · split at h
          · rename_i x' hx'
            obtain ⟨q1, q2, q3, q4, q5⟩ := X.putS_st hx'
            exact thru _ _ (.same q3 q4) h
          · exact absurd h hbad
        · split at h
          · split at h
            · split at h
              · rename_i x' hx'
                exact thru _ _ (putX_ok hx').2.1 h
              · exact absurd h hbad
            · exact absurd h hbad
          · split at h
            · rename_i c hop
              split at h
              · rename_i Bh hBh
                split at h
                · rename_i fn code x0 hen
                  split at h
                  · rename_i r x1 hrun
                    split at h
                    · rename_i B2 hB2
                      split at h
                      · split at h
                        · rename_i x' hx'
                          have hl := ihc _ _ _ _ _ hrun
                          obtain ⟨b1, b2⟩ := enter_B hen
                          obtain ⟨q1, q2, q3, q4, q5⟩ := X.putS_st hx'
                          exact thru _ _ ((back_later (x := x) (xh := { x with B := Bh }) rfl hBh hB2 ((Later.same b1 b2).trans hl) x.n x.s).trans (.same q3 q4)) h
                        · exact absurd h hbad
                      · exact absurd h hbad
                    · exact absurd h hbad
                  · exact absurd h hbad
                · exact absurd h hbad
              · exact absurd h hbad
            · exact absurd h hbad
        · exact absurd h hbad
end Go.Proofs.YtmnpjaglgalobaaGreatW.C

/-
  A canonical executor: the run is sound. Laws over any program; no condition.
-/
namespace Go.Proofs.YtmnpjaglgalobaaGreatW.C
open Go Go.RowKit
open Go.Proofs.YtmnpjaglgalobaaGreatW.E (upd upd_same upd_ne upd_comm dstOK dstOK_spec callable)
set_option linter.unusedVariables false
set_option linter.unusedSimpArgs false

/-- What is told of a region's operations so far. -/
def RecsOK (fx : Nat → Eff × (Nat → Bool)) (recs : List Rec) (i : Nat) : Prop :=
  (∀ r ∈ recs, r.OK) ∧ ∀ j, j < i → ((fx j).1.ov = (fun _ => none) ∧ (fx j).2 = fun _ => false) ∨ ∃ r ∈ recs, r.i = j ∧ (∀ k, (fx j).1.ov k ≠ none → r.W k = true) ∧ ∀ k, (fx j).2 k = true → r.F k = true
/-- One more. -/
def fxAdd (fx : Nat → Eff × (Nat → Bool)) (i : Nat) (e : Eff) (F : Nat → Bool) : Nat → Eff × (Nat → Bool) := fun j => if j = i then (e, F) else fx j
theorem fxAdd_same {fx : Nat → Eff × (Nat → Bool)} {i : Nat} {e : Eff} {F : Nat → Bool} : fxAdd fx i e F i = (e, F) := by simp [fxAdd]
theorem fxAdd_ne {fx : Nat → Eff × (Nat → Bool)} {i j : Nat} {e : Eff} {F : Nat → Bool} (h : j ≠ i) : fxAdd fx i e F j = fx j := by simp [fxAdd, h]
theorem RecsOK.skip {fx : Nat → Eff × (Nat → Bool)} {recs : List Rec} {i : Nat} (h : RecsOK fx recs i) (v : CV) : RecsOK (fxAdd fx i { v := v } fun _ => false) recs (i + 1) := ⟨h.1, fun j hj => by
  by_cases e : j = i
  · subst e; left; rw [fxAdd_same]; exact ⟨rfl, rfl⟩
  · rw [fxAdd_ne e]; exact h.2 j (by omega)⟩
theorem RecsOK.cons {fx : Nat → Eff × (Nat → Bool)} {recs : List Rec} {i : Nat} (h : RecsOK fx recs i) {r : Rec} (hr : r.OK) (hi : r.i = i) {e : Eff} {F : Nat → Bool} (hW : ∀ k, e.ov k ≠ none → r.W k = true) (hF : ∀ k, F k = true → r.F k = true) :
    RecsOK (fxAdd fx i e F) (r :: recs) (i + 1) := ⟨fun q hq => by
    rcases List.mem_cons.1 hq with rfl | hq
    · exact hr
    · exact h.1 q hq, fun j hj => by
    by_cases e1 : j = i
    · subst e1; right; rw [fxAdd_same]; exact ⟨r, by simp, hi, hW, hF⟩
    · rw [fxAdd_ne e1]
      rcases h.2 j (by omega) with h1 | ⟨q, hq, h2⟩
      · exact .inl h1
      · exact .inr ⟨q, List.mem_cons_of_mem _ hq, h2⟩⟩
theorem mind_of {fx : Nat → Eff × (Nat → Bool)} {recs : List Rec} {i : Nat} (h : RecsOK fx recs i) {r : Rec} (hr : r.OK) (hi : r.i = i) {e : Eff} {F : Nat → Bool} (hW : ∀ k, e.ov k ≠ none → r.W k = true) (hF : ∀ k, F k = true → r.F k = true) {ops : Array Oper}
    (hfree : freeOK ops recs r = true) {j : Nat} (hj : j < i) (ha : ahead ops i j = false) : MInd (fxAdd fx i e F) j i := by
  unfold MInd
  rw [fxAdd_same, fxAdd_ne (show j ≠ i by omega)]
  have ff : ∀ {x : Bool}, (x = true → False) → x = false := fun {x} h => by cases x; rfl; exact (h rfl).elim
  rcases h.2 j hj with ⟨h1, h2⟩ | ⟨q, hq, hqi, hqW, hqF⟩
  · refine ⟨fun k hk => ?_, fun k hk => ?_⟩
    · rw [h1] at hk; exact absurd rfl hk
    · rw [h2]
  · have h3 := List.all_eq_true.1 hfree q hq
    rw [hi, hqi, ha, Bool.false_or] at h3
    obtain ⟨g1, g2⟩ := indR_ok (h.1 q hq) hr h3
    refine ⟨fun k hk => ⟨ff fun hf => ?_, ?_⟩, fun k hk => ff fun hf => ?_⟩
    · have := g1 k (hqW k hk); rw [hF k hf] at this; cases this
    · show e.ov k = none
      cases hov : e.ov k with
      | none => rfl
      | some y =>
        have h5 := hr.sub k (hW k (by rw [hov]; simp))
        rw [g1 k (hqW k hk)] at h5; cases h5
    · have := g2 k (hW k hk); rw [hqF k hf] at this; cases this
theorem mind_skip {fx : Nat → Eff × (Nat → Bool)} {i j : Nat} (hj : j < i) (v : CV) : MInd (fxAdd fx i { v := v } fun _ => false) j i := by
  unfold MInd
  rw [fxAdd_same, fxAdd_ne (show j ≠ i by omega)]
  exact ⟨fun k _ => ⟨rfl, rfl⟩, fun k hk => absurd rfl hk⟩

/-- What a region whose order is open comes to, from one of its operations on. -/
def DopsW (P : Program) {R : Type} (Good : R → Prop) (ops : Array Oper) (rest : List Oper) (i : Nat) (recs : List Rec) (x : X) (k : Exit → X → R) : Prop :=
  rest = ops.toList.drop i → ∀ fx, RecsOK fx recs i → ∃ (fx' : Nat → Eff × (Nat → Bool)) (x' : X), Later x x' ∧ Good (k .normal x') ∧ (∀ j, j < i → fx' j = fx j) ∧ DRun P ops fx' (List.range' i rest.length) x.st x'.st ∧
    ∀ i' k', i ≤ i' → k' < i' → i' < ops.size → ahead ops i' k' = false → MInd fx' k' i'
theorem dops_step {P : Program} {R : Type} {Good : R → Prop} {ops : Array Oper} {o : Oper} {rest : List Oper} {i : Nat} {recs recs' : List Rec} {x x1 : X} {k : Exit → X → R} {fx : Nat → Eff × (Nat → Bool)} {e : Eff} {F : Nat → Bool} (hl : Later x x1)
    (hstep : StepF P ops o x.st e F) (hdst : dstOK o x.st.n = true) (hst : x1.st = x.st.app o.dst e) (hrec : RecsOK (fxAdd fx i e F) recs' (i + 1)) (hm : ∀ j, j < i → ahead ops i j = false → MInd (fxAdd fx i e F) j i)
    (ih : DopsW P Good ops rest (i + 1) recs' x1 k) (hr : o :: rest = ops.toList.drop i) :
    ∃ (fx' : Nat → Eff × (Nat → Bool)) (x' : X), Later x x' ∧ Good (k .normal x') ∧ (∀ j, j < i → fx' j = fx j) ∧ DRun P ops fx' (List.range' i (o :: rest).length) x.st x'.st ∧
      ∀ i' k', i ≤ i' → k' < i' → i' < ops.size → ahead ops i' k' = false → MInd fx' k' i' := by
  obtain ⟨hi, hr'⟩ := drop_cons hr
  have hi' : ops[i]? = some o := by simpa using hi
  obtain ⟨fx', x', h1, h2, h3, h4, h5⟩ := ih hr' _ hrec
  have hfi : fx' i = (e, F) := by rw [h3 i (by omega), fxAdd_same]
  have hfj : ∀ j, j < i → fx' j = fx j := fun j hj => by rw [h3 j (by omega), fxAdd_ne (by omega)]
  refine ⟨fx', x', hl.trans h1, h2, hfj, ?_, fun i' k' g1 g2 g3 g4 => ?_⟩
  · rw [List.length_cons, List.range'_succ]
    exact .cons i _ _ x1.st _ ⟨o, hi', hdst, by rw [hfi]; exact hstep, by rw [hfi]; exact hst⟩ h4
  · by_cases he : i' = i
    · subst he
      have := hm k' g2 g4
      unfold MInd at this ⊢
      rw [fxAdd_same, fxAdd_ne (show k' ≠ i' by omega)] at this
      rw [hfi, hfj k' g2]
      exact this
    · exact h5 i' k' (by omega) g2 g3 g4
theorem dst_ok {o : Oper} {n : Nat} (h : ∀ t, o.dst = some t → t < n) : dstOK o n = true := by
  unfold dstOK
  cases hd : o.dst with
  | none => rfl
  | some t => simpa using h t hd
theorem evalC_msk {o : Oper} {F : Nat → Bool} {st : St} {y : Operand} (hy : y ∈ o.op.operands) : evalC (mskS o F st) y = evalC st y := by
  cases y with
  | tmp t => simp only [evalC, mskS, named_mem.2 hy, if_true]
  | _ => rfl
theorem calleeC_congr {ev ev' : Operand → CV} {c : Call} (h : ∀ y ∈ c.operands, ev' y = ev y) : calleeC ev' c = calleeC ev c := by
  unfold calleeC
  cases hc : c.callee with
  | value f =>
    have ha : c.args.toList.map ev' = c.args.toList.map ev := by
      refine List.map_congr_left fun y hy => h y ?_
      unfold Call.operands
      exact Array.mem_append.2 (.inr (by simpa using hy))
    simp only
    rw [h f (by unfold Call.operands; rw [hc]; simp), ha]
  | _ => rfl

def Ent.isDead : Ent → Bool
  | .dead => true
  | _ => false
theorem Ent.isDead_iff {e : Ent} : e.isDead = true ↔ e = .dead := by cases e <;> simp [Ent.isDead]

def TaskW (P : Program) : Task → (Exit → Act → World → Prop) → Act → World → Prop
  | .code c, Q, a, w => c.wp P Q a w
  | .inLoop c, Q, a, w => LoopW P c Q a w
  | .inScope c y, Q, a, w => ScopeW P c y Q a w
  | .ops ops rest, Q, a, w => ∀ i, rest = ops.toList.drop i → wpOps P ops Q (List.range' i rest.length) a w
  | .dops .., _, _, _ => True
def TaskD (P : Program) {R : Type} (Good : R → Prop) (x : X) (k : Exit → X → R) : Task → Prop
  | .dops ops rest i nk0 recs => DopsW P Good ops rest i recs x k
  | _ => True

/-- A call of which the run tells how it ends. -/
theorem call_to {P : Program} {T : CTab} {f : Nat} (ih : ∀ (R : Type) (A : Ans R) (Good : R → Prop), ¬ Good A.bad → (∀ l, Good (A.br l) → ∀ r ∈ l, Good r) → ∀ (task : Task) (x : X) (k : Exit → X → R), Good (runT P T f R A task x k) →
    TaskD P Good x k task ∧ ∀ (base : Nat → Prop) (w0 : Base) (a : Act) (w : World), Rel base w0 x.st a w → TaskW P task (Sound base w0 Good x k) a w)
    {x x0 x1 : X} {c : Call} {fn : Func} {code : Code} {r : CV} (hen : enterX P T x c = some (fn, code, x0)) (hrun : runT P T f (Option (CV × X)) one (.code code) x0 (leaveX T fn) = some (r, x1)) :
    ∃ g args, calleeC (evalC x.st) c = some (g, args) ∧ CallTo P T g args x.ent fun r' B' => r' = r ∧ B' = x1.ent := by
  obtain ⟨g, caps, c1, c2, c3, c4, c5, c6, c7, c8⟩ := enter_st hen
  refine ⟨g, caps, c1, c2, fn, code, c3, c4, c5, fun base w0 a' w' hrel' => ?_⟩
  have hrel0 : Rel base w0 x0.st a' w' := by rw [c6]; exact hrel'
  have hw := (ih (Option (CV × X)) one (fun q => q = some (r, x1)) one_bad one_brA (.code code) x0 (leaveX T fn) hrun).2 base w0 a' w' hrel0
  refine wp_mono hw fun e a'' w'' hq => ?_
  obtain ⟨x'', h1, h2, h3⟩ := hq
  obtain ⟨rfl, he, hres⟩ := leave_eq h2
  refine ⟨x''.st, ?_, h3⟩
  rcases he with rfl | rfl
  · exact ⟨r, hres, rfl, rfl⟩
  · exact ⟨r, hres, rfl, rfl⟩

/-- A call in a region whose order is open. -/
theorem dcall_ok {P : Program} {T : CTab} (hT : T.OK P) {x xh x1 : X} {H : List Nat} {B2 : Tr (Ent × Nat)} {o : Oper} {c : Call} (hop : o.op = .call c) (hs : xh.s = x.s) (hn : xh.n = x.n) (hnk : xh.nk = x.nk) (h1 : hideL H x.nk x.B = some xh.B) (h2 : backL x.B x.nk H x1.B = some B2) (hl : Later xh x1)
    {g : FuncId} {args : List CV} (hc : calleeC (evalC xh.st) c = some (g, args)) {r : CV} (hcall : CallTo P T g args xh.ent fun r' B' => r' = r ∧ B' = x1.ent) :
    ∃ ov : Nat → Option Ent, EffL P o x.st ⟨r, ov⟩ (fun k => !inF H k) ∧ (∀ k, ov k ≠ none → (since x.nk x1.B k && !inF H k) = true) ∧ (∀ k, ov k ≠ none → x.ent k ≠ .dead) ∧ (fun k => entOf (B2.get k)) = ovr x.ent ov := by
  let F : Nat → Bool := fun k => !inF H k
  let ov : Nat → Option Ent := fun k => if since x.nk x1.B k && !inF H k && !(x.ent k).isDead then some (x1.ent k) else none
  have hov : ∀ k, ov k ≠ none → (since x.nk x1.B k && !inF H k) = true ∧ x.ent k ≠ .dead := fun k hk => by
    simp only [ov] at hk
    split at hk
    · rename_i hcond
      rw [Bool.and_eq_true] at hcond
      refine ⟨hcond.1, fun e => ?_⟩
      have := hcond.2
      rw [Ent.isDead_iff.2 e] at this
      cases this
    · exact absurd rfl hk
  -- what the call has left
  have hleft : ∀ k, x1.ent k = if inF H k then .dead else (ov k).getD (x.ent k) := fun k => by
    cases hH : inF H k with
    | true =>
      simp only [if_true]
      exact hl.dead k ((back_ent (x := x) h1 h2 k).1 hH).2
    | false =>
      obtain ⟨g1, g2⟩ := (back_ent (x := x) h1 h2 k).2 hH
      simp only [Bool.false_eq_true, if_false]
      cases hdd : (x.ent k).isDead with
      | true =>
        have hd := Ent.isDead_iff.1 hdd
        have : ov k = none := by
          cases hq : ov k with
          | none => rfl
          | some y => exact absurd hd (hov k (by rw [hq]; simp)).2
        rw [this, Option.getD_none, hd]
        exact hl.dead k (by unfold X.ent; rw [g2]; exact hd)
      | false =>
        cases hsi : since x.nk x1.B k with
        | true =>
          have : ov k = some (x1.ent k) := by simp only [ov, hsi, hH, hdd]; rfl
          rw [this]; rfl
        | false =>
          have : ov k = none := by simp only [ov, hsi]; rfl
          rw [this, Option.getD_none]
          unfold X.ent
          rcases hl.B k with h5 | ⟨e, s, h5, h6⟩
          · rw [h5, g2]
          · unfold since at hsi
            rw [h5] at hsi
            rw [hnk] at h6
            simp only at hsi
            rw [Nat.ble_eq_true_of_le h6] at hsi
            cases hsi
  have hhB : xh.ent = hide F x.ent := by
    funext k
    unfold hide
    cases hH : inF H k with
    | true => simp only [F, hH]; exact ((back_ent (x := x) h1 h2 k).1 hH).2
    | false =>
      simp only [F, hH]
      show entOf (xh.B.get k) = entOf (x.B.get k)
      rw [((back_ent (x := x) h1 h2 k).2 hH).2]
  have hsl : xh.st.s = x.st.s := by
    show xh.slot = x.slot
    funext t; unfold X.slot; rw [hs]
  have hop' : o.op.operands = c.operands := by rw [hop]; rfl
  have hev : ∀ y ∈ c.operands, evalC (mskS o F x.st) y = evalC xh.st y := fun y hy => by
    rw [evalC_msk (by rw [hop']; exact hy)]
    cases y with
    | tmp t => show x.st.s t = xh.st.s t; rw [hsl]
    | _ => rfl
  have e1 := calleeC_congr hev
  refine ⟨ov, EffL.of (F := F) (fun base w0 => ?_) (fun k hk => ?_), fun k hk => (hov k hk).1, fun k hk => (hov k hk).2, ?_⟩
  · refine does_callC hT (st := mskS o F x.st) hop (e1.trans hc) ?_
    have hB : (mskS o F x.st).B = xh.ent := by rw [hhB]; rfl
    rw [hB]
    have heq : x1.ent = ovr xh.ent ov := by
      funext k
      rw [hleft k, hhB]
      unfold ovr hide
      cases hH : inF H k with
      | true =>
        have : ov k = none := by simp only [ov, hH]; simp
        rw [this]; simp [F, hH]
      | false => simp [F, hH]
    rw [← heq]
    exact hcall
  · have := (hov k hk).1
    rw [Bool.and_eq_true] at this
    exact this.2
  · funext k
    unfold ovr
    cases hH : inF H k with
    | true =>
      have : ov k = none := by simp only [ov, hH]; simp
      rw [this, Option.getD_none]
      exact ((back_ent (x := x) h1 h2 k).1 hH).1
    | false =>
      obtain ⟨g1, g2⟩ := (back_ent (x := x) h1 h2 k).2 hH
      rw [g1]
      have h9 := hleft k
      rw [hH] at h9
      simp only [Bool.false_eq_true, if_false] at h9
      exact h9

theorem Rel.drew {base : Nat → Prop} {w0 : Base} {st : St} {a : Act} {w : World} (h : Rel base w0 st a w) : Rel base w0 st a { w with drawn := w.drawn + 1 } := by
  obtain ⟨E, hok, h1, h2, h3⟩ := h.ex
  exact ⟨⟨E, hok.drawn 1, h1, h2, h3⟩, h.size, h.defs⟩

theorem runT_ok {P : Program} {T : CTab} (hT : T.OK P) : ∀ (f : Nat) (R : Type) (A : Ans R) (Good : R → Prop), ¬ Good A.bad → (∀ l, Good (A.br l) → ∀ r ∈ l, Good r) → ∀ (task : Task) (x : X) (k : Exit → X → R), Good (runT P T f R A task x k) →
    TaskD P Good x k task ∧ ∀ (base : Nat → Prop) (w0 : Base) (a : Act) (w : World), Rel base w0 x.st a w → TaskW P task (Sound base w0 Good x k) a w := by
  intro f
  induction f with
  | zero => intro R A Good hbad hbr task x k h; exact absurd h hbad
  | succ f ih =>
    intro R A Good hbad hbr task x k h
    have ihD : ∀ (task : Task) (x : X) (k : Exit → X → R), Good (runT P T f R A task x k) → TaskD P Good x k task := fun task x k h => (ih R A Good hbad hbr task x k h).1
    refine ⟨?_, fun base w0 a w hrel => ?_⟩
    · cases task with
      | dops ops rest i nk0 recs =>
        intro hr fx hfx
        cases rest with
        | nil => exact ⟨fx, x, .refl x, h, fun _ _ => rfl, .nil _, fun i' k' g1 g2 g3 => by
            have : ops.toList.length ≤ i := List.drop_eq_nil_iff.1 hr.symm
            simp at this; omega⟩
        | cons o rest =>
          simp only [runT, cond_eq_ite] at h
          split at h
          · rename_i hw
            split at h
            · rename_i x' hx'
              obtain ⟨q1, q2, q3, q4, q5⟩ := X.putS_st hx'
              exact dops_step (recs := recs) (.same q3 q4) (.inl ⟨hw, rfl⟩) (dst_ok q5) q1 (hfx.skip _) (fun j hj _ => mind_skip hj _) (ihD _ _ _ h) hr
            · exact absurd h hbad
          · rename_i hw
            split at h
            · rename_i r F hD
              split at h
              · rename_i hfree
                split at h
                · rename_i x' hx'
                  obtain ⟨g1, g2, g3, g4⟩ := putX_ok hx'
                  obtain ⟨d1, d2, d3⟩ := stepD_ok hT hD
                  have hrec : (⟨i, some F, fun j => inF (r.2.map (·.1)) j, inF F⟩ : Rec).OK := ⟨fun k hk => d3 k hk, fun l hl k hk => by cases hl; exact inF_iff.1 hk⟩
                  have hW : ∀ k, (⟨r.1, ovl r.2⟩ : Eff).ov k ≠ none → inF (r.2.map (·.1)) k = true := fun k hk => by
                    obtain ⟨p, hp, rfl⟩ := ovl_mem _ _ hk
                    exact inF_iff.2 (List.mem_map.2 ⟨p, hp, rfl⟩)
                  exact dops_step (recs := recs) g2 (.inr ⟨hw, d1, fun k hk => ⟨d2 k hk, fun hd => hk (g3 k hd)⟩⟩) (dst_ok g4) g1 (hfx.cons hrec rfl hW fun k hk => hk) (fun j hj ha => mind_of hfx hrec rfl hW (fun k hk => hk) hfree hj ha) (ihD _ _ _ h) hr
                · exact absurd h hbad
              · exact absurd h hbad
            · split at h
              · rename_i c hop
                split at h
                · rename_i Bh hBh
                  split at h
                  · rename_i fn code x0 hen
                    split at h
                    · rename_i r x1 hrun
                      split at h
                      · rename_i B2 hB2
                        split at h
                        · rename_i hfree
                          split at h
                          · rename_i x' hx'
                            obtain ⟨e, x9, l1, l2⟩ := runT_later hT f (Option (CV × X)) one (fun q => q = some (r, x1)) one_bad one_br (.code code) x0 (leaveX T fn) hrun
                            rw [(leave_eq l2).1] at l1
                            obtain ⟨b1, b2⟩ := enter_B hen
                            have hl : Later { x with B := Bh } x1 := (Later.same b1 b2).trans l1
                            obtain ⟨g, caps, c1, c2⟩ := call_to ih hen hrun
                            obtain ⟨ov, v1, v2, v3, v4⟩ := dcall_ok (x := x) (xh := { x with B := Bh }) hT hop rfl rfl rfl hBh hB2 hl c1 c2
                            obtain ⟨q1, q2, q3, q4, q5⟩ := X.putS_st hx'
                            have hrec : (⟨i, none, fun j => since x.nk x1.B j && !inF (hidden ops i nk0 recs) j, fun j => !inF (hidden ops i nk0 recs) j⟩ : Rec).OK := ⟨fun k hk => by rw [Bool.and_eq_true] at hk; exact hk.2, fun l hl => by cases hl⟩
                            have hst : x'.st = x.st.app o.dst ⟨r, ov⟩ := by
                              rw [q1]
                              show (⟨x.n, x.slot, fun k => entOf (B2.get k)⟩ : St).app o.dst { v := r } = _
                              rw [v4]
                              rfl
                            exact dops_step (recs := recs) ((back_later (x := x) (xh := { x with B := Bh }) rfl hBh hB2 hl x.n x.s).trans (.same q3 q4)) (.inr ⟨hw, v1, fun k hk => ⟨by have := v2 k hk; rw [Bool.and_eq_true] at this; exact this.2, v3 k hk⟩⟩) (dst_ok q5) hst
                              (hfx.cons hrec rfl v2 fun k hk => hk) (fun j hj ha => mind_of hfx hrec rfl v2 (fun k hk => hk) hfree hj ha) (ihD _ _ _ h) hr
                          · exact absurd h hbad
                        · exact absurd h hbad
                      · exact absurd h hbad
                    · exact absurd h hbad
                  · exact absurd h hbad
                · exact absurd h hbad
              · exact absurd h hbad
          · exact absurd h hbad
      | _ => trivial
    have ih' : ∀ (task : Task) (x : X) (k : Exit → X → R), Good (runT P T f R A task x k) → ∀ (base : Nat → Prop) (w0 : Base) (a : Act) (w : World), Rel base w0 x.st a w → TaskW P task (Sound base w0 Good x k) a w := fun task x k h => (ih R A Good hbad hbr task x k h).2
    have fin : ∀ e, Good (k e x) → Sound base w0 Good x k e a w := fun e h => ⟨x, .refl x, h, hrel⟩
    cases task with
    | code c =>
      cases c with
      | skip => exact wp_skip (fin _ h)
      | label l => exact wp_label (fin _ h)
      | exit id => exact wp_exit (fin _ h)
      | goto l => exact wp_goto (fin _ h)
      | ret => exact wp_ret (fin _ h)
      | region id ops draw =>
        cases draw with
        | true =>
          simp only [runT, cond_eq_ite] at h
          split at h
          · rename_i hcond
            rw [Bool.and_eq_true] at hcond
            have hsz : ops.toList.length = ops.size := by simp
            obtain ⟨fx', x', d1, d2, d3, d4, d5⟩ := ihD _ _ _ h (by simp) (fun _ => ({ v := .any }, fun _ => false)) ⟨by simp, fun j hj => by omega⟩
            refine wp_region_any hcond.2 ?_
            rw [hsz, ← List.range_eq_range'] at d4
            refine wpAny_run hcond.1 (fun i' k' g1 g2 g3 => d5 i' k' (Nat.zero_le _) g1 g2 g3) ops.size _ (List.range ops.size) _ _ a _ (by simp) (fun i => ?_) List.pairwise_lt_range ?_ (by simp) d4 (hrel.drew) (fun a' w' hrel' => ⟨x', Later.trans (y := { x with nk := x.nk + ops.size }) ⟨Nat.le_add_right _ _, fun _ => .inl rfl, fun _ h => h⟩ d1, d2, hrel'⟩)
            · by_cases hi : i < ops.size <;> simp [hi, Array.getD]
            · intro k hk hl
              exfalso
              simp [Array.getD, hk] at hl
          · exact absurd h hbad
        | false =>
          refine wp_region ?_
          have := ih' (.ops ops ops.toList) x k h base w0 a w hrel 0 (by simp)
          rw [List.range_eq_range']
          simpa using this
      | seq c d =>
        refine wp_seq (wp_mono (ih' (.code c) x _ h base w0 a w hrel) fun e a' w' hs => ?_)
        obtain ⟨x', h1, h2, h3⟩ := hs
        cases e with
        | normal => exact wp_mono (ih' (.code d) x' k h2 base w0 a' w' h3) fun e a'' w'' hs => hs.later h1
        | exit id => exact ⟨x', h1, h2, h3⟩
        | goto l => exact ⟨x', h1, h2, h3⟩
        | ret => exact ⟨x', h1, h2, h3⟩
        | panic ch => exact ⟨x', h1, h2, h3⟩
        | outgrown => exact ⟨x', h1, h2, h3⟩
      | cond c d e =>
        simp only [runT] at h
        obtain ⟨E, _, _, _, hs⟩ := hrel.ex
        have hc := evalC_ok hs c
        split at h
        · rename_i hcv
          rw [hcv, RV.val_iff] at hc
          exact wp_cond_true hc (ih' (.code d) x k h base w0 a w hrel)
        · rename_i hcv
          rw [hcv, RV.val_iff] at hc
          exact wp_cond_false hc (ih' (.code e) x k h base w0 a w hrel)
        · exact absurd h hbad
      | block id c =>
        refine wp_block (wp_mono (ih' (.code c) x _ h base w0 a w hrel) fun e a' w' hs => ?_)
        obtain ⟨x', h1, h2, h3⟩ := hs
        cases e with
        | exit id' =>
          simp only [Exit.inBlock]
          simp only at h2
          split
          · rename_i he; rw [if_pos he] at h2; exact ⟨x', h1, h2, h3⟩
          · rename_i he; rw [if_neg he] at h2; exact ⟨x', h1, h2, h3⟩
        | normal => exact ⟨x', h1, h2, h3⟩
        | goto l => exact ⟨x', h1, h2, h3⟩
        | ret => exact ⟨x', h1, h2, h3⟩
        | panic ch => exact ⟨x', h1, h2, h3⟩
        | outgrown => exact ⟨x', h1, h2, h3⟩
      | loop c => exact wp_loopW (ih' (.inLoop c) x k h base w0 a w hrel)
      | scope c => exact wp_scopeW (ih' (.inScope c c) x k h base w0 a w hrel)
      | rangeFunc _ _ _ _ => exact absurd h hbad
      | refuse _ => exact absurd h hbad
    | inLoop c =>
      refine loopW_step (wp_mono (ih' (.code c) x _ h base w0 a w hrel) fun e a' w' hs => ?_)
      obtain ⟨x', h1, h2, h3⟩ := hs
      cases e with
      | normal => exact loopW_mono (ih' (.inLoop c) x' k h2 base w0 a' w' h3) fun e a'' w'' hs => hs.later h1
      | exit id => exact ⟨x', h1, h2, h3⟩
      | goto l => exact ⟨x', h1, h2, h3⟩
      | ret => exact ⟨x', h1, h2, h3⟩
      | panic ch => exact ⟨x', h1, h2, h3⟩
      | outgrown => exact ⟨x', h1, h2, h3⟩
    | inScope c y =>
      refine scopeW_step (wp_mono (ih' (.code y) x _ h base w0 a w hrel) fun e a' w' hs => ?_)
      obtain ⟨x', h1, h2, h3⟩ := hs
      cases e with
      | goto l =>
        simp only at h2 ⊢
        cases hf : findLabel c l with
        | none => rw [hf] at h2; exact absurd h2 hbad
        | some rest =>
          rw [hf] at h2
          exact scopeW_mono (ih' (.inScope c rest) x' k h2 base w0 a' w' h3) fun e a'' w'' hs => hs.later h1
      | normal => exact ⟨x', h1, h2, h3⟩
      | exit id => exact ⟨x', h1, h2, h3⟩
      | ret => exact ⟨x', h1, h2, h3⟩
      | panic ch => exact ⟨x', h1, h2, h3⟩
      | outgrown => exact ⟨x', h1, h2, h3⟩
    | ops ops rest =>
      intro i hr
      cases rest with
      | nil => exact fin _ h
      | cons o rest =>
        obtain ⟨hi, hr'⟩ := drop_cons hr
        have hi' : ops[i]? = some o := by simpa using hi
        rw [List.length_cons, List.range'_succ, wpOps_cons]
        obtain ⟨E, hok, hle0, hdd, hs⟩ := hrel.ex
        have next : ∀ x', Later x x' → Good (runT P T f R A (.ops ops rest) x' k) → ∀ a' w', Rel base w0 x'.st a' w' → wpOps P ops (Sound base w0 Good x k) (List.range' (i + 1) rest.length) a' w' := fun x' hl hg a' w' hrel' =>
          wpOps_mono (fun e a'' w'' hs => hs.later hl) _ _ _ (ih' (.ops ops rest) x' k hg base w0 a' w' hrel' (i + 1) hr')
        simp only [runT] at h
        unfold wpOp
        split at h
        · rename_i hw
          simp only [hi', awanted_ok hs hw, Bool.false_eq_true, if_false]
          split at h
          · rename_i x' hx'
            obtain ⟨q1, q2, q3, q4, q5⟩ := X.putS_st hx'
            refine next x' (.same q3 q4) h _ _ ?_
            rw [q1]
            refine ⟨⟨E, hok, hle0, hdd, slots_put (st := x.st) (e := { v := .val undef }) hs hrel.size q5 (Env.Le.refl E) (.val _)⟩, ?_, ?_⟩
            · cases o.dst <;> simp [Act.put, St.app, hrel.size]
            · cases o.dst <;> simp [Act.put, hrel.defs]
          · exact absurd h hbad
        · rename_i hw
          simp only [hi', awanted_ok hs hw, if_true]
          refine .inl ?_
          split at h
          · rename_i x' hx'
            obtain ⟨g1, g2⟩ := stepX_ok hT hx'
            exact g2 base w0 a w hrel _ _ (next x' g1 h)
          · split at h
            · rename_i c hop
              split at h
              · rename_i fn code x0 hen
                split at h
                · rename_i r x1 hrun
                  split at h
                  · rename_i x' hx'
                    obtain ⟨g, caps, c1, c2⟩ := call_to ih hen hrun
                    obtain ⟨e, x9, l1, l2⟩ := runT_later hT f (Option (CV × X)) one (fun q => q = some (r, x1)) one_bad one_br (.code code) x0 (leaveX T fn) hrun
                    rw [(leave_eq l2).1] at l1
                    obtain ⟨b1, b2⟩ := enter_B hen
                    have hl : Later x x1 := (Later.same b1 b2).trans l1
                    obtain ⟨q1, q2, q3, q4, q5⟩ := X.putS_st hx'
                    refine wp_call hT hop c1 c2 hok hs fun r' B' v w' E' ⟨e1, e2⟩ hle hdd' hok' hrv => ?_
                    subst e1; subst e2
                    refine next x' (hl.trans (.same q3 q4)) h _ _ ?_
                    rw [q1]
                    refine ⟨⟨E', hok', hle0.trans hle, fun j hj => ⟨(hdd' j (hdd j hj).1).1, (hdd' j (hdd j hj).1).2.trans (hdd j hj).2⟩, ?_⟩, ?_, ?_⟩
                    · exact slots_put (st := x.st) (e := { v := r' }) hs hrel.size q5 hle hrv
                    · cases o.dst <;> simp [Act.put, St.app, hrel.size, X.st]
                    · cases o.dst <;> simp [Act.put, hrel.defs]
                  · exact absurd h hbad
                · exact absurd h hbad
              · exact absurd h hbad
            · rename_i it hop
              split at h
              · rename_i l hl
                have hall := hbr _ h
                refine nextX_ok hop hl base w0.w E a w hok hs hrel.size hrel.defs _ _ fun e he v w' E' hle hbm hok' hrv => ?_
                obtain ⟨r, hr1, rfl⟩ := List.mem_map.1 he
                have hg := hall _ (List.mem_map.2 ⟨r, hr1, rfl⟩)
                split at hg
                · rename_i x' hx'
                  obtain ⟨g1, g2, g3, g4⟩ := putX_ok hx'
                  refine next x' g2 hg _ _ ?_
                  rw [g1]
                  refine ⟨⟨E', hok', hle0.trans hle, fun j hj => ⟨?_, (hbm j (hdd j hj).1 (g3 j (hdd j hj).1)).trans (hdd j hj).2⟩, slots_put hs hrel.size g4 hle hrv⟩, ?_, ?_⟩
                  · show ovr x.st.B (ovl r.2) j = _
                    unfold ovr
                    rw [g3 j (hdd j hj).1]
                    exact (hdd j hj).1
                  · cases o.dst <;> simp [Act.put, St.app, hrel.size]
                  · cases o.dst <;> simp [Act.put, hrel.defs]
                · exact absurd hg hbad
              · exact absurd h hbad
            · exact absurd h hbad
        · exact absurd h hbad
    | dops ops rest i nk0 recs => trivial
end Go.Proofs.YtmnpjaglgalobaaGreatW.C
