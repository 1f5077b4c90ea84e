/-
  Regions in abstract values, also those whose order Go leaves open; branches, loops, jumps; from a function's body to what its call makes. Laws over any program; no condition.
-/
import Derived.Test.YtkmdeahnkfdhjaaE10
namespace Go.Proofs.YtkmdeahnkfdhjaaW.E
open Go Go.RowKit
set_option linter.unusedVariables false
set_option linter.unusedSimpArgs false

def awanted (ops : Array Oper) (o : Oper) (st : St) : Option Bool :=
  match o.guard with
  | none => some true
  | some (j, want) => match (ops[j]?).bind (·.dst) with
    | some t => match st.s t with
      | .val (.bool b) => some (b == want)
      | .val _ => some false
      | _ => none
    | none => none

/-- What one operation of a region does: nothing (its guard says no), or what is reckoned, or a call of which it is told. -/
def Eff1 (P : Program) (T : Tab) (ops : Array Oper) (o : Oper) (st : St) (e : Eff) : Prop :=
  (awanted ops o st = some false ∧ e = { v := .val undef }) ∨
  (awanted ops o st = some true ∧ (aexec P T st o = some e ∨ ∃ c g caps r, o.op = .call c ∧ calleeOf st c = some (g, caps) ∧ ACall P g (argsOf st c caps) r ∧ e = callEff st o.dst r))

def dstOK (o : Oper) (n : Nat) : Bool := match o.dst with | some t => t < n | none => true
theorem dstOK_spec {o : Oper} {n : Nat} (h : dstOK o n = true) : ∀ t, o.dst = some t → t < n := fun t ht => by simpa [dstOK, ht] using h

section
variable {P : Program} {base : Nat} {w0 : Entry} {T : Tab} {ops : Array Oper}

theorem awanted_ok {E : Env} {w : World} {st : St} {a : Act} (hs : ∀ t, RV E w (st.s t) (a.tmps.getD t undef)) {o : Oper} {b : Bool} (h : awanted ops o st = some b) : Region.wanted o (yielded ops a.tmps) = b := by
  unfold awanted at h
  unfold Region.wanted
  split at h
  · rename_i hg
    rw [hg]; cases h; rfl
  · rename_i j want hg
    rw [hg]
    simp only
    split at h
    · rename_i t ht
      split at h
      · rename_i bb hb
        cases h
        have h1 := hs t
        rw [hb, RV.val_iff] at h1
        have h2 : a.tmps[t]? = some (.bool bb) := by
          rw [Array.getD_eq_getD_getElem?] at h1
          cases hq : a.tmps[t]? with
          | none => rw [hq] at h1; simp [undef] at h1
          | some v => rw [hq] at h1; simpa using h1
        unfold yielded
        rw [ht]
        simp only [Option.bind_some, h2]
        cases bb <;> cases want <;> rfl
      · rename_i u hu hb
        cases h
        have h1 := hs t
        rw [hb, RV.val_iff] at h1
        unfold yielded
        rw [ht]
        simp only [Option.bind_some]
        split
        · rename_i b hbt
          rw [Array.getD_eq_getD_getElem?, hbt] at h1
          simp only [Option.getD_some] at h1
          exact absurd h1.symm (hu b)
        · rfl
      · cases h
    · cases h

theorem wpOp_eff {st : St} {o : Oper} {i : Nat} (hi : ops[i]? = some o) (hn : dstOK o st.n = true) (hT : T.OK P) {e : Eff} (he : Eff1 P T ops o st e) {a : Act} {w : World} (hrel : Rel base w0 st a w)
    {K : Act → World → Prop} {Q : Exit → Act → World → Prop} (hK : ∀ a' w', Rel base w0 (st.app o.dst e) a' w' → K a' w') : wpOp P ops Q i K a w := by
  obtain ⟨E, hok, hle0, hs⟩ := hrel.ex
  unfold wpOp
  simp only [hi]
  rcases he with ⟨h1, rfl⟩ | ⟨h1, h2⟩
  · rw [awanted_ok hs h1]
    simp only [Bool.false_eq_true, if_false]
    refine hK _ _ ⟨⟨E, hok, hle0, slots_put hs hrel.size (dstOK_spec hn) (Env.Le.refl _ _) (RV.val_iff.2 rfl)⟩, ?_, ?_⟩
    · cases o.dst <;> simp [Act.put, St.app, hrel.size]
    · cases o.dst <;> simp [Act.put, hrel.defs]
  · rw [awanted_ok hs h1]
    simp only [if_true]
    refine .inl ?_
    have hdoes : Does P base w0 st o e := by
      rcases h2 with h2 | ⟨c, g, caps, r, h2, h3, h4, rfl⟩
      · exact aexec_does hT h2
      · exact does_call h2 h3 h4
    exact hdoes.rel (dstOK_spec hn) hrel hK

theorem wpOp_x {st : St} {o : Oper} {i : Nat} (hi : ops[i]? = some o) (hn : dstOK o st.n = true) (hT : T.OK P) (hw : awanted ops o st = some true) {e : Eff} (he : xexec T st o = some e) {a : Act} {w : World} (hrel : Rel base w0 st a w)
    {K : Act → World → Prop} {Q : Exit → Act → World → Prop} (hK : ∀ a' w', Rel base w0 (st.app o.dst e) a' w' → K a' w') : wpOp P ops Q i K a w := by
  obtain ⟨E, hok, hle0, hs⟩ := hrel.ex
  unfold wpOp
  simp only [hi, awanted_ok hs hw, if_true]
  have hdoes : Does P base w0 st o e := xexec_does hT he
  exact .inl (hdoes.rel (dstOK_spec hn) hrel hK)

/-! ### In any order -/
def wB (o : Oper) : Bool := match o.op with | .store .. | .alloc _ | .box .. => true | _ => false
def rB (o : Oper) : Bool := match o.op with | .store .. | .alloc _ | .box .. | .load .. => true | .call { callee := .value _, .. } => true | _ => false
def tL (o : Oper) : Bool := match o.op with | .call { callee := .value _, .. } => true | .call { callee := .builtin .append, .. } => true | _ => false

def indep (ops : Array Oper) (x y : Oper) : Bool := x.apart ops y && !(wB x && rB y) && !(wB y && rB x) && !(tL x && tL y)

theorem wB_rB {o : Oper} (h : wB o = true) : rB o = true := by
  unfold wB at h; unfold rB
  cases ho : o.op <;> simp_all

theorem bnd_congr {st st' : St} {x : Option Operand} (h : ∀ y, x = some y → evalA st y = evalA st' y) (d : Nat) : bnd st x d = bnd st' x d := by
  cases x with
  | none => rfl
  | some y => simp only [bnd, h y rfl]

theorem aexec_congr {st st' : St} {o : Oper} (h : ∀ x ∈ o.op.operands, evalA st x = evalA st' x) (hd : st.d = st'.d) (hB : rB o = true → st.B = st'.B) (hL : tL o = true → st.L = st'.L) : aexec P T st o = aexec P T st' o := by
  have pairs : ∀ ps : Array (Nat × Operand), (∀ x ∈ ps.toList.map (·.2), evalA st x = evalA st' x) → (ps.toList.map fun p => (p.1, evalA st p.2)) = ps.toList.map fun p => (p.1, evalA st' p.2) := fun ps hp =>
    List.map_congr_left fun p hm => by rw [hp p.2 (List.mem_map.2 ⟨p, hm, rfl⟩)]
  have pairs2 : ∀ ps : Array (Nat × Operand), (∀ x ∈ ps.toList.map (·.2), evalA st x = evalA st' x) → (ps.toList.map fun p => (evalA st p.2).data) = ps.toList.map fun p => (evalA st' p.2).data := fun ps hp =>
    List.map_congr_left fun p hm => by rw [hp p.2 (List.mem_map.2 ⟨p, hm, rfl⟩)]
  have pairs3 : ∀ (ps : Array (Nat × Operand)) (n : Nat), (∀ x ∈ ps.toList.map (·.2), evalA st x = evalA st' x) → (ps.toList.all fun p => (evalA st p.2).cells.length == n && (evalA st p.2).cells.all AV.isCell) = (ps.toList.all fun p => (evalA st' p.2).cells.length == n && (evalA st' p.2).cells.all AV.isCell) := fun ps n hp => by
    have : ∀ l : List (Nat × Operand), (∀ p ∈ l, evalA st p.2 = evalA st' p.2) → (l.all fun p => (evalA st p.2).cells.length == n && (evalA st p.2).cells.all AV.isCell) = (l.all fun p => (evalA st' p.2).cells.length == n && (evalA st' p.2).cells.all AV.isCell) := by
      intro l hl
      induction l with
      | nil => rfl
      | cons p l ih => simp only [List.all_cons, hl p List.mem_cons_self, ih (fun q hq => hl q (List.mem_cons_of_mem _ hq))]
    exact this _ fun p hm => hp p.2 (List.mem_map.2 ⟨p, hm, rfl⟩)
  obtain ⟨dst, op, type, pos, after, guard⟩ := o
  cases op <;> simp only [Op.operands] at h <;> simp only [aexec]
  case move x => unfold anil; split <;> first | rfl | rw [h _ (by simp)]
  case assign x => unfold anil; split <;> first | rfl | rw [h _ (by simp)]
  case pick c x y => rw [h c (by simp), h x (by simp), h y (by simp)]
  case binOp op t x y u =>
    have hn : anilt T st op t x y = anilt T st' op t x y := by unfold anilt; rw [h x (by simp)]
    rw [hn, h x (by simp), h y (by simp)]
  case unOp op t x => rw [h x (by simp)]
  case convert s d x =>
    have hn : abstr P T st s d x = abstr P T st' s d x := by unfold abstr; rw [h x (by simp)]
    rw [hn, h x (by simp)]
  case extract t i => rw [h t (by simp)]
  case load t x => have hB' := hB rfl; rw [h x (by simp)]; unfold aload; rw [hB']
  case store t x y => have hB' := hB rfl; rw [h x (by simp), h y (by simp)]; unfold astore; rw [hB']
  case alloc t => have hB' := hB rfl; rw [hB', hd]
  case box t x => have hB' := hB rfl; rw [hB', hd, h x (by simp)]
  case fieldAddr s x f => rw [h x (by simp)]
  case field s x f => rw [h x (by simp)]
  case indexAddr t x ix => rw [h x (by simp), h ix (by simp)]
  case slice t x lo hi mx =>
    rw [h x (by simp)]
    unfold aslice
    simp only [bnd_congr (st := st) (st' := st') (x := lo) (fun y hy => h y (by simp [hy])), bnd_congr (st := st) (st' := st') (x := hi) (fun y hy => h y (by simp [hy])), bnd_congr (st := st) (st' := st') (x := mx) (fun y hy => h y (by simp [hy]))]
  case build t ps => unfold abuild; rw [pairs ps (fun x hx => h x (by simpa using hx))]
  case buildSlice t n ps => unfold abuildSlice; simp only [pairs2 ps (fun x hx => h x (by simpa using hx)), pairs3 ps _ (fun x hx => h x (by simpa using hx))]
  case makeFunc fn first caps =>
    cases fn <;> try rfl
    simp only
    split
    · rw [List.map_congr_left (f := evalA st) (g := evalA st') (fun x hx => h x (by simp at hx ⊢; exact .inr hx))]
    · rfl
  case call c =>
    cases hc : c.callee with
    | value f => rfl
    | invoke r m => rfl
    | builtin b =>
      have hargs : ∀ x ∈ c.args.toList, evalA st x = evalA st' x := fun x hx => h x (by simp [Call.operands, hc]; simpa using hx)
      have hm : (c.args.toList.mapM fun x => toV (evalA st x)) = c.args.toList.mapM fun x => toV (evalA st' x) := by
        have : ∀ l : List Operand, (∀ x ∈ l, evalA st x = evalA st' x) → (l.mapM fun x => toV (evalA st x)) = l.mapM fun x => toV (evalA st' x) := by
          intro l hl
          induction l with
          | nil => rfl
          | cons x l ih => simp only [List.mapM_cons, hl x List.mem_cons_self, ih (fun y hy => hl y (List.mem_cons_of_mem _ hy))]
        exact this _ hargs
      simp only [acallB]
      split
      · rename_i x y t u ha ht
        have hL' : st.L = st'.L := hL (by obtain ⟨callee, args, argTypes⟩ := c; simp only at hc; subst hc; rfl)
        rw [hargs x (by rw [ha]; simp), hargs y (by rw [ha]; simp), hd]
        unfold aappend
        rw [hL']
      · rename_i x t ha ht
        rw [hargs x (by rw [ha]; simp)]
      · rename_i x t ha ht
        rw [hargs x (by rw [ha]; simp)]
      · rfl
      · rw [hm]

theorem aexec_kind {st : St} {o : Oper} {e : Eff} (h : aexec P T st o = some e) : (wB o = false → e.box = none) ∧ (tL o = false → e.bump = []) := by
  obtain ⟨dst, op, type, pos, after, guard⟩ := o
  cases op <;> simp only [aexec, wB, tL] at h ⊢
  case move x => cases h; simp
  case assign x => cases h; simp
  case pick c x y => split at h <;> cases h; simp
  case binOp op t x y u =>
    split at h
    · cases h; simp
    · obtain ⟨_, _, h⟩ := Option.bind_eq_some_iff.1 h; obtain ⟨_, _, h⟩ := Option.bind_eq_some_iff.1 h; obtain ⟨_, _, h⟩ := Option.map_eq_some_iff.1 h; subst h; simp
  case unOp op t x => obtain ⟨_, _, h⟩ := Option.bind_eq_some_iff.1 h; obtain ⟨_, _, h⟩ := Option.map_eq_some_iff.1 h; subst h; simp
  case convert s d x =>
    split at h
    · cases h; simp
    · obtain ⟨_, _, h⟩ := Option.bind_eq_some_iff.1 h; obtain ⟨_, _, h⟩ := Option.map_eq_some_iff.1 h; subst h; simp
  case extract t i => split at h <;> try (cases h; done)
                      obtain ⟨_, _, h⟩ := Option.map_eq_some_iff.1 h; subst h; simp
  case load t x => obtain ⟨_, _, h⟩ := Option.map_eq_some_iff.1 h; subst h; simp
  case store t x y =>
    refine ⟨by simp, fun _ => ?_⟩
    cases hx : evalA st x <;> rw [hx] at h <;> simp only [astore, reduceCtorEq] at h
    obtain ⟨_, _, h⟩ := Option.bind_eq_some_iff.1 h
    split at h <;> cases h
    rfl
  case alloc t => obtain ⟨_, _, h⟩ := Option.bind_eq_some_iff.1 h; obtain ⟨_, _, h⟩ := Option.map_eq_some_iff.1 h; subst h; simp
  case box t x => obtain ⟨_, _, h⟩ := Option.bind_eq_some_iff.1 h; split at h <;> cases h; simp
  case fieldAddr s x f => obtain ⟨_, _, h⟩ := Option.map_eq_some_iff.1 h; subst h; simp
  case field s x f =>
    obtain ⟨_, _, h⟩ := Option.bind_eq_some_iff.1 h; obtain ⟨_, _, h⟩ := Option.bind_eq_some_iff.1 h
    split at h
    · cases h
    · split at h
      · obtain ⟨_, _, h⟩ := Option.map_eq_some_iff.1 h; subst h; simp
      · cases h
  case indexAddr t x ix => obtain ⟨_, _, h⟩ := Option.map_eq_some_iff.1 h; subst h; simp
  case slice t x lo hi mx => obtain ⟨_, _, h⟩ := Option.map_eq_some_iff.1 h; subst h; simp
  case build t ps => obtain ⟨_, _, h⟩ := Option.map_eq_some_iff.1 h; subst h; simp
  case buildSlice t n ps => obtain ⟨_, _, h⟩ := Option.map_eq_some_iff.1 h; subst h; simp
  case makeFunc fn first caps =>
    cases fn <;> simp only [reduceCtorEq] at h
    split at h <;> cases h
    simp
  case call c =>
    cases hc : c.callee with
    | value f => simp [hc] at h
    | invoke r m => simp [hc] at h
    | builtin b =>
      simp only [hc, acallB] at h
      split at h
      · rename_i x y t u ha ht
        obtain ⟨N, _, h⟩ := Option.bind_eq_some_iff.1 h
        split at h
        · cases hx : evalA st x <;> rw [hx] at h <;> simp only [aappend, reduceCtorEq] at h
          cases hy : evalA st y <;> rw [hy] at h <;> simp only [reduceCtorEq] at h
          obtain ⟨_, _, h⟩ := Option.bind_eq_some_iff.1 h; obtain ⟨_, _, h⟩ := Option.bind_eq_some_iff.1 h; obtain ⟨_, _, h⟩ := Option.bind_eq_some_iff.1 h
          split at h
          · obtain ⟨_, _, h⟩ := Option.map_eq_some_iff.1 h
            subst h
            refine ⟨fun _ => rfl, fun ht => ?_⟩
            obtain ⟨callee, args, argTypes⟩ := c
            simp only at hc
            subst hc
            cases ht
          · cases h
        · cases h
      · split at h
        · cases h; simp
        · obtain ⟨_, _, h⟩ := Option.bind_eq_some_iff.1 h; obtain ⟨_, _, h⟩ := Option.map_eq_some_iff.1 h; subst h; simp
      · split at h
        · obtain ⟨_, _, h⟩ := Option.bind_eq_some_iff.1 h
          split at h
          · cases h; simp
          · cases h
        · cases h
      · cases h
      · obtain ⟨_, _, h⟩ := Option.bind_eq_some_iff.1 h; obtain ⟨_, _, h⟩ := Option.map_eq_some_iff.1 h; subst h; simp
  all_goals cases h

theorem Eff1.kind {st : St} {o : Oper} {e : Eff} (h : Eff1 P T ops o st e) : (wB o = false → e.box = none) ∧ (tL o = false → e.bump = []) := by
  rcases h with ⟨_, rfl⟩ | ⟨_, h | ⟨c, g, caps, r, ho, hc, _, rfl⟩⟩
  · exact ⟨fun _ => rfl, fun _ => rfl⟩
  · exact aexec_kind h
  · refine ⟨fun _ => ?_, fun ht => ?_⟩
    · unfold callEff; split <;> rfl
    · unfold calleeOf at hc
      split at hc
      · rename_i f hf
        obtain ⟨dst, op, type, pos, after, guard⟩ := o
        obtain ⟨callee, args, argTypes⟩ := c
        simp only at ho hf
        subst ho; subst hf
        cases ht
      · cases hc

theorem Eff1.congr {st st' : St} {o : Oper} {e : Eff} (h : ∀ x ∈ o.op.operands, evalA st x = evalA st' x) (hw : awanted ops o st = awanted ops o st') (hd : st.d = st'.d) (hB : rB o = true → st.B = st'.B) (hL : tL o = true → st.L = st'.L)
    (he : Eff1 P T ops o st e) : Eff1 P T ops o st' e := by
  unfold Eff1 at *
  rw [← hw, ← aexec_congr h hd hB hL]
  rcases he with he | ⟨h1, he | ⟨c, g, caps, r, ho, hc, hcall, rfl⟩⟩
  · exact .inl he
  · exact .inr ⟨h1, .inl he⟩
  · refine .inr ⟨h1, .inr ⟨c, g, caps, r, ho, ?_⟩⟩
    have hv : ∃ f, c.callee = .value f := by
      unfold calleeOf at hc
      split at hc
      · rename_i f hf; exact ⟨f, hf⟩
      · cases hc
    obtain ⟨f, hf⟩ := hv
    have hops : ∀ x ∈ c.operands.toList, evalA st x = evalA st' x := fun x hx => h x (by rw [ho]; simpa [Op.operands] using hx)
    have hr : rB o = true ∧ tL o = true := by
      obtain ⟨dst, op, type, pos, after, guard⟩ := o
      obtain ⟨callee, args, argTypes⟩ := c
      simp only at ho hf
      subst ho; subst hf
      exact ⟨rfl, rfl⟩
    have hB' := hB hr.1
    have hL' := hL hr.2
    have e1 : calleeOf st' c = calleeOf st c := by
      unfold calleeOf
      rw [hf]
      simp only
      rw [hops f (by simp [Call.operands, hf])]
    have e2 : argsOf st' c caps = argsOf st c caps := by
      unfold argsOf
      rw [hB', List.map_congr_left (f := evalA st') (g := evalA st) (fun x hx => (hops x (by simp [Call.operands, hf]; exact .inr (by simpa using hx))).symm)]
    have e3 : callEff st o.dst r = callEff st' o.dst r := by
      unfold callEff
      rw [hL', hd]
    rw [e1, e2, e3]
    exact ⟨hc, hcall, rfl⟩

/-- A call that is handed lists of the caller's own, of which it is said outright what it makes, whatever the other slots hold. -/
structure OwnEff (P : Program) (o : Oper) (st : St) (e : Eff) : Prop where
  call : ∃ c f, o.op = .call c ∧ c.callee = .value f
  box : e.box = none
  does : ∀ (base : Nat) (w0 : Entry) (st' : St), (∀ x ∈ o.op.operands, evalA st' x = evalA st x) → st'.d = st.d → st'.B = st.B → st'.L = st.L → Does P base w0 st' o e

theorem OwnEff.rL {st : St} {o : Oper} {e : Eff} (h : OwnEff P o st e) : rB o = true ∧ tL o = true := by
  obtain ⟨c, f, ho, hf⟩ := h.call
  obtain ⟨dst, op, type, pos, after, guard⟩ := o
  obtain ⟨callee, args, argTypes⟩ := c
  simp only at ho hf
  subst ho; subst hf
  exact ⟨rfl, rfl⟩

/-- What may change places where it names no box. -/
def Eff3 (P : Program) (T : Tab) (ops : Array Oper) (κ : Nat → Option (Option Nat)) (i : Nat) (o : Oper) (st : St) (e : Eff) : Prop :=
  Eff1 P T ops o st e ∨ (κ i = none ∧ awanted ops o st = some true ∧ OwnEff P o st e)

theorem Eff3.kind {κ : Nat → Option (Option Nat)} {i : Nat} {st : St} {o : Oper} {e : Eff} (h : Eff3 P T ops κ i o st e) : (wB o = false → e.box = none) ∧ (tL o = false → e.bump = []) := by
  rcases h with h | ⟨_, _, h⟩
  · exact h.kind
  · exact ⟨fun _ => h.box, fun ht => by rw [h.rL.2] at ht; cases ht⟩

theorem Eff3.congr {κ : Nat → Option (Option Nat)} {i : Nat} {st st' : St} {o : Oper} {e : Eff} (h : ∀ x ∈ o.op.operands, evalA st x = evalA st' x) (hw : awanted ops o st = awanted ops o st') (hd : st.d = st'.d) (hB : rB o = true → st.B = st'.B) (hL : tL o = true → st.L = st'.L)
    (he : Eff3 P T ops κ i o st e) : Eff3 P T ops κ i o st' e := by
  rcases he with he | ⟨h1, h2, he⟩
  · exact .inl (he.congr h hw hd hB hL)
  · refine .inr ⟨h1, hw ▸ h2, he.call, he.box, fun base w0 s h3 h4 h5 h6 => he.does base w0 s (fun x hx => (h3 x hx).trans (h x hx).symm) (h4.trans hd.symm) (h5.trans (hB he.rL.1).symm) (h6.trans (hL he.rL.2).symm)⟩
end

end Go.Proofs.YtkmdeahnkfdhjaaW.E
