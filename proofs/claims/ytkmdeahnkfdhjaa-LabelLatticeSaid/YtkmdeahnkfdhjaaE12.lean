/-
  A region's operations in any order that its edges allow come to what they come to in the text's order; branches, loops, jumps. Laws over any program; no condition.
-/
import Derived.Test.YtkmdeahnkfdhjaaE11
import Derived.LoopN
namespace Go.Proofs.YtkmdeahnkfdhjaaW.E
open Go Go.RowKit
set_option linter.unusedVariables false
set_option linter.unusedSimpArgs false

section
variable {P : Program} {base : Nat} {w0 : Entry} {T : Tab} {ops : Array Oper}

/-- No pointer to a box stands in it. -/
def dry : AV → Bool
  | .ptr .. => false
  | .fn _ caps => caps.isEmpty
  | _ => true
theorem frz_dry {a : AV} (h : dry a = true) (n : Nat) (B B' : Nat → Nat × List AV) : frz B n a = frz B' n a := by
  cases a with
  | ptr k g off => cases h
  | fn f caps =>
    have : caps = [] := by simpa [dry] using h
    subst this
    cases n <;> rfl
  | _ => cases n <;> rfl
/-- A load, a store, an alloc names this box; a call is handed no box. -/
def keyFits (st : St) (o : Oper) (k : Nat) : Bool := match o.op with
  | .load _ x => match evalA st x with | .ptr k' _ _ => k' == k | _ => false
  | .store _ x _ => match evalA st x with | .ptr k' _ _ => k' == k | _ => false
  | .alloc _ => match o.dst with | some N => st.d + N == k | none => false
  | .call c => match c.callee with
    | .value f => (c.args.toList.all fun x => dry (evalA st x)) && (match evalA st f with | .fn _ caps => caps.all dry | _ => false)
    | _ => false
  | _ => false
/-- Of each operation: nothing; the box that it names; or that it writes to a slice in place, and changes places with none. -/
abbrev Keys := Nat → Option (Option Nat)
abbrev noK : Keys := fun _ => none
def KeyOK (ops : Array Oper) (κ : Keys) (st : St) (i : Nat) (o : Oper) : Prop := ∀ k, κ i = some (some k) → awanted ops o st = some true → keyFits st o k = true
theorem KeyOK.no {st : St} {i : Nat} {o : Oper} : KeyOK ops noK st i o := fun k h => by cases h

def Eff2 (P : Program) (T : Tab) (ops : Array Oper) (κ : Keys) (i : Nat) (o : Oper) (st : St) (e : Eff) : Prop :=
  Eff1 P T ops o st e ∨ (κ i = some none ∧ awanted ops o st = some true ∧ xexec T st o = some e) ∨ (κ i = none ∧ awanted ops o st = some true ∧ OwnEff P o st e)
theorem Eff3.eff2 {κ : Keys} {i : Nat} {o : Oper} {st : St} {e : Eff} (h : Eff3 P T ops κ i o st e) : Eff2 P T ops κ i o st e := h.imp id .inr
theorem Eff2.eff3 {κ : Keys} {i : Nat} {o : Oper} {st : St} {e : Eff} (h : Eff2 P T ops κ i o st e) (n : κ i ≠ some none) : Eff3 P T ops κ i o st e := h.imp id fun h => h.resolve_left fun h => n h.1
theorem Eff3.eff1 {κ : Keys} {i : Nat} {o : Oper} {st : St} {e : Eff} (h : Eff3 P T ops κ i o st e) {k : Option Nat} (n : κ i = some k) : Eff1 P T ops o st e := h.resolve_right fun h => by rw [n] at h; cases h.1
def DStep (P : Program) (T : Tab) (ops : Array Oper) (κ : Keys) (st : St) (i : Nat) (st' : St) : Prop :=
  ∃ o e, ops[i]? = some o ∧ dstOK o st.n = true ∧ Eff2 P T ops κ i o st e ∧ st' = st.app o.dst e ∧ KeyOK ops κ st i o
theorem wpOp_eff2 {κ : Keys} {st : St} {o : Oper} {i : Nat} (hi : ops[i]? = some o) (hn : dstOK o st.n = true) (hT : T.OK P) {e : Eff} (he : Eff2 P T ops κ i o st e) {a : Act} {w : World} (hrel : Rel base w0 st a w)
    {K : Act → World → Prop} {Q : Exit → Act → World → Prop} (hK : ∀ a' w', Rel base w0 (st.app o.dst e) a' w' → K a' w') : wpOp P ops Q i K a w := by
  rcases he with he | ⟨_, hw, he⟩ | ⟨_, hw, he⟩
  · exact wpOp_eff hi hn hT he hrel hK
  · exact wpOp_x hi hn hT hw he hrel hK
  · obtain ⟨E, hok, hle0, hs⟩ := hrel.ex
    unfold wpOp
    simp only [hi, awanted_ok hs hw, if_true]
    exact .inl ((he.does base w0 st (fun _ _ => rfl) rfl rfl rfl).rel (dstOK_spec hn) hrel hK)

inductive DRun (P : Program) (T : Tab) (ops : Array Oper) (κ : Keys) : List Nat → St → St → Prop where
  | nil (st : St) : DRun P T ops κ [] st st
  | cons (i : Nat) (l : List Nat) (st st1 st2 : St) (h : DStep P T ops κ st i st1) (k : DRun P T ops κ l st1 st2) : DRun P T ops κ (i :: l) st st2

/-- What names a box looks at it alone. -/
theorem Eff1.congrK {st st' : St} {o : Oper} {e : Eff} {k : Nat} (h : ∀ x ∈ o.op.operands, evalA st x = evalA st' x) (hw : awanted ops o st = awanted ops o st') (hk : awanted ops o st = some true → keyFits st o k = true) (hB : st.B k = st'.B k) (hd : st.d = st'.d) (hL : tL o = true → st.L = st'.L)
    (he : Eff1 P T ops o st e) : Eff1 P T ops o st' e := by
  unfold Eff1 at *
  rw [← hw]
  rcases he with he | ⟨h1, he⟩
  · exact .inl he
  · refine .inr ⟨h1, ?_⟩
    have hk' := hk h1
    obtain ⟨dst, op, type, pos, after, guard⟩ := o
    cases op with
    | load t x =>
      rcases he with he | ⟨c, g, caps, r, ho, _⟩
      · have hx := h x (by simp [Op.operands])
        refine .inl ?_
        simp only [keyFits] at hk'
        simp only [aexec] at he ⊢
        rw [← hx]
        cases hev : evalA st x with
        | ptr k' g off =>
          rw [hev] at hk' he
          have : k' = k := by simpa using hk'
          subst this
          simpa only [aload, hB] using he
        | _ => rw [hev] at hk'; cases hk'
      · cases ho
    | store t x y =>
      rcases he with he | ⟨c, g, caps, r, ho, _⟩
      · have hx := h x (by simp [Op.operands])
        have hy := h y (by simp [Op.operands])
        refine .inl ?_
        simp only [keyFits] at hk'
        simp only [aexec] at he ⊢
        rw [← hx, ← hy]
        cases hev : evalA st x with
        | ptr k' g off =>
          rw [hev] at hk' he
          have : k' = k := by simpa using hk'
          subst this
          simpa only [astore, hB] using he
        | _ => rw [hev] at hk'; cases hk'
      · cases ho
    | alloc t =>
      rcases he with he | ⟨c, g, caps, r, ho, _⟩
      · refine .inl ?_
        cases dst with
        | none => cases hk'
        | some N =>
          have : st.d + N = k := by simpa [keyFits] using hk'
          subst this
          simp only [aexec, Option.bind_some] at he ⊢
          rw [← hd, ← hB]
          exact he
      · cases ho
    | call c =>
      rcases he with he | ⟨c', g, caps, r, ho, hc, hcall, rfl⟩
      · obtain ⟨callee, args, argTypes⟩ := c
        cases callee with
        | value f => cases he
        | _ => cases hk'
      · cases ho
        obtain ⟨callee, args, argTypes⟩ := c
        cases callee with
        | value f =>
          refine .inr ⟨_, g, caps, r, rfl, ?_⟩
          have hops : ∀ x ∈ (Call.operands ⟨.value f, args, argTypes⟩).toList, evalA st x = evalA st' x := fun x hx => h x (by simpa [Op.operands] using hx)
          have hf : evalA st f = evalA st' f := hops f (by simp [Call.operands])
          have hargs : ∀ x ∈ args.toList, evalA st x = evalA st' x := fun x hx => hops x (by simp [Call.operands]; exact .inr (by simpa using hx))
          have hL' := hL rfl
          have e1 : calleeOf st' ⟨.value f, args, argTypes⟩ = some (g, caps) := by
            rw [← hc]; simp only [calleeOf, hf]
          have hev : evalA st f = .fn g caps := by
            simp only [calleeOf] at hc
            split at hc
            · rename_i g' caps' hg
              cases hc; exact hg
            · cases hc
          simp only [keyFits, hev, Bool.and_eq_true, List.all_eq_true] at hk'
          have e2 : argsOf st' ⟨.value f, args, argTypes⟩ caps = argsOf st ⟨.value f, args, argTypes⟩ caps := by
            simp only [argsOf]
            rw [show args.toList.map (evalA st') = args.toList.map (evalA st) from List.map_congr_left fun x hx => (hargs x hx).symm]
            refine List.map_congr_left fun x hx => ?_
            rcases List.mem_append.1 hx with hx | hx
            · obtain ⟨y, hy, rfl⟩ := List.mem_map.1 hx
              exact frz_dry (hk'.1 y hy) _ _ _
            · exact frz_dry (hk'.2 x hx) _ _ _
          have e3 : callEff st' dst r = callEff st dst r := by
            unfold callEff
            split <;> simp only [← hd, ← hL']
          rw [e2, e3]
          exact ⟨e1, hcall, rfl⟩
        | _ => cases hc
    | _ => simp [keyFits] at hk'

/-- What names a box turns it alone. -/
theorem Eff1.boxK {st : St} {o : Oper} {e : Eff} {k : Nat} (hk : awanted ops o st = some true → keyFits st o k = true) (he : Eff1 P T ops o st e) : e.box = none ∨ ∃ gc, e.box = some (k, gc) := by
  have hkind := he.kind
  rcases he with ⟨_, rfl⟩ | ⟨h1, he⟩
  · exact .inl rfl
  · have hk' := hk h1
    obtain ⟨dst, op, type, pos, after, guard⟩ := o
    cases op with
    | load t x => exact .inl (hkind.1 rfl)
    | call c => exact .inl (hkind.1 rfl)
    | alloc t =>
      rcases he with he | ⟨c, g, caps, r, ho, _⟩
      · cases dst with
        | none => cases hk'
        | some N =>
          have : st.d + N = k := by simpa [keyFits] using hk'
          subst this
          simp only [aexec, Option.bind_some] at he
          obtain ⟨_, _, rfl⟩ := Option.map_eq_some_iff.1 he
          exact .inr ⟨_, rfl⟩
      · cases ho
    | store t x y =>
      rcases he with he | ⟨c, g, caps, r, ho, _⟩
      · simp only [keyFits] at hk'
        simp only [aexec] at he
        cases hev : evalA st x with
        | ptr k' g off =>
          rw [hev] at hk' he
          have : k' = k := by simpa using hk'
          subst this
          simp only [astore] at he
          obtain ⟨_, _, he⟩ := Option.bind_eq_some_iff.1 he
          split at he
          · cases he; exact .inr ⟨_, rfl⟩
          · cases he
        | _ => rw [hev] at hk'; cases hk'
      · cases ho
    | _ => simp [keyFits] at hk'

theorem evalA_app {st : St} {dst : Option Nat} {e : Eff} {x : Operand} (h : ∀ d, dst = some d → x ≠ .tmp d) : evalA (st.app dst e) x = evalA st x := by
  cases x with
  | tmp t =>
    cases dst with
    | none => rfl
    | some d =>
      have : t ≠ d := fun e => h d rfl (by rw [e])
      simp only [evalA, St.app, upd_ne _ _ this]
  | _ => rfl

theorem looks_app {st : St} {dst : Option Nat} {e : Eff} {o : Oper} (h : ∀ d, dst = some d → d ∉ o.looksAt ops) : (∀ x ∈ o.op.operands, evalA (st.app dst e) x = evalA st x) ∧ awanted ops o (st.app dst e) = awanted ops o st := by
  refine ⟨fun x hx => evalA_app fun d hd hxd => h d hd ?_, ?_⟩
  · subst hxd
    exact List.mem_append_left _ (List.mem_filterMap.2 ⟨.tmp d, by simpa using hx, rfl⟩)
  · unfold awanted
    cases hg : o.guard with
    | none => rfl
    | some gw =>
      obtain ⟨g, want⟩ := gw
      simp only
      cases ht : (ops[g]?).bind (·.dst) with
      | none => rfl
      | some t =>
        simp only
        have : (st.app dst e).s t = st.s t := by
          have := evalA_app (st := st) (dst := dst) (e := e) (x := .tmp t) (fun d hd hxd => h d hd (by cases hxd; simp [Oper.looksAt, hg, ht]))
          exact this
        rw [this]

theorem app_comm {st : St} {d1 d2 : Option Nat} {e1 e2 : Eff} (hd : ∀ d, d1 = some d → d2 ≠ some d) (hb : e1.box = none ∨ e2.box = none) (hl : e1.bump = [] ∨ e2.bump = []) : (st.app d1 e1).app d2 e2 = (st.app d2 e2).app d1 e1 := by
  obtain ⟨v1, b1, l1⟩ := e1
  obtain ⟨v2, b2, l2⟩ := e2
  obtain ⟨n, d, s, B, L⟩ := st
  simp only at hb hl
  simp only [St.app, St.mk.injEq, true_and]
  refine ⟨?_, ?_, ?_⟩
  · cases d1 <;> cases d2 <;> try rfl
    rename_i a b
    exact upd_comm _ _ _ (fun e => hd a rfl (by rw [e]))
  · rcases hb with rfl | rfl <;> rfl
  · rcases hl with rfl | rfl <;> rfl

theorem keyFits_congr {st st' : St} {o : Oper} {k : Nat} (h : ∀ x ∈ o.op.operands, evalA st x = evalA st' x) (hd : st.d = st'.d) (hk : keyFits st o k = true) : keyFits st' o k = true := by
  obtain ⟨dst, op, type, pos, after, guard⟩ := o
  cases op with
  | load t x => simp only [keyFits] at hk ⊢; rw [← h x (by simp [Op.operands])]; exact hk
  | store t x y => simp only [keyFits] at hk ⊢; rw [← h x (by simp [Op.operands])]; exact hk
  | alloc t => simp only [keyFits] at hk ⊢; rw [← hd]; exact hk
  | call c =>
    obtain ⟨callee, args, argTypes⟩ := c
    cases callee with
    | value f =>
      have hops : ∀ x ∈ (Call.operands ⟨.value f, args, argTypes⟩).toList, evalA st x = evalA st' x := fun x hx => h x (by simpa [Op.operands] using hx)
      have hf : evalA st f = evalA st' f := hops f (by simp [Call.operands])
      have hargs : ∀ x ∈ args.toList, evalA st x = evalA st' x := fun x hx => hops x (by simp [Call.operands]; exact .inr (by simpa using hx))
      simp only [keyFits, Bool.and_eq_true, List.all_eq_true] at hk ⊢
      exact ⟨fun x hx => by rw [← hargs x hx]; exact hk.1 x hx, by rw [← hf]; exact hk.2⟩
    | _ => simp [keyFits] at hk
  | _ => simp [keyFits] at hk
theorem KeyOK.congr {κ : Keys} {st st' : St} {i : Nat} {o : Oper} (h : ∀ x ∈ o.op.operands, evalA st x = evalA st' x) (hd : st.d = st'.d) (hw : awanted ops o st = awanted ops o st') (hk : KeyOK ops κ st i o) : KeyOK ops κ st' i o := fun k hκ ha =>
  keyFits_congr h hd (hk k hκ (by rw [hw]; exact ha))

def indepK (ops : Array Oper) (κ : Keys) (i j : Nat) (x y : Oper) : Bool := match κ i, κ j with
  | some none, _ => false
  | _, some none => false
  | some (some a), some (some b) => indep ops x y || (x.apart ops y && a != b && !(tL x && tL y))
  | _, _ => indep ops x y

theorem app_commK {st : St} {d1 d2 : Option Nat} {e1 e2 : Eff} {a b : Nat} (hab : a ≠ b) (hd : ∀ d, d1 = some d → d2 ≠ some d) (h1 : e1.box = none ∨ ∃ gc, e1.box = some (a, gc)) (h2 : e2.box = none ∨ ∃ gc, e2.box = some (b, gc)) (hl : e1.bump = [] ∨ e2.bump = []) :
    (st.app d1 e1).app d2 e2 = (st.app d2 e2).app d1 e1 := by
  obtain ⟨v1, b1, l1⟩ := e1
  obtain ⟨v2, b2, l2⟩ := e2
  obtain ⟨n, d, s, B, L⟩ := st
  simp only at h1 h2 hl
  simp only [St.app, St.mk.injEq, true_and]
  refine ⟨?_, ?_, ?_⟩
  · cases d1 <;> cases d2 <;> try rfl
    rename_i a b
    exact upd_comm _ _ _ (fun e => hd a rfl (by rw [e]))
  · rcases h1 with rfl | ⟨g1, rfl⟩ <;> rcases h2 with rfl | ⟨g2, rfl⟩ <;> first | rfl | exact upd_comm _ _ _ hab
  · rcases hl with rfl | rfl <;> rfl

theorem swap {κ : Keys} {st st1 st2 : St} {i j : Nat} {oi oj : Oper} (hi : ops[i]? = some oi) (hj : ops[j]? = some oj) (hind : indepK ops κ i j oi oj = true) (h1 : DStep P T ops κ st i st1) (h2 : DStep P T ops κ st1 j st2) :
    ∃ st1', DStep P T ops κ st j st1' ∧ DStep P T ops κ st1' i st2 := by
  obtain ⟨oi', ei, hi', hni, hei2, rfl, kki⟩ := h1
  rw [hi] at hi'; cases hi'
  obtain ⟨oj', ej, hj', hnj, hej2, rfl, kkj⟩ := h2
  rw [hj] at hj'; cases hj'
  have ni : κ i ≠ some none := fun e => by rw [indepK, e] at hind; cases hind
  have nj : κ j ≠ some none := fun e => by
    rw [indepK, e] at hind
    cases hki : κ i with
    | none => rw [hki] at hind; cases hind
    | some q => rw [hki] at hind; cases q <;> cases hind
  have hei3 : Eff3 P T ops κ i oi st ei := hei2.eff3 ni
  have hej3 : Eff3 P T ops κ j oj (st.app oi.dst ei) ej := hej2.eff3 nj
  have hind : indep ops oi oj = true ∨ (oi.apart ops oj = true ∧ ∃ a b, κ i = some (some a) ∧ κ j = some (some b) ∧ a ≠ b ∧ (tL oi = true → tL oj = false)) := by
    unfold indepK at hind
    split at hind
    · cases hind
    · cases hind
    · rename_i a b ha hb
      simp only [Bool.or_eq_true, Bool.and_eq_true, bne_iff_ne, ne_eq] at hind
      exact hind.imp id fun h => ⟨h.1.1, a, b, ha, hb, h.1.2, fun ht => by
        have h2 := h.2
        rw [ht] at h2
        simpa using h2⟩
    · exact .inl hind
  rcases hind with hind | hind
  rotate_left
  · obtain ⟨hap, a, b, ha, hb, hab, htl⟩ := hind
    have hei : Eff1 P T ops oi st ei := hei3.eff1 ha
    have hej : Eff1 P T ops oj (st.app oi.dst ei) ej := hej3.eff1 hb
    obtain ⟨a1, a2, a3⟩ := Oper.apart_spec hap
    have pi := kki a ha
    obtain ⟨b1, b2⟩ := looks_app (ops := ops) (st := st) (e := ei) a1
    obtain ⟨c1, c2⟩ := looks_app (ops := ops) (st := st) (e := ej) a3
    have pj := kkj b hb
    have bi := hei.boxK pi
    have bj := hej.boxK pj
    have hBb : (st.app oi.dst ei).B b = st.B b := by
      rcases bi with h | ⟨gc, h⟩
      · simp [St.app, h]
      · simp only [St.app, h]; exact upd_ne _ _ (Ne.symm hab)
    have hBa : st.B a = (st.app oj.dst ej).B a := by
      rcases bj with h | ⟨gc, h⟩
      · simp [St.app, h]
      · simp only [St.app, h]; exact (upd_ne _ _ hab).symm
    have appL : ∀ (s : St) (d : Option Nat) (e : Eff), e.bump = [] → (s.app d e).L = s.L := fun s d e h => by simp [St.app, h]
    have hLi : tL oj = true → ei.bump = [] := fun h => hei.kind.2 (by
      cases ht : tL oi with
      | false => rfl
      | true => rw [htl ht] at h; cases h)
    have hLj : tL oi = true → ej.bump = [] := fun h => hej.kind.2 (htl h)
    exact ⟨_, ⟨oj, ej, hj, hnj, .inl (hej.congrK b1 b2 pj hBb rfl fun h => appL _ _ _ (hLi h)), rfl, kkj.congr b1 rfl b2⟩,
      ⟨oi, ei, hi, hni, .inl (hei.congrK (fun x hx => (c1 x hx).symm) c2.symm pi hBa rfl fun h => (appL _ _ _ (hLj h)).symm),
      app_commK hab (fun d hd => a2 d hd) bi bj (by
        cases ht : tL oi with
        | false => exact .inl (hei.kind.2 ht)
        | true => exact .inr (hLj ht)), kki.congr (fun x hx => (c1 x hx).symm) rfl c2.symm⟩⟩
  simp only [indep, Bool.and_eq_true, Bool.not_eq_true'] at hind
  obtain ⟨⟨⟨hap, hB1⟩, hB2⟩, hL⟩ := hind
  obtain ⟨a1, a2, a3⟩ := Oper.apart_spec hap
  have ki := hei3.kind
  have kj := hej3.kind
  have hBi : rB oj = true → ei.box = none := fun h => by
    cases hw : wB oi with
    | false => exact ki.1 hw
    | true => rw [hw, h] at hB1; cases hB1
  have hBj : rB oi = true → ej.box = none := fun h => by
    cases hw : wB oj with
    | false => exact kj.1 hw
    | true => rw [hw, h] at hB2; cases hB2
  have hLi : tL oj = true → ei.bump = [] := fun h => by
    cases hw : tL oi with
    | false => exact ki.2 hw
    | true => rw [hw, h] at hL; cases hL
  have hLj : tL oi = true → ej.bump = [] := fun h => by
    cases hw : tL oj with
    | false => exact kj.2 hw
    | true => rw [hw, h] at hL; cases hL
  have appB : ∀ (s : St) (d : Option Nat) (e : Eff), e.box = none → (s.app d e).B = s.B := fun s d e h => by simp [St.app, h]
  have appL : ∀ (s : St) (d : Option Nat) (e : Eff), e.bump = [] → (s.app d e).L = s.L := fun s d e h => by simp [St.app, h]
  have hej' : Eff3 P T ops κ j oj st ej := by
    obtain ⟨b1, b2⟩ := looks_app (ops := ops) (st := st) (e := ei) a1
    exact hej3.congr b1 b2 rfl (fun h => appB _ _ _ (hBi h)) (fun h => appL _ _ _ (hLi h))
  have hei' : Eff3 P T ops κ i oi (st.app oj.dst ej) ei := by
    obtain ⟨b1, b2⟩ := looks_app (ops := ops) (st := st) (e := ej) a3
    exact hei3.congr (fun x hx => (b1 x hx).symm) b2.symm rfl (fun h => (appB _ _ _ (hBj h)).symm) (fun h => (appL _ _ _ (hLj h)).symm)
  obtain ⟨b1, b2⟩ := looks_app (ops := ops) (st := st) (e := ei) a1
  obtain ⟨c1, c2⟩ := looks_app (ops := ops) (st := st) (e := ej) a3
  refine ⟨_, ⟨oj, ej, hj, hnj, hej'.eff2, rfl, kkj.congr b1 rfl b2⟩, ⟨oi, ei, hi, hni, hei'.eff2, ?_, kki.congr (fun x hx => (c1 x hx).symm) rfl c2.symm⟩⟩
  refine app_comm (fun d hd => a2 d hd) ?_ ?_
  · cases hw : wB oi with
    | false => exact .inl (ki.1 hw)
    | true => exact .inr (hBj (wB_rB hw))
  · cases hw : tL oi with
    | false => exact .inl (ki.2 hw)
    | true => exact .inr (hLj hw)

theorem DRun.front {κ : Keys} {i : Nat} {oi : Oper} (hi : ops[i]? = some oi) : ∀ (l1 l2 : List Nat) (st st' : St), (∀ k ∈ l1, ∃ ok, ops[k]? = some ok ∧ indepK ops κ k i ok oi = true) → DRun P T ops κ (l1 ++ i :: l2) st st' → DRun P T ops κ (i :: (l1 ++ l2)) st st'
  | [], l2, st, st', _, h => h
  | k :: l1, l2, st, st', hk, h => by
    cases h with
    | cons _ _ _ st1 _ h1 h2 =>
      have h3 := DRun.front hi l1 l2 st1 st' (fun j hj => hk j (List.mem_cons_of_mem _ hj)) h2
      cases h3 with
      | cons _ _ _ st2 _ h4 h5 =>
        obtain ⟨ok, hok, hind⟩ := hk k List.mem_cons_self
        obtain ⟨st1', h6, h7⟩ := swap hok hi hind h1 h4
        exact .cons i _ st st1' st' h6 (.cons k _ st1' st2 st' h7 h5)

/-- What the kernel is asked of a region whose order is open. -/
def orderOK (ops : Array Oper) (κ : Keys) (M : List Nat) : Bool :=
  (List.range ops.size).all fun i => match ops[i]? with
    | none => false
    | some o => (o.after.toList.all fun e => !Region.binds .any e || e.on < i) && (List.range i).all fun k =>
        if (M.getD i 0).testBit k then (o.after.toList.any fun e => Region.binds .any e && (e.on == k || (k < e.on && (M.getD e.on 0).testBit k)))
        else (match ops[k]? with | some ok => indepK ops κ k i ok o | none => false)

theorem orderOK_spec {κ : Keys} {M : List Nat} (h : orderOK ops κ M = true) {i : Nat} (hi : i < ops.size) : ∃ o, ops[i]? = some o ∧ (∀ e ∈ o.after, Region.binds .any e = true → e.on < i) ∧
    ∀ k, k < i → ((M.getD i 0).testBit k = true → ∃ e ∈ o.after, Region.binds .any e = true ∧ (e.on = k ∨ (k < e.on ∧ (M.getD e.on 0).testBit k = true))) ∧ ((M.getD i 0).testBit k = false → ∃ ok, ops[k]? = some ok ∧ indepK ops κ k i ok o = true) := by
  unfold orderOK at h
  have h1 := List.all_eq_true.1 h i (List.mem_range.2 hi)
  have ho : ops[i]? = some ops[i] := by simp [hi]
  rw [ho] at h1
  simp only [Bool.and_eq_true] at h1
  refine ⟨ops[i], ho, fun e he hb => ?_, fun k hk => ?_⟩
  · have := List.all_eq_true.1 h1.1 e (by simpa using he)
    simp only [hb, Bool.not_true, Bool.false_or, decide_eq_true_eq] at this
    exact this
  · have h2 := List.all_eq_true.1 h1.2 k (List.mem_range.2 hk)
    split at h2
    · rename_i hb
      refine ⟨fun _ => ?_, fun h => by rw [hb] at h; cases h⟩
      obtain ⟨e, he, h3⟩ := List.any_eq_true.1 h2
      simp only [Bool.and_eq_true, Bool.or_eq_true, beq_iff_eq, decide_eq_true_eq] at h3
      exact ⟨e, by simpa using he, h3.1, h3.2⟩
    · rename_i hb
      refine ⟨fun h => absurd h hb, fun _ => ?_⟩
      split at h2
      · rename_i ok hok; exact ⟨ok, hok, h2⟩
      · cases h2

theorem wpAny_run (hT : T.OK P) {κ : Keys} {M : List Nat} (hord : orderOK ops κ M = true) {Q : Exit → Act → World → Prop} : ∀ (fuel : Nat) (listed : Array Bool) (rem : List Nat) (st st' : St) (a : Act) (w : World),
    fuel = rem.length → (∀ i, i ∈ rem ↔ i < ops.size ∧ listed.getD i true = false) → rem.Pairwise (· < ·) →
    (∀ k, k < ops.size → listed.getD k true = true → ∀ o, ops[k]? = some o → ∀ e ∈ o.after, Region.binds .any e = true → listed.getD e.on true = true) → listed.size = ops.size →
    DRun P T ops κ rem st st' → Rel base w0 st a w → (∀ a' w', Rel base w0 st' a' w' → Q .normal a' w') → wpAny P .any ops Q fuel listed a w := by
  intro fuel
  -- two ways to ask whether an operation is listed
  have hgd : ∀ (listed : Array Bool) (i : Nat), listed.size = ops.size → i < ops.size → listed.getD i true = listed.getD i false := fun listed i h1 h2 => by
    simp [Array.getD, h1, h2]
  induction fuel with
  | zero =>
    intro listed rem st st' a w hf hrem hsort hdown hsz hrun hrel hQ
    have hr : rem = [] := List.eq_nil_of_length_eq_zero hf.symm
    subst hr
    cases hrun
    refine ⟨?_, hQ _ _ hrel⟩
    apply List.eq_nil_iff_forall_not_mem.2
    intro j hj
    obtain ⟨h1, o, h2, _⟩ := mem_ready.1 hj
    have := (hrem j).2 ⟨(Array.getElem?_eq_some_iff.1 h2).1, h1⟩
    simp at this
  | succ fuel ih =>
    intro listed rem st st' a w hf hrem hsort hdown hsz hrun hrel hQ
    refine ⟨fun hnil => ?_, fun i hi => ?_⟩
    · exfalso
      cases rem with
      | nil => simp at hf
      | cons i rem =>
        have hi := (hrem i).1 List.mem_cons_self
        obtain ⟨o, ho, hback, _⟩ := orderOK_spec hord hi.1
        have : i ∈ Region.ready .any ops listed := mem_ready.2 ⟨hi.2, o, ho, fun e he hb => by
          have hlt := hback e he hb
          cases hl : listed.getD e.on false with
          | true => rfl
          | false =>
            have : e.on ∈ i :: rem := (hrem e.on).2 ⟨by omega, by rw [hgd listed e.on hsz (by omega)]; exact hl⟩
            rcases List.mem_cons.1 this with h | h
            · omega
            · have := List.rel_of_pairwise_cons hsort h; omega⟩
        rw [hnil] at this
        cases this
    · obtain ⟨hun, o, ho, hall⟩ := mem_ready.1 hi
      have hilt : i < ops.size := (Array.getElem?_eq_some_iff.1 ho).1
      have himem : i ∈ rem := (hrem i).2 ⟨hilt, hun⟩
      obtain ⟨l1, l2, rfl⟩ := List.append_of_mem himem
      have hpreds : ∀ e ∈ o.after, Region.binds .any e = true → listed.getD e.on true = true := fun e he hb => by
        have h1 := hall e he hb
        by_cases hlt : e.on < ops.size
        · rw [hgd listed e.on hsz hlt]; exact h1
        · simp [Array.getD, hsz, hlt]
      -- whatever the mask names is listed
      have hmask : ∀ m, m < ops.size → ∀ om, ops[m]? = some om → (∀ e ∈ om.after, Region.binds .any e = true → listed.getD e.on true = true) → ∀ k, k < m → (M.getD m 0).testBit k = true → listed.getD k true = true := by
        intro m
        induction m using Nat.strongRecOn with
        | _ m ihm =>
          intro hm om hom hp k hk hbit
          obtain ⟨o', ho', hback, hks⟩ := orderOK_spec hord hm
          rw [hom] at ho'; cases ho'
          obtain ⟨e, he, hb, hor⟩ := (hks k hk).1 hbit
          rcases hor with h | ⟨hke, h⟩
          · rw [← h]; exact hp e he hb
          · have hlt := hback e he hb
            have hl := hp e he hb
            have heo : ops[e.on]? = some ops[e.on] := by simp [show e.on < ops.size by omega]
            exact ihm e.on hlt (by omega) _ heo (fun e' he' hb' => hdown e.on (by omega) hl _ heo e' he' hb') k hke h
      have hfront := DRun.front ho l1 l2 st st' (fun k hk => by
        have hkm := (hrem k).1 (List.mem_append_left _ hk)
        have hki : k < i := by
          have := List.pairwise_append.1 hsort
          exact this.2.2 k hk i List.mem_cons_self
        obtain ⟨o', ho', hback, hks⟩ := orderOK_spec hord hilt
        rw [ho] at ho'; cases ho'
        cases hbit : (M.getD i 0).testBit k with
        | true =>
          have := hmask i hilt o ho hpreds k hki hbit
          rw [this] at hkm
          cases hkm.2
        | false => exact (hks k hki).2 hbit) hrun
      cases hfront with
      | cons _ _ _ st1 _ h1 h2 =>
        obtain ⟨o', e, ho', hn, he, rfl, _⟩ := h1
        rw [ho] at ho'; cases ho'
        refine wpOp_eff2 ho hn hT he hrel (fun a' w' hrel' => ih _ (l1 ++ l2) _ st' a' w' (by simp at hf ⊢; omega) (fun j => ?_) ?_ ?_ (by simpa using hsz) h2 hrel' hQ)
        · have hns : i ∉ l1 ++ l2 := by
            have h3 := List.pairwise_append.1 hsort
            intro h
            rcases List.mem_append.1 h with h | h
            · have := h3.2.2 i h i List.mem_cons_self; omega
            · have := List.rel_of_pairwise_cons h3.2.1 h; omega
          by_cases hji : j = i
          · subst hji
            refine ⟨fun h => absurd h hns, fun h => ?_⟩
            have : (listed.setIfInBounds j true).getD j true = true := by simp [Array.getD, hsz, hilt]
            rw [this] at h; cases h.2
          · rw [getD_set_ne true (Ne.symm hji), ← hrem j]
            simp [hji]
        · have h3 := List.pairwise_append.1 hsort
          exact List.pairwise_append.2 ⟨h3.1, (List.pairwise_cons.1 h3.2.1).2, fun x hx y hy => h3.2.2 x hx y (List.mem_cons_of_mem _ hy)⟩
        · intro k hk hl ok hok e he hb
          by_cases hki : k = i
          · subst hki
            rw [ho] at hok; cases hok
            by_cases hei : e.on = k
            · rw [hei]; simp [Array.getD, hsz, hilt]
            · rw [getD_set_ne true (Ne.symm hei)]; exact hpreds e he hb
          · rw [getD_set_ne true (Ne.symm hki)] at hl
            by_cases hei : e.on = i
            · rw [hei]; simp [Array.getD, hsz, hilt]
            · rw [getD_set_ne true (Ne.symm hei)]; exact hdown k hk hl ok hok e he hb

/-! ### Code -/
/-- From the state told, the code ends as told. -/
def AWp (P : Program) (base : Nat) (w0 : Entry) (c : Code) (Q : Exit → St → Prop) (st : St) : Prop :=
  ∀ a w, Rel base w0 st a w → c.wp P (fun e a' w' => ∃ st', Q e st' ∧ Rel base w0 st' a' w') a w

variable {Q : Exit → St → Prop} {st : St}

theorem AWp.mono {c : Code} {Q' : Exit → St → Prop} (h : AWp P base w0 c Q st) (hq : ∀ e st', Q e st' → Q' e st') : AWp P base w0 c Q' st := fun a w hrel =>
  wp_mono (h a w hrel) fun _ _ _ ⟨st', h1, h2⟩ => ⟨st', hq _ _ h1, h2⟩

theorem AWp.region {id : Nat} (hT : T.OK P) {st' : St} (h : DRun P T ops noK (List.range ops.size) st st') (hq : Q .normal st') : AWp P base w0 (.region id ops false) Q st := fun a w hrel => by
  refine wp_region ?_
  have key : ∀ (l : List Nat) (st : St) (a : Act) (w : World), DRun P T ops noK l st st' → Rel base w0 st a w → wpOps P ops (fun e a' w' => ∃ st', Q e st' ∧ Rel base w0 st' a' w') l a w := by
    intro l
    induction l with
    | nil => intro st a w h hrel; cases h; exact ⟨_, hq, hrel⟩
    | cons i l ih =>
      intro st a w h hrel
      cases h with
      | cons _ _ _ st1 _ h1 h2 =>
        obtain ⟨o, e, ho, hn, he, rfl, _⟩ := h1
        rw [wpOps_cons]
        exact wpOp_eff2 ho hn hT he hrel (fun a' w' hrel' => ih _ a' w' h2 hrel')
  exact key _ _ _ _ h hrel

theorem Rel.drew {a : Act} {w : World} (h : Rel base w0 st a w) : Rel base w0 st a { w with drawn := w.drawn + 1 } := by
  obtain ⟨E, hok, hle0, hs⟩ := h.ex
  obtain ⟨h1, h2⟩ := hok.drawn 1
  exact ⟨⟨E, h2, hle0.trans h1, fun t => (hs t).mono h1⟩, h.size, h.defs⟩

theorem AWp.drawn {id : Nat} {κ : Keys} (hT : T.OK P) (hm : P.follows .mixedOrders = true) {M : List Nat} (hord : orderOK ops κ M = true) {st' : St} (h : DRun P T ops κ (List.range ops.size) st st') (hq : Q .normal st') : AWp P base w0 (.region id ops true) Q st := fun a w hrel => by
  refine wp_region_any hm ?_
  refine wpAny_run hT hord ops.size _ (List.range ops.size) st st' a _ (by simp) (fun i => ?_) List.pairwise_lt_range ?_ (by simp) h hrel.drew (fun a' w' hrel' => ⟨_, hq, hrel'⟩)
  · by_cases hi : i < ops.size <;> simp [hi, Array.getD]
  · intro k hk hl
    exfalso
    simp [Array.getD, hk] at hl

theorem AWp.seq {x y : Code} (h : AWp P base w0 x (fun e st' => match e with | .normal => AWp P base w0 y Q st' | e => Q e st') st) : AWp P base w0 (.seq x y) Q st := fun a w hrel =>
  wp_seq (wp_mono (h a w hrel) fun e a' w' ⟨st', h1, h2⟩ => by
    cases e with
    | normal => exact h1 a' w' h2
    | _ => exact ⟨st', h1, h2⟩)

theorem AWp.cond {c : Operand} {x y : Code} {t : Bool} (hc : evalA st c = .val (.bool t)) (h : AWp P base w0 (if t then x else y) Q st) : AWp P base w0 (.cond c x y) Q st := fun a w hrel => by
  obtain ⟨E, hok, hle0, hs⟩ := hrel.ex
  have := evalA_ok hs c
  rw [hc, RV.val_iff] at this
  exact wp_cond this (h a w hrel)

theorem AWp.skip (h : Q .normal st) : AWp P base w0 .skip Q st := fun a w hrel => wp_skip ⟨st, h, hrel⟩
theorem AWp.label {l : Nat} (h : Q .normal st) : AWp P base w0 (.label l) Q st := fun a w hrel => wp_label ⟨st, h, hrel⟩
theorem AWp.exit {id : Nat} (h : Q (.exit id) st) : AWp P base w0 (.exit id) Q st := fun a w hrel => wp_exit ⟨st, h, hrel⟩
theorem AWp.goto {l : Nat} (h : Q (.goto l) st) : AWp P base w0 (.goto l) Q st := fun a w hrel => wp_goto ⟨st, h, hrel⟩
theorem AWp.ret (h : Q .ret st) : AWp P base w0 .ret Q st := fun a w hrel => wp_ret ⟨st, h, hrel⟩

theorem AWp.block {id : Nat} {c : Code} (h : AWp P base w0 c (fun e st' => match e with | .exit id' => if id' = id then Q .normal st' else Q (.exit id') st' | e => Q e st') st) : AWp P base w0 (.block id c) Q st := fun a w hrel =>
  wp_block (wp_mono (h a w hrel) fun e a' w' ⟨st', h1, h2⟩ => by
    cases e with
    | exit id' =>
      simp only [Exit.inBlock]
      simp only at h1
      split
      · rename_i he; rw [if_pos he] at h1; exact ⟨st', h1, h2⟩
      · rename_i he; rw [if_neg he] at h1; exact ⟨st', h1, h2⟩
    | _ => exact ⟨st', h1, h2⟩)

/-- A loop: what holds at each round's head, with what is left; each round has less left. -/
theorem AWp.loop {c : Code} (I : Nat → St → Prop) (round : ∀ n st, I n st → AWp P base w0 c (fun e st' => match e with | .normal => ∃ m, m < n ∧ I m st' | e => Q e st') st) {n : Nat} (h : I n st) : AWp P base w0 (.loop c) Q st := by
  intro a w hrel
  have up : ∀ (n : Nat) (a : Act) (w : World), Code.rounds P c (fun e a' w' => ∃ st', Q e st' ∧ Rel base w0 st' a' w') n a w → ∀ m, n ≤ m → Code.rounds P c (fun e a' w' => ∃ st', Q e st' ∧ Rel base w0 st' a' w') m a w := by
    intro n
    induction n with
    | zero => intro a w h; exact h.elim
    | succ n ih =>
      intro a w h m hm
      obtain ⟨m, rfl⟩ : ∃ k, m = k + 1 := ⟨m - 1, by omega⟩
      rw [rounds_succ] at h ⊢
      refine wp_mono h fun e a' w' h => ?_
      cases e with
      | normal => exact ih a' w' h m (by omega)
      | _ => exact h
  have key : ∀ (n : Nat) (st : St) (a : Act) (w : World), I n st → Rel base w0 st a w → Code.rounds P c (fun e a' w' => ∃ st', Q e st' ∧ Rel base w0 st' a' w') (n + 1) a w := by
    intro n
    induction n using Nat.strongRecOn with
    | _ n ih =>
      intro st a w hI hrel
      rw [rounds_succ]
      refine wp_mono (round n st hI a w hrel) fun e a' w' ⟨st', h1, h2⟩ => ?_
      cases e with
      | normal =>
        obtain ⟨m, hm, hI'⟩ := h1
        exact up (m + 1) a' w' (ih m hm st' a' w' hI' h2) n (by omega)
      | _ => exact ⟨st', h1, h2⟩
  exact wp_loop_rounds (n + 1) (key n st a w h hrel)

/-- A scope into which the run jumps back to one label. -/
theorem AWp.scope {c rest : Code} (l : Nat) (J : Nat → St → Prop) (hf : findLabel c l = some rest)
    (first : AWp P base w0 c (fun e st' => match e with | .goto l' => l' = l ∧ ∃ n, J n st' | e => Q e st') st)
    (pass : ∀ n st, J n st → AWp P base w0 rest (fun e st' => match e with | .goto l' => l' = l ∧ ∃ m, m < n ∧ J m st' | e => Q e st') st) : AWp P base w0 (.scope c) Q st := by
  intro a w hrel
  -- what is left at the least
  have least : ∀ p : Nat → Prop, (∃ n, p n) → ∃ n, p n ∧ ∀ m, m < n → ¬ p m := by
    intro p ⟨n, hn⟩
    induction n using Nat.strongRecOn with
    | _ n ih =>
      by_cases h : ∃ m, m < n ∧ p m
      · obtain ⟨m, hm, hp⟩ := h; exact ih m hm hp
      · exact ⟨n, hn, fun m hm hp => h ⟨m, hm, hp⟩⟩
  let J' : Act → World → Prop := fun a w => ∃ n st, J n st ∧ Rel base w0 st a w
  classical
  let μ : Act → World → Nat := fun a w => if h : ∃ n, ∃ st, J n st ∧ Rel base w0 st a w then Classical.choose (least _ h) else 0
  have hμ : ∀ a w, J' a w → ∃ st, J (μ a w) st ∧ Rel base w0 st a w := fun a w ⟨n, st, h1, h2⟩ => by
    have hex : ∃ n, ∃ st, J n st ∧ Rel base w0 st a w := ⟨n, st, h1, h2⟩
    have := (Classical.choose_spec (least _ hex)).1
    simp only [μ, dif_pos hex]
    exact this
  have hμle : ∀ a w n st, J n st → Rel base w0 st a w → μ a w ≤ n := fun a w n st h1 h2 => by
    have hex : ∃ n, ∃ st, J n st ∧ Rel base w0 st a w := ⟨n, st, h1, h2⟩
    have := (Classical.choose_spec (least _ hex)).2
    simp only [μ, dif_pos hex]
    rcases Nat.lt_or_ge n (Classical.choose (least _ hex)) with h | h
    · exact absurd ⟨st, h1, h2⟩ (this n h)
    · exact h
  refine wp_scope_jumps l J' μ hf (wp_mono (first a w hrel) fun e a' w' ⟨st', h1, h2⟩ => ?_) (fun a w hJ => ?_)
  · cases e with
    | goto l' => obtain ⟨h3, n, h4⟩ := h1; exact ⟨h3, n, st', h4, h2⟩
    | _ => exact ⟨st', h1, h2⟩
  · obtain ⟨st1, h1, h2⟩ := hμ a w hJ
    refine wp_mono (pass _ st1 h1 a w h2) fun e a' w' ⟨st', h3, h4⟩ => ?_
    cases e with
    | goto l' =>
      obtain ⟨h5, m, hm, h6⟩ := h3
      exact ⟨h5, ⟨m, st', h6, h4⟩, Nat.lt_of_le_of_lt (hμle a' w' m st' h6 h4) hm⟩
    | _ => exact ⟨st', h3, h4⟩

/-- A scope with a label behind its first part, to which the rest jumps back. -/
theorem AWp.scopeL {pre rest : Code} (l : Nat) (J : Nat → St → Prop) (hpre : findLabel pre l = none)
    (first : AWp P base w0 pre (fun e st' => match e with | .normal => ∃ n, J n st' | .goto _ => False | e => Q e st') st)
    (pass : ∀ n st, J n st → AWp P base w0 rest (fun e st' => match e with | .goto l' => l' = l ∧ ∃ m, m < n ∧ J m st' | e => Q e st') st) : AWp P base w0 (.scope (.seq pre (.seq (.label l) rest))) Q st := by
  refine AWp.scope (rest := .seq .skip rest) l J (by simp [findLabel, hpre]) (AWp.seq (first.mono fun e st' h => ?_)) (fun n st h => AWp.seq (AWp.skip (pass n st h)))
  cases e with
  | normal =>
    obtain ⟨n, hn⟩ := h
    refine AWp.seq (AWp.label ((pass n st' hn).mono fun e st'' h => ?_))
    cases e with
    | goto l' => obtain ⟨h1, m, _, h2⟩ := h; exact ⟨h1, m, h2⟩
    | _ => exact h
  | goto l' => exact h.elim
  | _ => exact h
/-- What is shown first of the code behind k pieces. -/
theorem AWp.later1 {c1 rest : Code} (M : St → Prop) (h : ∀ st', M st' → AWp P base w0 rest Q st') (k : (∀ st', M st' → AWp P base w0 rest Q st') → AWp P base w0 (.seq c1 rest) Q st) : AWp P base w0 (.seq c1 rest) Q st := k h
theorem AWp.later2 {c1 c2 rest : Code} (M : St → Prop) (h : ∀ st', M st' → AWp P base w0 rest Q st') (k : (∀ st', M st' → AWp P base w0 rest Q st') → AWp P base w0 (.seq c1 (.seq c2 rest)) Q st) : AWp P base w0 (.seq c1 (.seq c2 rest)) Q st := k h
theorem AWp.later3 {c1 c2 c3 rest : Code} (M : St → Prop) (h : ∀ st', M st' → AWp P base w0 rest Q st') (k : (∀ st', M st' → AWp P base w0 rest Q st') → AWp P base w0 (.seq c1 (.seq c2 (.seq c3 rest))) Q st) : AWp P base w0 (.seq c1 (.seq c2 (.seq c3 rest))) Q st := k h
theorem AWp.later4 {c1 c2 c3 c4 rest : Code} (M : St → Prop) (h : ∀ st', M st' → AWp P base w0 rest Q st') (k : (∀ st', M st' → AWp P base w0 rest Q st') → AWp P base w0 (.seq c1 (.seq c2 (.seq c3 (.seq c4 rest)))) Q st) : AWp P base w0 (.seq c1 (.seq c2 (.seq c3 (.seq c4 rest)))) Q st := k h
theorem AWp.later5 {c1 c2 c3 c4 c5 rest : Code} (M : St → Prop) (h : ∀ st', M st' → AWp P base w0 rest Q st') (k : (∀ st', M st' → AWp P base w0 rest Q st') → AWp P base w0 (.seq c1 (.seq c2 (.seq c3 (.seq c4 (.seq c5 rest))))) Q st) : AWp P base w0 (.seq c1 (.seq c2 (.seq c3 (.seq c4 (.seq c5 rest))))) Q st := k h
theorem AWp.later6 {c1 c2 c3 c4 c5 c6 rest : Code} (M : St → Prop) (h : ∀ st', M st' → AWp P base w0 rest Q st') (k : (∀ st', M st' → AWp P base w0 rest Q st') → AWp P base w0 (.seq c1 (.seq c2 (.seq c3 (.seq c4 (.seq c5 (.seq c6 rest)))))) Q st) : AWp P base w0 (.seq c1 (.seq c2 (.seq c3 (.seq c4 (.seq c5 (.seq c6 rest)))))) Q st := k h
theorem AWp.later7 {c1 c2 c3 c4 c5 c6 c7 rest : Code} (M : St → Prop) (h : ∀ st', M st' → AWp P base w0 rest Q st') (k : (∀ st', M st' → AWp P base w0 rest Q st') → AWp P base w0 (.seq c1 (.seq c2 (.seq c3 (.seq c4 (.seq c5 (.seq c6 (.seq c7 rest))))))) Q st) : AWp P base w0 (.seq c1 (.seq c2 (.seq c3 (.seq c4 (.seq c5 (.seq c6 (.seq c7 rest))))))) Q st := k h
theorem AWp.later8 {c1 c2 c3 c4 c5 c6 c7 c8 rest : Code} (M : St → Prop) (h : ∀ st', M st' → AWp P base w0 rest Q st') (k : (∀ st', M st' → AWp P base w0 rest Q st') → AWp P base w0 (.seq c1 (.seq c2 (.seq c3 (.seq c4 (.seq c5 (.seq c6 (.seq c7 (.seq c8 rest)))))))) Q st) : AWp P base w0 (.seq c1 (.seq c2 (.seq c3 (.seq c4 (.seq c5 (.seq c6 (.seq c7 (.seq c8 rest)))))))) Q st := k h
end

end Go.Proofs.YtkmdeahnkfdhjaaW.E
