/-
  Calls of functions that may write to the boxes of who calls them: closures, and functions that are handed closures. Laws over any program; no condition.
-/
import Derived.Test.YtkmdeahnkfdhjaaE15
namespace Go.Proofs.YtkmdeahnkfdhjaaW.E
open Go Go.RowKit
set_option linter.unusedVariables false
set_option linter.unusedSimpArgs false

/-- What a body hands back, and what it makes of the boxes. -/
abbrev HPost := AV → (Nat → Nat × List AV) → (Nat → Nat) → Prop
def HFin (T : Tab) (rs : List ResultVar) (R : HPost) : Exit → St → Prop
  | .normal, st => ∃ r, aresults T st rs = some r ∧ R r st.B st.L
  | .ret, st => ∃ r, aresults T st rs = some r ∧ R r st.B st.L
  | _, _ => False

/-- Called with these values, where the boxes are so, the function ends as told. Its own boxes have keys from d on. -/
def HCall (P : Program) (T : Tab) (f : FuncId) (args : List AV) (B : Nat → Nat × List AV) (L : Nat → Nat) (R : HPost) : Prop :=
  callable P f = true ∧ ∃ fn c d, P.funcs[f]? = some fn ∧ fn.body = some c ∧ args.length ≤ fn.ntmps ∧
    ∀ base w0, AWp P base w0 c (HFin T fn.results.toList R) ⟨fn.ntmps, d, fun t => args.getD t (.val undef), B, L⟩

theorem HCall.mono {P : Program} {T : Tab} {f : FuncId} {args : List AV} {B : Nat → Nat × List AV} {L : Nat → Nat} {R R' : HPost} (h : HCall P T f args B L R) (k : ∀ r B L, R r B L → R' r B L) : HCall P T f args B L R' := by
  obtain ⟨h1, fn, c, d, h2, h3, h4, h5⟩ := h
  refine ⟨h1, fn, c, d, h2, h3, h4, fun base w0 => (h5 base w0).mono fun e st h => ?_⟩
  cases e with
  | normal => obtain ⟨r, h6, h7⟩ := h; exact ⟨r, h6, k _ _ _ h7⟩
  | ret => obtain ⟨r, h6, h7⟩ := h; exact ⟨r, h6, k _ _ _ h7⟩
  | _ => exact h

section
variable {P : Program} {base : Nat} {w0 : Entry} {T : Tab} {ops : Array Oper}

theorem OK.re {w0' : Entry} (h1 : w0'.w = w0.w) (h2 : w0'.S = w0.S) {E : Env} {B : Nat → Nat × List AV} {L : Nat → Nat} {w : World} (h : OK base w0 E B L w) : OK base w0' E B L w :=
  ⟨by rw [h1]; exact h.hbase, by rw [h1]; exact h.below, fun b o x y => by rw [h2]; exact h.sOld b o x y, h.sCell, h.fCell, h.fOld, h.sF, h.L, h.G, h.box, h.boxinj, h.spare, h.spareinj, h.sparebox⟩

theorem hcall_of {f : FuncId} {fn : Func} {c : Code} {args : List AV} {B : Nat → Nat × List AV} {L : Nat → Nat} {R : HPost} (hf : P.funcs[f]? = some fn) (hb : fn.body = some c) (hnm : (fn.name != "runtime.NumGoroutine") = true) (hle : args.length ≤ fn.ntmps) (d : Nat)
    (h : ∀ base w0, AWp P base w0 c (HFin T fn.results.toList R) ⟨fn.ntmps, d, fun t => args.getD t (.val undef), B, L⟩) : HCall P T f args B L R :=
  ⟨by simp [callable, hf, hnm, hb], fn, c, d, hf, hb, hle, h⟩

theorem wpOp_h {st : St} {o : Oper} {i : Nat} (hi : ops[i]? = some o) (hn : dstOK o st.n = true) (hw : awanted ops o st = some true) (hT : T.OK P) {c : Call} (ho : o.op = .call c) {g : FuncId} {caps : List AV} (hc : calleeOf st c = some (g, caps))
    {R : HPost} (hcall : HCall P T g (c.args.toList.map (evalA st) ++ caps) st.B st.L R) {a : Act} {w : World} (hrel : Rel base w0 st a w)
    {K : Act → World → Prop} {Q : Exit → Act → World → Prop} (hK : ∀ r B' L' a' w', R r B' L' → Rel base w0 ⟨st.n, st.d, (st.app o.dst { v := r }).s, B', L'⟩ a' w' → K a' w') : wpOp P ops Q i K a w := by
  obtain ⟨E, hok, hle0, hs⟩ := hrel.ex
  obtain ⟨hcb, fn, code, d, hf, hb, hle, hbody⟩ := hcall
  unfold wpOp
  simp only [hi, awanted_ok hs hw, if_true]
  refine .inl ?_
  obtain ⟨vs, hrun, hlen, hvs⟩ := run_call (P := P) hs ho hc hcb
  unfold Oper.wp
  rw [hrun]
  show Calls P g vs w _
  let w0' : Entry := { w0 with E1 := E, w1 := w }
  have hslots : ∀ t, RV E w ((c.args.toList.map (evalA st) ++ caps).getD t (.val undef)) ((vs ++ Array.replicate (fn.ntmps - vs.size) undef).getD t undef) := fun t => by
    by_cases ht : t < vs.size
    · have e1 : (vs ++ Array.replicate (fn.ntmps - vs.size) undef).getD t undef = vs[t] := by
        simp [Array.getD, Array.size_append, Array.size_replicate, show t < vs.size + (fn.ntmps - vs.size) by omega, Array.getElem_append_left ht]
      have ht' : t < (c.args.toList.map (evalA st) ++ caps).length := by omega
      have e2 : (c.args.toList.map (evalA st) ++ caps).getD t (.val undef) = (c.args.toList.map (evalA st) ++ caps)[t] := by simp only [List.getD_eq_getElem?_getD, List.getElem?_eq_getElem ht', Option.getD_some]
      rw [e1, e2]
      exact hvs t _ _ (List.getElem?_eq_getElem ht') (by simp [ht])
    · have e1 : (vs ++ Array.replicate (fn.ntmps - vs.size) undef).getD t undef = undef := by
        rw [Array.getD_eq_getD_getElem?, Array.getElem?_append_right (by omega), Array.getElem?_replicate]
        split <;> rfl
      have e2 : (c.args.toList.map (evalA st) ++ caps).getD t (.val undef) = .val undef := by
        simp only [List.getD_eq_getElem?_getD, List.getElem?_eq_none (show (c.args.toList.map (evalA st) ++ caps).length ≤ t by omega), Option.getD_none]
      rw [e1, e2]
      exact RV.val_iff.2 rfl
  have hrel0 : Rel base w0' ⟨fn.ntmps, d, fun t => (c.args.toList.map (evalA st) ++ caps).getD t (.val undef), st.B, st.L⟩ { tmps := vs ++ Array.replicate (fn.ntmps - vs.size) undef, defers := [] } w :=
    ⟨⟨E, OK.re (w0 := w0) (w0' := w0') rfl rfl hok, Env.Le.refl _ _, hslots⟩, by simp; omega, rfl⟩
  refine calls_of_wp hf hb (wp_mono (hbody base w0' _ w hrel0) fun e a' w' ⟨st', hq, hrel'⟩ => ?_)
  have fin : (∃ r, aresults T st' fn.results.toList = some r ∧ R r st'.B st'.L) → a'.defers = [] ∧ ∃ v, (results fn a'.tmps).run P w' = .ok v w' ∧ K (a.put o.dst v) w' := by
    rintro ⟨r, hr, hR⟩
    obtain ⟨E', hok', hle', hs'⟩ := hrel'.ex
    obtain ⟨x, hx, hxr⟩ := run_aresults (P := P) hT hok' hs' hr
    have hle1 : E.Le w E' w' := hle'
    refine ⟨hrel'.defs, x, hx, hK r st'.B st'.L _ w' hR ⟨⟨E', OK.re (w0 := w0') (w0' := w0) rfl rfl hok', hle0.trans hle1, slots_put (e := { v := r }) hs hrel.size (dstOK_spec hn) hle1 hxr⟩, ?_, ?_⟩⟩
    · cases o.dst <;> simp [Act.put, hrel.size]
    · cases o.dst <;> simp [Act.put, hrel.defs]
  cases e with
  | normal => exact fin hq
  | ret => exact fin hq
  | _ => exact hq.elim

/-- The operations from the i-th on, some of them calls that may write to boxes. -/
def HL (P : Program) (T : Tab) (base : Nat) (w0 : Entry) (ops : Array Oper) (rest : List Oper) (i : Nat) (st : St) (Q : Exit → St → Prop) : Prop :=
  rest = ops.toList.drop i → ∀ a w, Rel base w0 st a w → wpOps P ops (fun e a' w' => ∃ st', Q e st' ∧ Rel base w0 st' a' w') (List.range' i rest.length) a w

variable {Q : Exit → St → Prop} {st : St}

theorem HL.nil {i : Nat} (h : Q .normal st) : HL P T base w0 ops [] i st Q := fun _ a w hrel => ⟨st, h, hrel⟩

theorem drop_next {o : Oper} {rest : List Oper} {i : Nat} (hr : o :: rest = ops.toList.drop i) : rest = ops.toList.drop (i + 1) ∧ ops[i]? = some o := by
  refine ⟨by rw [← List.drop_drop, ← hr]; rfl, ?_⟩
  have : (ops.toList.drop i)[0]? = some o := by rw [← hr]; rfl
  simpa using this

theorem HL.step (hT : T.OK P) {o : Oper} {rest : List Oper} {i : Nat} {e : Eff} (hn : dstOK o st.n = true) (he : Eff1 P T ops o st e) (h : HL P T base w0 ops rest (i + 1) (st.app o.dst e) Q) : HL P T base w0 ops (o :: rest) i st Q := fun hr a w hrel => by
  obtain ⟨h1, h2⟩ := drop_next hr
  rw [List.length_cons, List.range'_succ, wpOps_cons]
  exact wpOp_eff h2 hn hT he hrel fun a' w' hrel' => h h1 a' w' hrel'

/-- One that writes to a slice in place. -/
theorem HL.x (hT : T.OK P) {o : Oper} {rest : List Oper} {i : Nat} {e : Eff} (hn : dstOK o st.n = true) (hw : awanted ops o st = some true) (he : xexec T st o = some e) (h : HL P T base w0 ops rest (i + 1) (st.app o.dst e) Q) : HL P T base w0 ops (o :: rest) i st Q := fun hr a w hrel => by
  obtain ⟨h1, h2⟩ := drop_next hr
  rw [List.length_cons, List.range'_succ, wpOps_cons]
  exact wpOp_x h2 hn hT hw he hrel fun a' w' hrel' => h h1 a' w' hrel'

theorem HL.seg (hT : T.OK P) {st2 : St} : ∀ (pre : List Oper) {rest : List Oper} {i : Nat} {st : St}, runL P T ops pre (some st) = some st2 → HL P T base w0 ops rest (i + pre.length) st2 Q → HL P T base w0 ops (pre ++ rest) i st Q
  | [], rest, i, st, h, k => by
    simp only [runL, Option.some.injEq] at h
    subst h
    exact k
  | o :: pre, rest, i, st, h, k => by
    rw [runL_cons] at h
    obtain ⟨st1, h1, h2⟩ : ∃ st1, stepL P T ops o st = some st1 ∧ runL P T ops pre (some st1) = some st2 := by
      cases h1 : stepL P T ops o st with
      | none => rw [h1, runL_none] at h; cases h
      | some st1 => rw [h1] at h; exact ⟨st1, rfl, h⟩
    have hk : HL P T base w0 ops (pre ++ rest) (i + 1) st1 Q := HL.seg hT pre h2 (by rw [List.length_cons] at k; rwa [show i + 1 + pre.length = i + (pre.length + 1) by omega])
    unfold stepL at h1
    split at h1
    · rename_i hn
      split at h1
      · rename_i hw
        obtain ⟨e, he, rfl⟩ := Option.map_eq_some_iff.1 h1
        exact HL.step hT hn (.inr ⟨hw, .inl he⟩) hk
      · rename_i hw
        cases h1
        exact HL.step hT hn (.inl ⟨hw, rfl⟩) hk
      · cases h1
    · cases h1

/-- All that is left. -/
theorem HL.all (hT : T.OK P) {st2 : St} {rest : List Oper} {i : Nat} (h : runL P T ops rest (some st) = some st2) (k : Q .normal st2) : HL P T base w0 ops rest i st Q := by
  have := HL.seg (Q := Q) (base := base) (w0 := w0) hT rest (rest := []) (i := i) h (HL.nil k)
  rwa [List.append_nil] at this
/-- The next m. -/
theorem HL.next (hT : T.OK P) {st2 : St} {rest : List Oper} {i : Nat} (m : Nat) {pre post : List Oper} (hp : rest.take m = pre) (hq : rest.drop m = post) (h : runL P T ops pre (some st) = some st2) (k : HL P T base w0 ops post (i + pre.length) st2 Q) : HL P T base w0 ops rest i st Q := by
  have := HL.seg (Q := Q) (base := base) (w0 := w0) hT pre (rest := post) (i := i) h k
  rwa [← hp, ← hq, List.take_append_drop] at this

/-- A call that may write to boxes; its result is kept, or there is none. -/
theorem HL.h (hT : T.OK P) {n d : Nat} {s : Nat → AV} {B : Nat → Nat × List AV} {L : Nat → Nat} {o : Oper} {rest : List Oper} {i t : Nat} {c : Call} {g : FuncId} {caps args : List AV} {R : HPost} (hop : o.op = .call c) (hd : o.dst = some t) (hn : decide (t < n) = true)
    (hw : awanted ops o ⟨n, d, s, B, L⟩ = some true) (hc : calleeOf ⟨n, d, s, B, L⟩ c = some (g, caps)) (ha : c.args.toList.map (evalA ⟨n, d, s, B, L⟩) ++ caps = args) (hcall : HCall P T g args B L R)
    (h : ∀ r B' L', R r B' L' → HL P T base w0 ops rest (i + 1) ⟨n, d, upd s t r, B', L'⟩ Q) : HL P T base w0 ops (o :: rest) i ⟨n, d, s, B, L⟩ Q := fun hr a w hrel => by
  obtain ⟨h1, h2⟩ := drop_next hr
  rw [List.length_cons, List.range'_succ, wpOps_cons]
  subst ha
  refine wpOp_h h2 (by simp only [dstOK, hd]; exact hn) hw hT hop hc hcall hrel fun r B' L' a' w' hR hrel' => ?_
  have e : (St.app ⟨n, d, s, B, L⟩ o.dst { v := r }).s = upd s t r := by rw [hd]; rfl
  rw [e] at hrel'
  exact h r B' L' hR h1 a' w' hrel'

theorem AWp.regionH {id : Nat} {rest : List Oper} (hr : ops.toList = rest) (h : HL P T base w0 ops rest 0 st Q) : AWp P base w0 (.region id ops false) Q st := fun a w hrel => by
  refine wp_region ?_
  have := h (by rw [hr]; rfl) a w hrel
  rw [List.range_eq_range']
  have e : ops.size = rest.length := by rw [← hr]; simp
  rw [e]
  exact this
end
end Go.Proofs.YtkmdeahnkfdhjaaW.E
