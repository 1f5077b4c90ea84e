/-
  '==' of structs of two numbers. Laws over any program; no condition.
-/
import Derived.Test.YtmnpjaglgalobaaGreatE15
import Derived.Laws.StructEq
import Derived.Lib.Overlaps
namespace Go.Proofs.YtmnpjaglgalobaaGreatW.E
open Go Go.RowKit
set_option linter.unusedVariables false
set_option linter.unusedSimpArgs false

section
variable {P : Program}
theorem pureRun_ite {α : Type} (c : Prop) [Decidable c] (x y : Sem α) : pureRun P (if c then x else y) = if c then pureRun P x else pureRun P y := by split <;> rfl
theorem pureRun_eqStruct (d : Nat) (t : TypeId) (fs : Array Field) (xs ys : Array Value) (ht : P.underlying t = some (.struct fs)) (hp : P.stoodInHeld t = false) :
    pureRun P (Op.equalIn (d + 1) t (.agg xs) (.agg ys)) = pureRun P (Op.eqFields d xs ys fs.toList) := by
  have hprog : pureRun P program = some P := rfl
  simp only [Op.equalIn, pureRun_bind, pureRun_underlying ht, Option.bind_some, hprog, hp, Bool.false_eq_true, if_false]
  rw [← Array.forIn_toList]
  generalize fs.toList = l
  clear ht
  induction l with
  | nil => simp [Op.eqFields, pureRun_bind, pureRun_pure]
  | cons f l ih =>
    simp only [List.forIn_cons, Op.eqFields, pureRun_bind, pureRun_ite] at ih ⊢
    split
    · cases pureRun P (part f.type xs f.offset) with
      | none => rfl
      | some a =>
        simp only [Option.bind_some]
        cases pureRun P (part f.type ys f.offset) with
        | none => rfl
        | some b =>
          simp only [Option.bind_some]
          cases pureRun P (Op.equalIn d f.type a b) with
          | none => rfl
          | some r =>
            cases r
            · rfl
            · simpa only [Option.bind_some, Bool.not_true, Bool.false_eq_true, if_false, pureRun_pure] using ih
    · simpa only [pureRun_pure, Option.bind_some] using ih
theorem pureRun_equal_int (d : Nat) (t : TypeId) (k k' : IntKind) (a b : Int) (h : P.underlying t = some (.int k')) : pureRun P (Op.equalIn (d + 1) t (.int k a) (.int k b)) = some (a == b) := by
  unfold Op.equalIn
  rw [pureRun_bind, pureRun_underlying h]
  simp [pureRun_pure]
theorem pureRun_eq2 {t : TypeId} {f g : Field} {xs ys : Array Value} {k k1 k' k1' : IntKind} {a b c e : Int} (d : Nat) (ht : P.underlying t = some (.struct #[f, g])) (hp : P.stoodInHeld t = false) (hf : f.name ≠ "_") (hg : g.name ≠ "_")
    (p1 : pureRun P (part f.type xs f.offset) = some (.int k a)) (p2 : pureRun P (part f.type ys f.offset) = some (.int k c)) (p3 : pureRun P (part g.type xs g.offset) = some (.int k1 b)) (p4 : pureRun P (part g.type ys g.offset) = some (.int k1 e))
    (u1 : P.underlying f.type = some (.int k')) (u2 : P.underlying g.type = some (.int k1')) : pureRun P (Op.equalIn (d + 2) t (.agg xs) (.agg ys)) = some ((a == c) && (b == e)) := by
  rw [pureRun_eqStruct (d + 1) t _ xs ys ht hp]
  simp only [Op.eqFields, if_pos hf, if_pos hg, pureRun_bind, p1, p2, p3, p4, pureRun_equal_int d _ _ _ _ _ u1, pureRun_equal_int d _ _ _ _ _ u2, Option.bind_some, pureRun_ite, pureRun_pure]
  cases a == c <;> cases b == e <;> rfl
theorem pureRun_eqGuard {op : BinOp} {t : TypeId} {x y : Operand} {xs ys : Array Value} (hg : P.eqGuardType P.depth t = false) : pureRun P (eqGuard op t x y (.agg xs) (.agg ys)) = some () := by
  have hprog : pureRun P program = some P := rfl
  unfold eqGuard
  simp only [pureRun_bind, pureRun_ite, hprog, Option.bind_some, hg, pureRun_pure]
  split <;> simp [pureRun_pure, pureRun_bind]
theorem abin_neqS {t : TypeId} {x y : Operand} {xs ys : Array Value} {r : Bool} (hg : P.eqGuardType P.depth t = false) (h : pureRun P (Op.equalIn (9998 + 2) t (.agg xs) (.agg ys)) = some r) : abin P .neq t x y (.agg xs) (.agg ys) = some (.bool !r) := by
  have h1 : binOp .neq t (.agg xs) (.agg ys) = (do pure (.bool (!(← Op.equalIn (9998 + 2) t (.agg xs) (.agg ys))))) := rfl
  unfold abin
  rw [pureRun_bind, pureRun_eqGuard hg]
  simp only [Option.bind_some]
  rw [h1, pureRun_bind, h]
  rfl
def eqS (a b : ByteArray) : Bool := a == b
theorem eqS_iff (a b : ByteArray) : eqS a b = decide (a = b) := by
  unfold eqS
  cases a with | mk a =>
  cases b with | mk b =>
  have : ((⟨a⟩ : ByteArray) == ⟨b⟩) = (a == b) := rfl
  rw [this]
  by_cases h : a = b <;> simp [h]
theorem eqS_self (a : ByteArray) : eqS a a = true := by rw [eqS_iff]; simp
theorem eqI_self (a : Int) : eqI a a = true := decide_eq_true rfl
theorem abin_eqS {t : TypeId} {x y : Operand} {a b : ByteArray} : abin P .eql t x y (.string a) (.string b) = some (.bool (eqS a b)) := by
  simp [abin, eqGuard, binOp, Op.stringOp, pureRun, bind, Sem.bind, pure, eqS, beq_toListBytes]
theorem abin_rem {t : TypeId} {x y : Operand} {k : IntKind} {a b : Int} (hb : b ≠ 0) : abin P .rem t x y (.int k a) (.int k b) = some (.int k (a.tmod b)) := by
  simp [abin, eqGuard, binOp, pureRun, Op.intDiv, bind, Sem.bind, pure, hb]
theorem mapM_byt_map (l : List Int) : (l.map fun n => (.val (.int .u8 n) : AV)).mapM byt = some l := by
  induction l with
  | nil => rfl
  | cons x l ih => simp only [List.map_cons, List.mapM_cons, ih]; rfl
theorem mapM_two (u v : Value) : List.mapM toV0 [AV.val u, AV.val v] = some [u, v] := rfl
end
end Go.Proofs.YtmnpjaglgalobaaGreatW.E

/-
  Calls of functions that may write to the boxes of who calls them: closures, and functions that are handed closures. Laws over any program; no condition.
-/
namespace Go.Proofs.YtmnpjaglgalobaaGreatW.E
open Go Go.RowKit
set_option linter.unusedVariables false
set_option linter.unusedSimpArgs false

/-- What a body hands back, and what it makes of the boxes. -/
abbrev HPost := AV → (Nat → Nat × List AV) → (Nat → Nat) → Prop
def HFin (T : Tab) (rs : List ResultVar) (R : HPost) : Exit → St → Prop
  | .normal, st => ∃ r, aresults T st rs = some r ∧ R r st.B st.L
  | .ret, st => ∃ r, aresults T st rs = some r ∧ R r st.B st.L
  | _, _ => False

/-- Called with these values, where the boxes are so, the function ends as told. Its own boxes have keys from d on. -/
def HCall (P : Program) (T : Tab) (f : FuncId) (args : List AV) (B : Nat → Nat × List AV) (L : Nat → Nat) (R : HPost) : Prop :=
  callable P f = true ∧ ∃ fn c d, P.funcs[f]? = some fn ∧ fn.body = some c ∧ args.length ≤ fn.ntmps ∧
    ∀ base w0, AWp P base w0 c (HFin T fn.results.toList R) ⟨fn.ntmps, d, fun t => args.getD t (.val undef), B, L⟩

theorem HCall.mono {P : Program} {T : Tab} {f : FuncId} {args : List AV} {B : Nat → Nat × List AV} {L : Nat → Nat} {R R' : HPost} (h : HCall P T f args B L R) (k : ∀ r B L, R r B L → R' r B L) : HCall P T f args B L R' := by
  obtain ⟨h1, fn, c, d, h2, h3, h4, h5⟩ := h
  refine ⟨h1, fn, c, d, h2, h3, h4, fun base w0 => (h5 base w0).mono fun e st h => ?_⟩
  cases e with
  | normal => obtain ⟨r, h6, h7⟩ := h; exact ⟨r, h6, k _ _ _ h7⟩
  | ret => obtain ⟨r, h6, h7⟩ := h; exact ⟨r, h6, k _ _ _ h7⟩
  | _ => exact h

section
variable {P : Program} {base : Nat} {w0 : Entry} {T : Tab} {ops : Array Oper}

theorem OK.re {w0' : Entry} (h1 : w0'.w = w0.w) (h2 : w0'.S = w0.S) {E : Env} {B : Nat → Nat × List AV} {L : Nat → Nat} {w : World} (h : OK base w0 E B L w) : OK base w0' E B L w :=
  ⟨by rw [h1]; exact h.hbase, by rw [h1]; exact h.below, fun b o x y => by rw [h2]; exact h.sOld b o x y, h.sCell, h.fCell, h.fOld, h.sF, h.L, h.G, h.box, h.boxinj, h.spare, h.spareinj, h.sparebox⟩

theorem hcall_of {f : FuncId} {fn : Func} {c : Code} {args : List AV} {B : Nat → Nat × List AV} {L : Nat → Nat} {R : HPost} (hf : P.funcs[f]? = some fn) (hb : fn.body = some c) (hnm : (fn.name != "runtime.NumGoroutine") = true) (hle : args.length ≤ fn.ntmps) (d : Nat)
    (h : ∀ base w0, AWp P base w0 c (HFin T fn.results.toList R) ⟨fn.ntmps, d, fun t => args.getD t (.val undef), B, L⟩) : HCall P T f args B L R :=
  ⟨by simp [callable, hf, hnm, hb], fn, c, d, hf, hb, hle, h⟩

theorem wpOp_h {st : St} {o : Oper} {i : Nat} (hi : ops[i]? = some o) (hn : dstOK o st.n = true) (hw : awanted ops o st = some true) (hT : T.OK P) {c : Call} (ho : o.op = .call c) {g : FuncId} {caps : List AV} (hc : calleeOf st c = some (g, caps))
    {R : HPost} (hcall : HCall P T g (c.args.toList.map (evalA st) ++ caps) st.B st.L R) {a : Act} {w : World} (hrel : Rel base w0 st a w)
    {K : Act → World → Prop} {Q : Exit → Act → World → Prop} (hK : ∀ r B' L' a' w', R r B' L' → Rel base w0 ⟨st.n, st.d, (st.app o.dst { v := r }).s, B', L'⟩ a' w' → K a' w') : wpOp P ops Q i K a w := by
  obtain ⟨E, hok, hle0, hs⟩ := hrel.ex
  obtain ⟨hcb, fn, code, d, hf, hb, hle, hbody⟩ := hcall
  unfold wpOp
  simp only [hi, awanted_ok hs hw, if_true]
  refine .inl ?_
  obtain ⟨vs, hrun, hlen, hvs⟩ := run_call (P := P) hs ho hc hcb
  unfold Oper.wp
  rw [hrun]
  show Calls P g vs w _
  let w0' : Entry := { w0 with E1 := E, w1 := w }
  have hslots : ∀ t, RV E w ((c.args.toList.map (evalA st) ++ caps).getD t (.val undef)) ((vs ++ Array.replicate (fn.ntmps - vs.size) undef).getD t undef) := fun t => by
    by_cases ht : t < vs.size
    · have e1 : (vs ++ Array.replicate (fn.ntmps - vs.size) undef).getD t undef = vs[t] := by
        simp [Array.getD, Array.size_append, Array.size_replicate, show t < vs.size + (fn.ntmps - vs.size) by omega, Array.getElem_append_left ht]
      have ht' : t < (c.args.toList.map (evalA st) ++ caps).length := by omega
      have e2 : (c.args.toList.map (evalA st) ++ caps).getD t (.val undef) = (c.args.toList.map (evalA st) ++ caps)[t] := by simp only [List.getD_eq_getElem?_getD, List.getElem?_eq_getElem ht', Option.getD_some]
      rw [e1, e2]
      exact hvs t _ _ (List.getElem?_eq_getElem ht') (by simp [ht])
    · have e1 : (vs ++ Array.replicate (fn.ntmps - vs.size) undef).getD t undef = undef := by
        rw [Array.getD_eq_getD_getElem?, Array.getElem?_append_right (by omega), Array.getElem?_replicate]
        split <;> rfl
      have e2 : (c.args.toList.map (evalA st) ++ caps).getD t (.val undef) = .val undef := by
        simp only [List.getD_eq_getElem?_getD, List.getElem?_eq_none (show (c.args.toList.map (evalA st) ++ caps).length ≤ t by omega), Option.getD_none]
      rw [e1, e2]
      exact RV.val_iff.2 rfl
  have hrel0 : Rel base w0' ⟨fn.ntmps, d, fun t => (c.args.toList.map (evalA st) ++ caps).getD t (.val undef), st.B, st.L⟩ { tmps := vs ++ Array.replicate (fn.ntmps - vs.size) undef, defers := [] } w :=
    ⟨⟨E, OK.re (w0 := w0) (w0' := w0') rfl rfl hok, Env.Le.refl _ _, hslots⟩, by simp; omega, rfl⟩
  refine calls_of_wp hf hb (wp_mono (hbody base w0' _ w hrel0) fun e a' w' ⟨st', hq, hrel'⟩ => ?_)
  have fin : (∃ r, aresults T st' fn.results.toList = some r ∧ R r st'.B st'.L) → a'.defers = [] ∧ ∃ v, (results fn a'.tmps).run P w' = .ok v w' ∧ K (a.put o.dst v) w' := by
    rintro ⟨r, hr, hR⟩
    obtain ⟨E', hok', hle', hs'⟩ := hrel'.ex
    obtain ⟨x, hx, hxr⟩ := run_aresults (P := P) hT hok' hs' hr
    have hle1 : E.Le w E' w' := hle'
    refine ⟨hrel'.defs, x, hx, hK r st'.B st'.L _ w' hR ⟨⟨E', OK.re (w0 := w0') (w0' := w0) rfl rfl hok', hle0.trans hle1, slots_put (e := { v := r }) hs hrel.size (dstOK_spec hn) hle1 hxr⟩, ?_, ?_⟩⟩
    · cases o.dst <;> simp [Act.put, hrel.size]
    · cases o.dst <;> simp [Act.put, hrel.defs]
  cases e with
  | normal => exact fin hq
  | ret => exact fin hq
  | _ => exact hq.elim

/-- The operations from the i-th on, some of them calls that may write to boxes. -/
def HL (P : Program) (T : Tab) (base : Nat) (w0 : Entry) (ops : Array Oper) (rest : List Oper) (i : Nat) (st : St) (Q : Exit → St → Prop) : Prop :=
  rest = ops.toList.drop i → ∀ a w, Rel base w0 st a w → wpOps P ops (fun e a' w' => ∃ st', Q e st' ∧ Rel base w0 st' a' w') (List.range' i rest.length) a w

variable {Q : Exit → St → Prop} {st : St}

theorem HL.nil {i : Nat} (h : Q .normal st) : HL P T base w0 ops [] i st Q := fun _ a w hrel => ⟨st, h, hrel⟩

theorem drop_next {o : Oper} {rest : List Oper} {i : Nat} (hr : o :: rest = ops.toList.drop i) : rest = ops.toList.drop (i + 1) ∧ ops[i]? = some o := by
  refine ⟨by rw [← List.drop_drop, ← hr]; rfl, ?_⟩
  have : (ops.toList.drop i)[0]? = some o := by rw [← hr]; rfl
  simpa using this

theorem HL.step (hT : T.OK P) {o : Oper} {rest : List Oper} {i : Nat} {e : Eff} (hn : dstOK o st.n = true) (he : Eff1 P T ops o st e) (h : HL P T base w0 ops rest (i + 1) (st.app o.dst e) Q) : HL P T base w0 ops (o :: rest) i st Q := fun hr a w hrel => by
  obtain ⟨h1, h2⟩ := drop_next hr
  rw [List.length_cons, List.range'_succ, wpOps_cons]
  exact wpOp_eff h2 hn hT he hrel fun a' w' hrel' => h h1 a' w' hrel'

/-- One that writes to a slice in place. -/
theorem HL.x (hT : T.OK P) {o : Oper} {rest : List Oper} {i : Nat} {e : Eff} (hn : dstOK o st.n = true) (hw : awanted ops o st = some true) (he : xexec T st o = some e) (h : HL P T base w0 ops rest (i + 1) (st.app o.dst e) Q) : HL P T base w0 ops (o :: rest) i st Q := fun hr a w hrel => by
  obtain ⟨h1, h2⟩ := drop_next hr
  rw [List.length_cons, List.range'_succ, wpOps_cons]
  exact wpOp_x h2 hn hT hw he hrel fun a' w' hrel' => h h1 a' w' hrel'

theorem HL.seg (hT : T.OK P) {st2 : St} : ∀ (pre : List Oper) {rest : List Oper} {i : Nat} {st : St}, runL P T ops pre (some st) = some st2 → HL P T base w0 ops rest (i + pre.length) st2 Q → HL P T base w0 ops (pre ++ rest) i st Q
  | [], rest, i, st, h, k => by
    simp only [runL, Option.some.injEq] at h
    subst h
    exact k
  | o :: pre, rest, i, st, h, k => by
    rw [runL_cons] at h
    obtain ⟨st1, h1, h2⟩ : ∃ st1, stepL P T ops o st = some st1 ∧ runL P T ops pre (some st1) = some st2 := by
      cases h1 : stepL P T ops o st with
      | none => rw [h1, runL_none] at h; cases h
      | some st1 => rw [h1] at h; exact ⟨st1, rfl, h⟩
    have hk : HL P T base w0 ops (pre ++ rest) (i + 1) st1 Q := HL.seg hT pre h2 (by rw [List.length_cons] at k; rwa [show i + 1 + pre.length = i + (pre.length + 1) by omega])
    unfold stepL at h1
    split at h1
    · rename_i hn
      split at h1
      · rename_i hw
        obtain ⟨e, he, rfl⟩ := Option.map_eq_some_iff.1 h1
        exact HL.step hT hn (.inr ⟨hw, .inl he⟩) hk
      · rename_i hw
        cases h1
        exact HL.step hT hn (.inl ⟨hw, rfl⟩) hk
      · cases h1
    · cases h1

/-- All that is left. -/
theorem HL.all (hT : T.OK P) {st2 : St} {rest : List Oper} {i : Nat} (h : runL P T ops rest (some st) = some st2) (k : Q .normal st2) : HL P T base w0 ops rest i st Q := by
  have := HL.seg (Q := Q) (base := base) (w0 := w0) hT rest (rest := []) (i := i) h (HL.nil k)
  rwa [List.append_nil] at this
/-- The next m. -/
theorem HL.next (hT : T.OK P) {st2 : St} {rest : List Oper} {i : Nat} (m : Nat) {pre post : List Oper} (hp : rest.take m = pre) (hq : rest.drop m = post) (h : runL P T ops pre (some st) = some st2) (k : HL P T base w0 ops post (i + pre.length) st2 Q) : HL P T base w0 ops rest i st Q := by
  have := HL.seg (Q := Q) (base := base) (w0 := w0) hT pre (rest := post) (i := i) h k
  rwa [← hp, ← hq, List.take_append_drop] at this

/-- A call that may write to boxes; its result is kept, or there is none. -/
theorem HL.h (hT : T.OK P) {n d : Nat} {s : Nat → AV} {B : Nat → Nat × List AV} {L : Nat → Nat} {o : Oper} {rest : List Oper} {i t : Nat} {c : Call} {g : FuncId} {caps args : List AV} {R : HPost} (hop : o.op = .call c) (hd : o.dst = some t) (hn : decide (t < n) = true)
    (hw : awanted ops o ⟨n, d, s, B, L⟩ = some true) (hc : calleeOf ⟨n, d, s, B, L⟩ c = some (g, caps)) (ha : c.args.toList.map (evalA ⟨n, d, s, B, L⟩) ++ caps = args) (hcall : HCall P T g args B L R)
    (h : ∀ r B' L', R r B' L' → HL P T base w0 ops rest (i + 1) ⟨n, d, upd s t r, B', L'⟩ Q) : HL P T base w0 ops (o :: rest) i ⟨n, d, s, B, L⟩ Q := fun hr a w hrel => by
  obtain ⟨h1, h2⟩ := drop_next hr
  rw [List.length_cons, List.range'_succ, wpOps_cons]
  subst ha
  refine wpOp_h h2 (by simp only [dstOK, hd]; exact hn) hw hT hop hc hcall hrel fun r B' L' a' w' hR hrel' => ?_
  have e : (St.app ⟨n, d, s, B, L⟩ o.dst { v := r }).s = upd s t r := by rw [hd]; rfl
  rw [e] at hrel'
  exact h r B' L' hR h1 a' w' hrel'

theorem AWp.regionH {id : Nat} {rest : List Oper} (hr : ops.toList = rest) (h : HL P T base w0 ops rest 0 st Q) : AWp P base w0 (.region id ops false) Q st := fun a w hrel => by
  refine wp_region ?_
  have := h (by rw [hr]; rfl) a w hrel
  rw [List.range_eq_range']
  have e : ops.size = rest.length := by rw [← hr]; simp
  rw [e]
  exact this
end
end Go.Proofs.YtmnpjaglgalobaaGreatW.E

/-
  Floats and complex numbers, and the levels' points. Laws over any program; no condition.
-/
namespace Go.Proofs.YtmnpjaglgalobaaGreatW.E
open Go Go.RowKit
set_option linter.unusedVariables false
set_option linter.unusedSimpArgs false

def fle (a b : Nat) : Bool := FloatKind.f64.format.order a b == some .lt || FloatKind.f64.format.order a b == some .eq
def fge (a b : Nat) : Bool := FloatKind.f64.format.order a b == some .gt || FloatKind.f64.format.order a b == some .eq
def feq (a b : Nat) : Bool := FloatKind.f64.format.order a b == some .eq
def fmax (a b : Nat) : Nat := match FloatKind.f64.format.order a b with | some .lt => b | some .gt => a | some .eq => (if (FloatKind.f64.decode a).neg then b else a) | none => 0
def fmin (a b : Nat) : Nat := match FloatKind.f64.format.order a b with | some .lt => a | some .gt => b | some .eq => (if (FloatKind.f64.decode a).neg then a else b) | none => 0
section
variable {P : Program}
theorem abin_fle (t : TypeId) (x y : Operand) (a b : Nat) : abin P .leq t x y (.float .f64 a) (.float .f64 b) = some (.bool (fle a b)) := rfl
theorem abin_fge (t : TypeId) (x y : Operand) (a b : Nat) : abin P .geq t x y (.float .f64 a) (.float .f64 b) = some (.bool (fge a b)) := rfl
theorem abin_feq (t : TypeId) (x y : Operand) (a b : Nat) : abin P .eql t x y (.float .f64 a) (.float .f64 b) = some (.bool (feq a b)) := rfl
theorem ab_real (ts : Array TypeId) (t : TypeId) (cs : Array Bool) (a b : Nat) : abuiltin P .real ts t cs #[.complex .f64 a b] = some (.float .f64 a) := rfl
theorem ab_imag (ts : Array TypeId) (t : TypeId) (cs : Array Bool) (a b : Nat) : abuiltin P .imag ts t cs #[.complex .f64 a b] = some (.float .f64 b) := rfl
theorem ab_max (ts : Array TypeId) (t : TypeId) (cs : Array Bool) (a b : Nat) (h : FloatKind.f64.format.order a b ≠ none) : abuiltin P .max ts t cs #[.float .f64 a, .float .f64 b] = some (.float .f64 (fmax a b)) := by
  have e : pureRun P (Builtin.max2 (.float .f64 a) (.float .f64 b)) = some (.float .f64 (fmax a b)) := by
    unfold fmax
    simp only [Builtin.max2]
    cases ho : FloatKind.f64.format.order a b with
    | none => exact absurd ho h
    | some o => cases o <;> simp [pureRun_pure]
  unfold abuiltin
  have e0 : builtin .max ts t cs #[.float .f64 a, .float .f64 b] = (Next.value <$> Builtin.max2 (.float .f64 a) (.float .f64 b)) := by simp [builtin, Builtin.max_]
  have e2 : pureRun P (builtin .max ts t cs #[.float .f64 a, .float .f64 b]) = some (.value (.float .f64 (fmax a b))) := by
    rw [e0, map_eq_pure_bind, pureRun_bind, e]; rfl
  rw [e2]
theorem ab_min (ts : Array TypeId) (t : TypeId) (cs : Array Bool) (a b : Nat) (h : FloatKind.f64.format.order a b ≠ none) : abuiltin P .min ts t cs #[.float .f64 a, .float .f64 b] = some (.float .f64 (fmin a b)) := by
  have e : pureRun P (Builtin.min2 (.float .f64 a) (.float .f64 b)) = some (.float .f64 (fmin a b)) := by
    unfold fmin
    simp only [Builtin.min2]
    cases ho : FloatKind.f64.format.order a b with
    | none => exact absurd ho h
    | some o => cases o <;> simp [pureRun_pure]
  unfold abuiltin
  have e0 : builtin .min ts t cs #[.float .f64 a, .float .f64 b] = (Next.value <$> Builtin.min2 (.float .f64 a) (.float .f64 b)) := by simp [builtin, Builtin.min_]
  have e2 : pureRun P (builtin .min ts t cs #[.float .f64 a, .float .f64 b]) = some (.value (.float .f64 (fmin a b))) := by
    rw [e0, map_eq_pure_bind, pureRun_bind, e]; rfl
  rw [e2]
theorem ab_complex (ts : Array TypeId) (t : TypeId) (cs : Array Bool) (a b : Nat) : abuiltin P .complex ts t cs #[.float .f64 a, .float .f64 b] = some (.complex .f64 a b) := rfl
theorem mapM_1 {α β : Type} (f : α → Option β) (x : α) : [x].mapM f = (f x).bind fun a => some [a] := by
  simp [List.mapM_cons]
theorem mapM_2 {α β : Type} (f : α → Option β) (x y : α) : [x, y].mapM f = (f x).bind fun a => (f y).bind fun b => some [a, b] := by
  simp [List.mapM_cons]
  cases f x with
  | none => rfl
  | some a => cases f y <;> rfl
end
def pRe (l : Int) : Nat := if l = 0 then 13830554455654793216 else if l = 3 then 4602678819172646912 else if l = 4 then 4607182418800017408 else if l = 5 then 4611686018427387904 else 0
def pIm (l : Int) : Nat := if l = 0 then 4611686018427387904 else if l = 1 then 4607182418800017408 else if l = 5 then 13830554455654793216 else 0
@[reducible] def cpx (a b : Nat) : AV := .val (.complex .f64 a b)
theorem lev6 {a : Int} (h0 : 0 ≤ a) (h5 : a ≤ 5) : a = 0 ∨ a = 1 ∨ a = 2 ∨ a = 3 ∨ a = 4 ∨ a = 5 := by omega
def oq (a b x y : Nat) : Bool := (FloatKind.f64.format.order a x == some .eq) && (FloatKind.f64.format.order b y == some .eq)
/-- All there is to know of two levels' points. -/
structure Two (a b : Int) : Prop where
  re : FloatKind.f64.format.order (pRe a) (pRe b) ≠ none
  im : FloatKind.f64.format.order (pIm a) (pIm b) ≠ none
  fl : (fle (pRe a) (pRe b) && fge (pIm a) (pIm b)) = decide (a ≤ b)
  jr : fmax (pRe a) (pRe b) = pRe (if a < b then b else a)
  ji : fmin (pIm a) (pIm b) = pIm (if a < b then b else a)
  mr : fmin (pRe a) (pRe b) = pRe (if b < a then b else a)
  mi : fmax (pIm a) (pIm b) = pIm (if b < a then b else a)
theorem two {a b : Int} (a0 : 0 ≤ a) (a5 : a ≤ 5) (b0 : 0 ≤ b) (b5 : b ≤ 5) : Two a b := by
  rcases lev6 a0 a5 with rfl | rfl | rfl | rfl | rfl | rfl <;> rcases lev6 b0 b5 with rfl | rfl | rfl | rfl | rfl | rfl <;>
    exact ⟨by decide +kernel, by decide +kernel, by decide +kernel, by decide +kernel, by decide +kernel, by decide +kernel, by decide +kernel⟩
end Go.Proofs.YtmnpjaglgalobaaGreatW.E

/-
  Slices that are written to in place: made, grown, compared for overlaps, and handed over for good. Laws over any program; no condition.
-/
namespace Go.Proofs.YtmnpjaglgalobaaGreatW.E
open Go Go.RowKit
set_option linter.unusedVariables false
set_option linter.unusedSimpArgs false

section
variable {P : Program} {base : Nat} {w0 : Entry} {T : Tab} {ops : Array Oper} {Q : Exit → St → Prop}

/-- A new slice of parts, its cells in a box. -/
theorem does_buildB {st : St} {o : Oper} {t e : TypeId} {n : Nat} {parts : Array (Nat × Operand)} (ho : o.op = .buildSlice t n parts) {i ei : TInfo} (hT : TOK P t i) (he : i.elem = some e) (hE : TOK P e ei)
    (hidx : parts.toList.map (·.1) = List.range' 0 n) (hc : ∀ p ∈ parts.toList, (evalA st p.2).cells.length = ei.sz ∧ (evalA st p.2).cells.all AV.isCell = true) (hn : n * ei.sz ≤ 16777216) (key : Nat) :
    Does P base w0 st o { v := .bsl key ((st.B key).1 + 1) 0 n n, box := some (key, (st.B key).1 + 1, flat (parts.toList.map fun p => evalA st p.2)) } := by
  intro E a w hok hs hsz0 hd K Q hK
  obtain ⟨d, inf, z, hdd, hinf, hz, hagg, hsz, hby, hzsz, hone, hzlen, hzero⟩ := hE.ex
  have hlen : parts.toList.length = n := by have := congrArg List.length hidx; simpa using this
  let zs : Array Value := if n * ei.sz = 0 then #[] else z.cells
  let cs0 : Array Value := (Array.range (n * ei.sz)).map (zs[· % zs.size]!)
  have hfill := afill_row (sz := ei.sz) (parts.toList.map fun p => evalA st p.2) 0 [] (List.replicate (n * ei.sz) AV.any) (by simp) (by simp [hlen]) (fun x hx => by
    obtain ⟨p, hp, rfl⟩ := List.mem_map.1 hx
    exact hc p hp)
  have hparts : (parts.toList.map fun p => (p.1, evalA st p.2)) = (((parts.toList.map fun p => evalA st p.2).zipIdx 0).map fun p => (p.2, p.1)) := by
    have h1 := zip_of_range (parts.toList.map fun p => (p.1, evalA st p.2)) 0 (by simp only [List.map_map, List.length_map, hlen]; exact hidx)
    simpa only [List.map_map, Function.comp_def] using h1
  simp only [List.nil_append] at hfill
  obtain ⟨os, h4, h5, h6⟩ := fill_ok (E := E) (w := w) (place := fun i => some (i * ei.sz, ei.sz)) (place' := fun i => some (i * ei.sz, ei.sz)) (fun _ _ h => h) (a := a) parts.toList (List.replicate (n * ei.sz) AV.any) cs0
    (flat (parts.toList.map fun p => evalA st p.2)) hs (by rw [hparts]; exact hfill) (by simp [cs0]) (fun j c v hcj hvj => by
      have hj : j < n * ei.sz := by have := (List.getElem?_eq_some_iff.1 hcj).1; simpa using this
      rw [List.getElem?_replicate, if_pos hj] at hcj
      cases hcj
      refine ⟨?_, RV.any v⟩
      have hne : n * ei.sz ≠ 0 := by omega
      have hzpos : 0 < z.cells.size := by rw [hzsz, ← hsz]; exact Nat.pos_of_ne_zero (fun e => hne (by rw [e, Nat.mul_zero]))
      simp only [cs0, zs, if_neg hne, Array.getElem?_map, Option.map_eq_some_iff] at hvj
      obtain ⟨q, hq, rfl⟩ := hvj
      have hlt : q % z.cells.size < z.cells.size := Nat.mod_lt _ hzpos
      rw [getElem!_pos z.cells _ hlt]
      exact hone _ (Array.getElem_mem hlt))
  have hrun : (execOp a.eval o).run P w = .ok (.value (.slice (some ⟨w.heap.size, 0, none⟩) n n)) (w.alloc (.cells os e)) := by
    have h4' : Instr.fill (fun i => some (i * ei.sz, ei.sz)) ((Array.range (n * ei.sz)).map (zs[· % zs.size]!)) (parts.map fun (i, x) => (i, a.eval x)).toList = some os := by
      have e2 : (parts.map fun (i, x) => (i, a.eval x)).toList = parts.toList.map fun p => (p.1, a.eval p.2) := by simp
      rw [e2]; exact h4
    simp only [execOp, ho, Instr.buildSlice, Sem.run_bind, run_underlying (hT.elem e he) w, Result.andThen_ok, hE.size w]
    rw [if_neg (by omega)]
    by_cases h0 : n * ei.sz = 0
    · have e3 : zs = #[] := if_pos h0
      rw [e3] at h4'
      rw [if_pos h0]
      simp only [Sem.run_bind, Sem.run_pure, Result.andThen_ok, h4', newRow, run_newObj]
      rfl
    · have e3 : zs = z.cells := if_neg h0
      rw [e3] at h4'
      rw [if_neg h0]
      simp only [Sem.run_bind, Sem.run_pure, Result.andThen_ok, zeroValue, typeInfo, run_program, hinf, hz, h4', newRow, run_newObj]
      rfl
  obtain ⟨hle, hok'⟩ := hok.newBox key (flat (parts.toList.map fun p => evalA st p.2)) os e h5.symm (fun j c v hcj hvj => h6 j c v hcj hvj)
  unfold Oper.wp
  rw [hrun]
  exact hK _ _ _ hle hok' (.bsl _ _ _ _ _ _ (by simp [upd_same]) (fun _ => by simp [upd_same]))

theorem wpOp_does {st : St} {o : Oper} {i : Nat} (hi : ops[i]? = some o) (hn : dstOK o st.n = true) (hw : awanted ops o st = some true) {e : Eff} (hdoes : Does P base w0 st o e) {a : Act} {w : World} (hrel : Rel base w0 st a w)
    {K : Act → World → Prop} {Q : Exit → Act → World → Prop} (hK : ∀ a' w', Rel base w0 (st.app o.dst e) a' w' → K a' w') : wpOp P ops Q i K a w := by
  obtain ⟨E, hok, hle0, hs⟩ := hrel.ex
  unfold wpOp
  simp only [hi, awanted_ok hs hw, if_true]
  exact .inl (hdoes.rel (dstOK_spec hn) hrel hK)

theorem HL.does {st : St} {o : Oper} {rest : List Oper} {i : Nat} {e : Eff} (hn : dstOK o st.n = true) (hw : awanted ops o st = some true) (he : ∀ base w0, Does P base w0 st o e) (h : HL P T base w0 ops rest (i + 1) (st.app o.dst e) Q) : HL P T base w0 ops (o :: rest) i st Q := fun hr a w hrel => by
  obtain ⟨h1, h2⟩ := drop_next hr
  rw [List.length_cons, List.range'_succ, wpOps_cons]
  exact wpOp_does h2 hn hw (he _ _) hrel fun a' w' hrel' => h h1 a' w' hrel'

/-- A slice of parts, its cells in a box. -/
theorem HL.mk {n d : Nat} {s : Nat → AV} {B : Nat → Nat × List AV} {L : Nat → Nat} {o : Oper} {rest : List Oper} {i t k : Nat} {ty e : TypeId} {parts : Array (Nat × Operand)} {ti ei : TInfo} (hT : T.OK P) (hop : o.op = .buildSlice ty k parts) (hd : o.dst = some t) (hn : decide (t < n) = true)
    (hw : awanted ops o ⟨n, d, s, B, L⟩ = some true) (h1 : T.get ty = some ti) (h2 : ti.elem = some e) (h3 : T.get e = some ei) (hidx : parts.toList.map (·.1) = List.range' 0 k) {cs : List AV} (hcs : flat (parts.toList.map fun p => evalA ⟨n, d, s, B, L⟩ p.2) = cs)
    (hc : (parts.toList.all fun p => (evalA ⟨n, d, s, B, L⟩ p.2).cells.length == ei.sz && (evalA ⟨n, d, s, B, L⟩ p.2).cells.all AV.isCell) = true) (hsz : k * ei.sz ≤ 16777216)
    (h : HL P T base w0 ops rest (i + 1) ⟨n, d, upd s t (.bsl (d + t) ((B (d + t)).1 + 1) 0 k k), upd B (d + t) ((B (d + t)).1 + 1, cs), L⟩ Q) : HL P T base w0 ops (o :: rest) i ⟨n, d, s, B, L⟩ Q := by
  subst hcs
  refine HL.does (e := { v := .bsl (d + t) ((B (d + t)).1 + 1) 0 k k, box := some (d + t, (B (d + t)).1 + 1, flat (parts.toList.map fun p => evalA ⟨n, d, s, B, L⟩ p.2)) }) (by simp only [dstOK, hd]; exact hn) hw (fun base w0 => ?_) (by rw [hd]; exact h)
  exact does_buildB hop (mkInfo_ok (hT _ _ h1)) h2 (mkInfo_ok (hT _ _ h3)) hidx (fun p hp => by
    have := List.all_eq_true.1 hc p hp
    simp only [Bool.and_eq_true, beq_iff_eq] at this
    exact this) hsz (d + t)

/-- How many elements a slice can hold, where that is known. -/
def capOf : AV → Option Nat
  | .list _ ys .full => some ys.length
  | .bsl _ _ _ _ c => some c
  | _ => none
theorem cap_ok {E : Env} {w : World} {a : AV} {v : Value} (hr : RV E w a v) {n c : Nat} (hn : srcLen a = some n) (hc : capOf a = some c) : ∃ A, v = .slice A n c := by
  cases a with
  | list sz ys ow =>
    cases ow with
    | full =>
      simp only [srcLen, capOf, Option.some.injEq] at hn hc
      subst hn; subst hc
      cases hr with
      | pure _ _ h =>
        cases h with
        | data _ _ h =>
          obtain ⟨A, c, _, _, rfl, _, _, _, _, h6⟩ := RD.list_iff.1 h
          rcases h6 with h6 | h6
          · cases h6
          · rw [h6.2]; exact ⟨A, rfl⟩
    | _ => simp [capOf] at hc
  | bsl k g off m c' =>
    simp only [srcLen, capOf, Option.some.injEq] at hn hc
    subst hn; subst hc
    obtain ⟨b, rfl, _⟩ := hr.bsl_inv
    exact ⟨_, rfl⟩
  | _ => simp [srcLen] at hn

theorem run_append_growsN {w : World} {t ti ty e : TypeId} {i : TypeInfo} {z : Value} {kd : IntKind} (ht : P.underlying t = some (.slice e)) (hti : P.underlying ti = some (.int kd)) (hi : P.info? e = some i) (hz : i.zero = some z) {A : Option Addr} {n c m : Nat} {olds : List Value}
    (ho : (Builtin.firstCells i.size n (.slice A n c)).run P w.drew = .ok olds.toArray w.drew) (hg : c < n + m) (hm : 0 < m * i.size) (h63 : ((n + m : Nat) : Int) ≤ 9223372036854775807) (hm48 : m * i.bytes ≤ 281474976710656) (hfit : Builtin.nextslicecap (n + m) c * i.bytes ≤ 281474976710656) :
    (Builtin.append_ #[t, ti] ty #[.slice A n c, .int .i64 (m : Int)]).run P w =
      .ok (.slice (some ⟨w.heap.size, 0, none⟩) (n + m) (grownCap w (n + m) c e))
        (w.drew.alloc (.cells (olds.toArray ++ Builtin.zeroCells z.cells m ++ Builtin.zeroCells z.cells (grownCap w (n + m) c e - (n + m))) e)) := by
  have hn1 : ¬ (n + m ≤ c) := by omega
  have h63' : ¬ (9223372036854775807 < ((n : Int) + (m : Int))) := by omega
  have h48' : ¬ (281474976710656 < Builtin.nextslicecap (n + m) c * i.bytes) := by omega
  have hmw : IntKind.i64.wrap (m : Int) = (m : Int) := IntWalk.i64_in _ (by omega)
  have hm0 : ¬ ((m : Int) < 0) := by omega
  have hm1 : ¬ (281474976710656 < (m : Int) * (i.bytes : Int)) := by
    have : ((m * i.bytes : Nat) : Int) ≤ 281474976710656 := by omega
    rw [Int.natCast_mul] at this; omega
  have hms : ¬ (m * i.size = 0) := by omega
  simp [Builtin.append_, run_underlying ht, run_underlying hti, sizeOf, typeInfo, zeroValue, hi, hz, asInt, asIntOf, hmw, hm0, hm1, hms, hn1, h63', h48', Question.forced, ho, newRow, grownCap]

/-- An operation that ran, its value kept. -/
theorem wpOp_put {n d : Nat} {s : Nat → AV} {B B' : Nat → Nat × List AV} {L L' : Nat → Nat} {o : Oper} {i t : Nat} (hi : ops[i]? = some o) (hn : decide (t < n) = true) (hd : o.dst = some t) (hw : awanted ops o ⟨n, d, s, B, L⟩ = some true) {a : Act} {w w' : World} {v : Value} {x : AV}
    (hrun : (execOp a.eval o).run P w = .ok (.value v) w') {E E' : Env} (hs : ∀ t, RV E w (s t) (a.tmps.getD t undef)) (hrel : Rel base w0 ⟨n, d, s, B, L⟩ a w) (hle : E.Le w E' w') (hle0 : w0.E1.Le w0.w1 E w) (hok : OK base w0 E' B' L' w') (hx : RV E' w' x v)
    {K : Act → World → Prop} {Q : Exit → Act → World → Prop} (hK : ∀ a' w', Rel base w0 ⟨n, d, upd s t x, B', L'⟩ a' w' → K a' w') : wpOp P ops Q i K a w := by
  unfold wpOp
  simp only [hi, awanted_ok hs hw, if_true]
  refine .inl ?_
  unfold Oper.wp
  rw [hrun]
  refine hK _ _ ⟨⟨E', hok, hle0.trans hle, ?_⟩, ?_, ?_⟩
  · have h := slots_put (st := ⟨n, d, s, B, L⟩) (e := { v := x }) (dst := o.dst) hs hrel.size (by rw [hd]; intro t' h; cases h; simpa using hn) hle hx
    rw [hd] at h ⊢
    exact h
  · cases o.dst <;> simp [Act.put, hrel.size]
  · cases o.dst <;> simp [Act.put, hrel.defs]

/-- A new box: what was there, what is new, zeros. -/
theorem grow_core {E : Env} {B : Nat → Nat × List AV} {L : Nat → Nat} {w : World} (hok : OK base w0 E B L w) (key : Nat) {e : TypeId} {ei : TInfo} (hE : TOK P e ei) {cs : List AV} {us : List Value} (l1 : us.length = cs.length)
    (o1 : ∀ u ∈ us, u.oneCell' = true) (r1 : ∀ (i : Nat) y u, cs[i]? = some y → us[i]? = some u → RV E w y u)
    {inf : TypeInfo} {z : Value} (hinf : P.info? e = some inf) (hz : inf.zero = some z) (k : Nat) (A : Array Value) (hA : A = (us ++ (Builtin.zeroCells z.cells k).toList).toArray) :
    ∃ E', E.Le w E' (w.alloc (.cells A e)) ∧ OK base w0 E' (upd B key ((B key).1 + 1, cs ++ zerosA k ei.zero)) L (w.alloc (.cells A e)) ∧ E'.G key = (B key).1 + 1 ∧ E'.bm key = w.heap.size := by
  obtain ⟨inf', z', hinf', hz', h1, h2, h3⟩ := zeros_ok (P := P) hE
  rw [hinf] at hinf'; cases hinf'
  rw [hz] at hz'; cases hz'
  obtain ⟨z1, z2, z3⟩ := h3 k
  have hzl : (zerosA k ei.zero).length = (Builtin.zeroCells z.cells k).toList.length := by rw [zerosA_len, h2]; simp [z1]
  subst hA
  obtain ⟨hle2, hok2⟩ := hok.newBox key (cs ++ zerosA k ei.zero) (us ++ (Builtin.zeroCells z.cells k).toList).toArray e (by simp only [List.size_toArray, List.length_append, hzl, l1]) (fun i y u hy hu => by
    rw [List.getElem?_toArray] at hu
    by_cases hi : i < cs.length
    · rw [List.getElem?_append_left hi] at hy
      rw [List.getElem?_append_left (by omega)] at hu
      exact ⟨o1 u (List.mem_of_getElem? hu), r1 i y u hy hu⟩
    · rw [List.getElem?_append_right (by omega)] at hy
      rw [List.getElem?_append_right (by omega), l1] at hu
      exact ⟨z2 u (List.mem_of_getElem? hu), .pure _ _ (.data _ _ (z3 _ _ _ y u hy (by simpa using hu)))⟩)
  exact ⟨_, hle2, hok2, by simp [upd_same], by simp [upd_same]⟩

/-- An append that has no room: a new box takes what was there, what is new, and zeros. -/
theorem HL.grow {n d : Nat} {s : Nat → AV} {B : Nat → Nat × List AV} {L : Nat → Nat} {o : Oper} {rest : List Oper} {i t : Nat} {c : Call} {x y : Operand} {tt e : TypeId} {ti ei : TInfo} (hT : T.OK P) (hop : o.op = .call c) (hc : c.callee = .builtin .append) (hargs : c.args = #[x, y]) (htys : c.argTypes = #[tt, tt])
    (hd : o.dst = some t) (hn : decide (t < n) = true) (hw : awanted ops o ⟨n, d, s, B, L⟩ = some true) (h1 : T.get tt = some ti) (h2 : ti.elem = some e) (h3 : T.get e = some ei) {m c0 k : Nat} {olds news : List AV}
    (hx : srcLen (evalA ⟨n, d, s, B, L⟩ x) = some m) (hcap : capOf (evalA ⟨n, d, s, B, L⟩ x) = some c0) (hxc : srcCells ⟨n, d, s, B, L⟩ ei.sz m (evalA ⟨n, d, s, B, L⟩ x) = some olds) (hy : srcLen (evalA ⟨n, d, s, B, L⟩ y) = some k) (hyc : srcCells ⟨n, d, s, B, L⟩ ei.sz k (evalA ⟨n, d, s, B, L⟩ y) = some news)
    (hg : c0 < m + k) (hmc : m ≤ c0) (hfit : (m + k) * ei.bytes ≤ 140737488355328) (hby : 0 < ei.bytes)
    (h : ∀ c', m + k ≤ c' → HL P T base w0 ops rest (i + 1) ⟨n, d, upd s t (.bsl (d + t) ((B (d + t)).1 + 1) 0 (m + k) c'), upd B (d + t) ((B (d + t)).1 + 1, olds ++ news ++ zerosA (c' - (m + k)) ei.zero), L⟩ Q) : HL P T base w0 ops (o :: rest) i ⟨n, d, s, B, L⟩ Q := fun hr a w hrel => by
  obtain ⟨g1, g2⟩ := drop_next hr
  rw [List.length_cons, List.range'_succ, wpOps_cons]
  obtain ⟨E, hok, hle0, hs⟩ := hrel.ex
  have hTt := mkInfo_ok (hT _ _ h1)
  have hE := mkInfo_ok (hT _ _ h3)
  obtain ⟨dd, inf, z, _, hinf, hz, _, hsz, hbys, _⟩ := hE.ex
  obtain ⟨A, hA⟩ := cap_ok (evalA_ok hs x) hx hcap
  obtain ⟨hleD, hokD⟩ := hok.drawn 1
  have hdr : w.drewN 1 = w.drew := rfl
  rw [hdr] at hleD hokD
  obtain ⟨_, cx, ou, hA', _, ol, ocl, o1, r1, f1⟩ := src_ok (P := P) hokD (st := ⟨n, d, s, B, L⟩) rfl ((evalA_ok hs x).mono hleD) hx hxc
  obtain ⟨X, cy, nu, hX, _, nl, ncl, o2, r2, f2⟩ := src_ok (P := P) hokD (st := ⟨n, d, s, B, L⟩) rfl ((evalA_ok hs y).mono hleD) hy hyc
  have hmax : m + k ≤ 140737488355328 := Nat.le_trans (Nat.le_mul_of_pos_right _ hby) hfit
  have hrun0 := run_append_grows (P := P) (ty := o.type) (w := w) (A := A) (X := X) (n := m) (c := c0) (m := k) (cx := cy) (olds := ou) (news := nu) (hTt.elem e h2) hinf hz (by rw [← hA, ← hsz]; exact f1) (by rw [← hX, ← hsz]; exact f2) hg (by omega) (growslice_fits (by omega) (by rw [← hbys]; exact hfit))
  have hrun : (execOp a.eval o).run P w = .ok (.value (.slice (some ⟨w.heap.size, 0, none⟩) (m + k) (grownCap w (m + k) c0 e))) (w.drew.alloc (.cells (ou.toArray ++ nu.toArray ++ Builtin.zeroCells z.cells (grownCap w (m + k) c0 e - (m + k))) e)) := by
    simp only [execOp, hop, resolve, hc, hargs, htys, invoke, builtin, Sem.run_bind, Sem.run_pure, Result.andThen_ok]
    have ea : (#[x, y].map a.eval) = #[.slice A m c0, .slice X k cy] := by simp [hA, hX]
    rw [ea]
    simp [hrun0]
  obtain ⟨E', hle1, hok1, hG, hbm⟩ := grow_core (P := P) hokD (d + t) hE (cs := olds ++ news) (us := ou ++ nu) (by simp [ol, nl]) (fun u hu => (List.mem_append.1 hu).elim (o1 u) (o2 u)) (fun i y u hy hu => by
    by_cases hi : i < olds.length
    · rw [List.getElem?_append_left hi] at hy
      rw [List.getElem?_append_left (by omega)] at hu
      exact r1 i y u hy hu
    · rw [List.getElem?_append_right (by omega)] at hy
      rw [List.getElem?_append_right (by omega), ol] at hu
      exact r2 _ y u hy hu) hinf hz (grownCap w (m + k) c0 e - (m + k)) _ (show ou.toArray ++ nu.toArray ++ Builtin.zeroCells z.cells (grownCap w (m + k) c0 e - (m + k)) = _ by apply Array.ext'; simp)
  have hcap' := grownCap_ge w (m + k) c0 e
  refine wpOp_put g2 hn hd hw hrun hs hrel (hleD.trans hle1) hle0 hok1 (.bsl (d + t) ((B (d + t)).1 + 1) 0 (m + k) _ w.heap.size (by rw [hG]; exact Nat.le_refl _) (fun _ => hbm.symm)) fun a' w' hrel' => h _ hcap' g1 a' w' hrel'

/-- An append of zeros that has no room. -/
theorem HL.growN {n d : Nat} {s : Nat → AV} {B : Nat → Nat × List AV} {L : Nat → Nat} {o : Oper} {rest : List Oper} {i t : Nat} {c : Call} {x y : Operand} {tt ty e : TypeId} {ti ei : TInfo} {kd : IntKind} (hT : T.OK P) (hop : o.op = .call c) (hc : c.callee = .builtin .append) (hargs : c.args = #[x, y]) (htys : c.argTypes = #[tt, ty])
    (hd : o.dst = some t) (hn : decide (t < n) = true) (hw : awanted ops o ⟨n, d, s, B, L⟩ = some true) (h1 : T.get tt = some ti) (h2 : ti.elem = some e) (h3 : T.get e = some ei) (hti : P.underlying ty = some (.int kd)) {m c0 k : Nat} {olds : List AV}
    (hx : srcLen (evalA ⟨n, d, s, B, L⟩ x) = some m) (hcap : capOf (evalA ⟨n, d, s, B, L⟩ x) = some c0) (hxc : srcCells ⟨n, d, s, B, L⟩ ei.sz m (evalA ⟨n, d, s, B, L⟩ x) = some olds) (hy : evalA ⟨n, d, s, B, L⟩ y = .val (.int .i64 (k : Nat)))
    (hg : c0 < m + k) (hmc : m ≤ c0) (hk : 0 < k) (hsz0 : 0 < ei.sz) (hfit : (m + k) * ei.bytes ≤ 140737488355328) (hby : 0 < ei.bytes)
    (h : ∀ c', m + k ≤ c' → HL P T base w0 ops rest (i + 1) ⟨n, d, upd s t (.bsl (d + t) ((B (d + t)).1 + 1) 0 (m + k) c'), upd B (d + t) ((B (d + t)).1 + 1, olds ++ zerosA k ei.zero ++ zerosA (c' - (m + k)) ei.zero), L⟩ Q) : HL P T base w0 ops (o :: rest) i ⟨n, d, s, B, L⟩ Q := fun hr a w hrel => by
  obtain ⟨g1, g2⟩ := drop_next hr
  rw [List.length_cons, List.range'_succ, wpOps_cons]
  obtain ⟨E, hok, hle0, hs⟩ := hrel.ex
  have hTt := mkInfo_ok (hT _ _ h1)
  have hE := mkInfo_ok (hT _ _ h3)
  obtain ⟨dd, inf, z, _, hinf, hz, _, hsz, hbys, _⟩ := hE.ex
  obtain ⟨A, hA⟩ := cap_ok (evalA_ok hs x) hx hcap
  obtain ⟨hleD, hokD⟩ := hok.drawn 1
  have hdr : w.drewN 1 = w.drew := rfl
  rw [hdr] at hleD hokD
  obtain ⟨_, cx, ou, hA', _, ol, ocl, o1, r1, f1⟩ := src_ok (P := P) hokD (st := ⟨n, d, s, B, L⟩) rfl ((evalA_ok hs x).mono hleD) hx hxc
  have hyv := evalA_ok hs y
  rw [hy, RV.val_iff] at hyv
  have hmax : m + k ≤ 140737488355328 := Nat.le_trans (Nat.le_mul_of_pos_right _ hby) hfit
  have hk48 : k * ei.bytes ≤ (m + k) * ei.bytes := Nat.mul_le_mul_right _ (by omega)
  have hrun0 := run_append_growsN (P := P) (ty := o.type) (w := w) (A := A) (n := m) (c := c0) (m := k) (olds := ou) (hTt.elem e h2) hti hinf hz (by rw [← hA, ← hsz]; exact f1) hg (by rw [← hsz]; exact Nat.mul_pos hk hsz0) (by omega) (by rw [← hbys]; omega) (growslice_fits (by omega) (by rw [← hbys]; exact hfit))
  have hrun : (execOp a.eval o).run P w = .ok (.value (.slice (some ⟨w.heap.size, 0, none⟩) (m + k) (grownCap w (m + k) c0 e))) (w.drew.alloc (.cells (ou.toArray ++ Builtin.zeroCells z.cells k ++ Builtin.zeroCells z.cells (grownCap w (m + k) c0 e - (m + k))) e)) := by
    simp only [execOp, hop, resolve, hc, hargs, htys, invoke, builtin, Sem.run_bind, Sem.run_pure, Result.andThen_ok]
    have ea : (#[x, y].map a.eval) = #[.slice A m c0, .int .i64 (k : Int)] := by simp [hA, hyv]
    rw [ea]
    simp [hrun0]
  obtain ⟨inf', z', hinf', hz', q1, q2, q3⟩ := zeros_ok (P := P) hE
  rw [hinf] at hinf'; cases hinf'
  rw [hz] at hz'; cases hz'
  obtain ⟨z1, z2, z3⟩ := q3 k
  obtain ⟨E', hle1, hok1, hG, hbm⟩ := grow_core (P := P) hokD (d + t) hE (cs := olds ++ zerosA k ei.zero) (us := ou ++ (Builtin.zeroCells z.cells k).toList) (by simp [ol, zerosA_len, z1, q2]) (fun u hu => (List.mem_append.1 hu).elim (o1 u) (z2 u)) (fun i y u hy hu => by
    by_cases hi : i < olds.length
    · rw [List.getElem?_append_left hi] at hy
      rw [List.getElem?_append_left (by omega)] at hu
      exact r1 i y u hy hu
    · rw [List.getElem?_append_right (by omega)] at hy
      rw [List.getElem?_append_right (by omega), ol] at hu
      exact .pure _ _ (.data _ _ (z3 _ _ _ y u hy (by simpa using hu)))) hinf hz (grownCap w (m + k) c0 e - (m + k)) _ (show ou.toArray ++ Builtin.zeroCells z.cells k ++ Builtin.zeroCells z.cells (grownCap w (m + k) c0 e - (m + k)) = _ by apply Array.ext'; simp)
  have hcap' := grownCap_ge w (m + k) c0 e
  refine wpOp_put g2 hn hd hw hrun hs hrel (hleD.trans hle1) hle0 hok1 (.bsl (d + t) ((B (d + t)).1 + 1) 0 (m + k) _ w.heap.size (by rw [hG]; exact Nat.le_refl _) (fun _ => hbm.symm)) fun a' w' hrel' => h _ hcap' g1 a' w' hrel'
end
end Go.Proofs.YtmnpjaglgalobaaGreatW.E

/-
  Slices written to in place: what copy, append, clear make of a box, said outright; a box whose cells are settled for good, so that a slice of them is data; two slices of two boxes do not overlap. Laws over any program; no condition.
-/
namespace Go.Proofs.YtmnpjaglgalobaaGreatW.E
open Go Go.RowKit
set_option linter.unusedVariables false
set_option linter.unusedSimpArgs false

section
variable {P : Program} {base : Nat} {w0 : Entry} {T : Tab} {ops : Array Oper} {Q : Exit → St → Prop} {st : St} {o : Oper}

theorem src_bsl {y : Operand} {k g off n c m sz : Nat} {bs cs : List AV} (hev : evalA st y = .bsl k g off n c) (hB : st.B k = (g, bs)) (hm : m ≤ n) (hfit : off + m * sz ≤ bs.length) (hcs : (bs.drop off).take (m * sz) = cs) : srcCells st sz m (evalA st y) = some cs := by
  simp only [srcCells, hev, hB, hm, hfit, and_self, if_true, hcs]

theorem xexec_copy {c : Call} {x y : Operand} {t e : TypeId} {ts : List TypeId} {ti ei : TInfo} {k g off n cp ly : Nat} {bs cs bs' : List AV} (hop : o.op = .call c) (hc : c.callee = .builtin .copy) (hargs : c.args.toList = [x, y]) (htys : c.argTypes.toList = t :: ts) (h1 : T.get t = some ti) (h2 : ti.elem = some e) (h3 : T.get e = some ei)
    (hxv : evalA st x = .bsl k g off n cp) (hB : st.B k = (g, bs)) (hly : srcLen (evalA st y) = some ly) (hcs : srcCells st ei.sz (min ly n) (evalA st y) = some cs) (hne : bs.isEmpty = false) (hfit : off + cs.length ≤ bs.length) (hnew : splice bs off cs = bs') :
    xexec T st o = some { v := .val (.int .i64 (min ly n : Nat)), box := some (k, g, bs') } := by
  subst hnew
  unfold xexec
  simp only [hop, hc, hargs, htys, hxv, h1, h2, h3, Option.bind_some, hly, hcs, hB, hne, hfit, and_self, if_true]

theorem xexec_app {c : Call} {x y : Operand} {t e : TypeId} {ti ei : TInfo} {k g off n cp ly : Nat} {bs cs bs' : List AV} (hop : o.op = .call c) (hc : c.callee = .builtin .append) (hargs : c.args.toList = [x, y]) (htys : c.argTypes.toList = [t, t]) (h1 : T.get t = some ti) (h2 : ti.elem = some e) (h3 : T.get e = some ei)
    (hxv : evalA st x = .bsl k g off n cp) (hB : st.B k = (g, bs)) (hly : srcLen (evalA st y) = some ly) (hcs : srcCells st ei.sz ly (evalA st y) = some cs) (hroom : n + ly ≤ cp) (hne : bs.isEmpty = false) (hfit : off + n * ei.sz + cs.length ≤ bs.length) (hnew : splice bs (off + n * ei.sz) cs = bs') :
    xexec T st o = some { v := .bsl k g off (n + ly) cp, box := some (k, g, bs') } := by
  subst hnew
  unfold xexec
  simp only [hop, hc, hargs, htys, hxv, h1, h2, h3, Option.bind_some, hly, hcs, hB, hne, hfit, hroom, and_self, if_true]

theorem xexec_clear {c : Call} {x : Operand} {t e : TypeId} {ti ei : TInfo} {k g off n cp : Nat} {bs bs' : List AV} (hop : o.op = .call c) (hc : c.callee = .builtin .clear) (hargs : c.args.toList = [x]) (htys : c.argTypes.toList = [t]) (h1 : T.get t = some ti) (h2 : ti.elem = some e) (h3 : T.get e = some ei)
    (hxv : evalA st x = .bsl k g off n cp) (hB : st.B k = (g, bs)) (hne : bs.isEmpty = false) (hfit : off + n * ei.sz ≤ bs.length) (hnew : splice bs off (zerosA n ei.zero) = bs') :
    xexec T st o = some { v := .val undef, box := some (k, g, bs') } := by
  subst hnew
  unfold xexec
  simp only [hop, hc, hargs, htys, hxv, h1, h2, h3, Option.bind_some, hB, hne, hfit, and_self, if_true]

/-- A box is given up. -/
theorem OK.drop {E : Env} {B : Nat → Nat × List AV} {L : Nat → Nat} {w : World} (hok : OK base w0 E B L w) (k : Nat) : OK base w0 E (upd B k ((B k).1, [])) L w := by
  have bne : ∀ {k'}, (upd B k ((B k).1, []) k').2 ≠ [] → (B k').2 ≠ [] ∧ k' ≠ k := fun {k'} h => by
    by_cases e : k' = k
    · subst e; rw [upd_same] at h; exact absurd rfl h
    · rw [upd_ne _ _ e] at h; exact ⟨h, e⟩
  refine ⟨hok.hbase, hok.below, hok.sOld, hok.sCell, hok.fCell, hok.fOld, hok.sF, hok.L, fun k' => ?_, fun k' h => ?_, fun k1 k2 h a b => hok.boxinj k1 k2 h (bne a).1 (bne b).1, hok.spare, hok.spareinj, fun k1 k2 b lo hi h a => hok.sparebox k1 k2 b lo hi h (bne a).1⟩
  · by_cases e : k' = k
    · subst e; rw [upd_same]; exact hok.G k'
    · rw [upd_ne _ _ e]; exact hok.G k'
  · obtain ⟨h1, h2⟩ := bne h
    rw [upd_ne _ _ h2]
    exact hok.box k' h1

/-- The cells of a box, told otherwise. -/
theorem OK.conv {E : Env} {B : Nat → Nat × List AV} {L : Nat → Nat} {w : World} (hok : OK base w0 E B L w) (j : Nat) (bs' : List AV) (hl : bs'.length = (B j).2.length) (hc : ∀ (i : Nat) c c' v, (B j).2[i]? = some c → bs'[i]? = some c' → RV E w c v → RV E w c' v) : OK base w0 E (upd B j ((B j).1, bs')) L w := by
  have bne : ∀ {k'}, (upd B j ((B j).1, bs') k').2 ≠ [] → (B k').2 ≠ [] := fun {k'} h => by
    by_cases e : k' = j
    · subst e; rw [upd_same] at h
      intro e2; rw [e2] at hl
      exact h (List.eq_nil_of_length_eq_zero hl)
    · rwa [upd_ne _ _ e] at h
  refine ⟨hok.hbase, hok.below, hok.sOld, hok.sCell, hok.fCell, hok.fOld, hok.sF, hok.L, fun k' => ?_, fun k' h => ?_, fun k1 k2 h a b => hok.boxinj k1 k2 h (bne a) (bne b), hok.spare, hok.spareinj, fun k1 k2 b lo hi h a => hok.sparebox k1 k2 b lo hi h (bne a)⟩
  · by_cases e : k' = j
    · subst e; rw [upd_same]; exact hok.G k'
    · rw [upd_ne _ _ e]; exact hok.G k'
  · have hne := bne h
    by_cases e : k' = j
    · subst e
      rw [upd_same]
      obtain ⟨a1, a2, t, ccs, a3, a4, a5⟩ := hok.box k' hne
      refine ⟨a1, a2, t, ccs, a3, a4.trans hl.symm, fun i c v hi hv => ?_⟩
      have hlt : i < (B k').2.length := by rw [← hl]; exact (List.getElem?_eq_some_iff.1 hi).1
      have h1 := a5 i _ v (List.getElem?_eq_getElem hlt) hv
      exact ⟨h1.1, hc i _ c v (List.getElem?_eq_getElem hlt) hi h1.2⟩
    · rw [upd_ne _ _ e]
      exact hok.box k' hne

/-- A slice of a box that nobody writes to any more is data. -/
theorem AWp.settleB {c : Code} {n d : Nat} {s : Nat → AV} {B : Nat → Nat × List AV} {L : Nat → Nat} (k j : Nat) {g gj cp sz : Nat} {a : AV} {xs : List AV} {r : List AV} (hjk : j ≠ k) (hB : B k = (g, flat xs ++ r)) (hj : B j = (gj, [a, .bsl k g 0 xs.length cp])) (hne : flat xs ++ r ≠ []) (hcp : xs.length ≤ cp) (hsz : ∀ x ∈ xs, x.cells.length = sz) (hval : ∀ y ∈ flat xs, ∃ v, y = .val v)
    (h : AWp P base w0 c Q ⟨n, d, s, upd (upd B k (g, [])) j (gj, [a, .list sz xs .no]), L⟩) : AWp P base w0 c Q ⟨n, d, s, B, L⟩ := fun ac w hrel => by
  obtain ⟨E, hok, hle0, hs⟩ := hrel.ex
  simp only at hok
  obtain ⟨b1, b2, t, ccs, b3, b4, b5⟩ := hok.box k (by rw [hB]; exact hne)
  rw [hB] at b4 b5
  have hcell : ∀ (o : Nat) y, (flat xs)[o]? = some y → ∃ v, ccs[o]? = some v ∧ w.cell? ⟨E.bm k, o, none⟩ = some v ∧ v.oneCell' = true ∧ y = .val v := fun o y hy => by
    have hlt : o < (flat xs).length := (List.getElem?_eq_some_iff.1 hy).1
    have hlt2 : o < ccs.size := by rw [b4, List.length_append]; omega
    have h1 := b5 o y ccs[o] (by rw [List.getElem?_append_left hlt]; exact hy) (Array.getElem?_eq_getElem hlt2)
    obtain ⟨v, rfl⟩ := hval y (List.mem_of_getElem? hy)
    have h2 := RV.val_iff.1 h1.2
    exact ⟨ccs[o], Array.getElem?_eq_getElem hlt2, by simp [World.cell?, b3, hlt2], h1.1, by rw [h2]⟩
  have hok1 := hok.drop k
  have hB1 : (B k).1 = g := by rw [hB]
  rw [hB1] at hok1
  have bne : ∀ {k'}, (upd B k (g, []) k').2 ≠ [] → (B k').2 ≠ [] ∧ k' ≠ k := fun {k'} h => by
    by_cases e : k' = k
    · subst e; rw [upd_same] at h; exact absurd rfl h
    · rw [upd_ne _ _ e] at h; exact ⟨h, e⟩
  have hkne : (B k).2 ≠ [] := by rw [hB]; exact hne
  obtain ⟨hle2, hok2⟩ := hok1.settle (w' := w) (S' := fun b o => E.S b o ∨ (b = E.bm k ∧ o < (flat xs).length)) (L' := L) (τ' := E.τ) (Below.refl base w) (fun b o h => ⟨.inl h, rfl⟩)
    (fun b o h => by
      rcases h with h | ⟨rfl, h⟩
      · exact hok.sCell b o h
      · obtain ⟨v, _, h2, _⟩ := hcell o _ (List.getElem?_eq_getElem h)
        exact ⟨v, h2⟩)
    (fun b o h => (hok.fOld b o h).symm) (fun b o h => by
      rcases h with h | ⟨rfl, h⟩
      · exact .inl h
      · exact .inr b1)
    (fun k => ⟨Nat.le_refl _, fun _ => rfl⟩)
    (fun k' hk' => ⟨rfl, fun o h => by
      obtain ⟨h1, h2⟩ := bne hk'
      rcases h with h | ⟨h, _⟩
      · exact (hok.box k' h1).2.1 o h
      · exact hok.boxinj k' k h2 h1 hkne h⟩)
    (fun k' b lo hi h => by
      obtain ⟨h1, h2, h3⟩ := hok.spare k' b lo hi h
      refine ⟨h1, fun o a1 a2 h4 => ?_, h3⟩
      rcases h4 with h4 | ⟨h4, _⟩
      · exact h2 o a1 a2 h4
      · exact hok.sparebox k' k b lo hi h hkne h4.symm)
    hok.spareinj (fun k1 k2 b lo hi h a => hok.sparebox k1 k2 b lo hi h (bne a).1)
  have hjB : upd B k (g, []) j = (gj, [a, .bsl k g 0 xs.length cp]) := by rw [upd_ne _ _ hjk, hj]
  have hok3 := hok2.conv j [a, .list sz xs .no] (by rw [hjB]; rfl) (fun i c c' v hi hi' hv => by
    rw [hjB] at hi
    match i with
    | 0 => cases hi; cases hi'; exact hv
    | 1 =>
      cases hi; cases hi'
      obtain ⟨b, rfl, hb⟩ := hv.bsl_inv
      have hb' : b = E.bm k := hb (by show g = E.G k; rw [hok.G k, hB])
      subst hb'
      refine .pure _ _ (.data _ _ (RD.list_iff.2 ⟨_, cp, E.bm k, 0, rfl, hcp, fun _ => rfl, hsz, fun i y hy => ?_, .inl rfl⟩))
      rw [Nat.zero_add]
      obtain ⟨v, _, h2, h3, rfl⟩ := hcell i y hy
      exact ⟨.inr ⟨rfl, (List.getElem?_eq_some_iff.1 hy).1⟩, v, h2, h3, .val v⟩
    | i + 2 => simp at hi)
  rw [hjB] at hok3
  exact h ac w ⟨⟨_, hok3, hle0.trans hle2, fun t => (hs t).mono hle2⟩, hrel.size, hrel.defs⟩

/-- slices.overlaps of two boxes. -/
theorem HL.apart {n d : Nat} {s : Nat → AV} {B : Nat → Nat × List AV} {L : Nat → Nat} {rest : List Oper} {i t : Nat} {c : Call} {x y : Operand} {g : FuncId} {fn : Func} {tS tR e : TypeId} {ti ei : TInfo} (hT : T.OK P) (hop : o.op = .call c) (hd : o.dst = some t) (hn : decide (t < n) = true)
    (hw : awanted ops o ⟨n, d, s, B, L⟩ = some true) (hc : calleeOf ⟨n, d, s, B, L⟩ c = some (g, [])) (hargs : c.args = #[x, y]) (hf : P.funcs[g]? = some fn) (hname : (fn.name == "runtime.NumGoroutine") = false) (hb : fn.body.isNone = true) (hnx : Extern.findNext fn = none) (he : Extern.find fn = some (Extern.SlicesOverlaps.overlaps #[tS, tS] #[tR]))
    (h1 : T.get tS = some ti) (h2 : ti.elem = some e) (h3 : T.get e = some ei) {k k' g1 g2 o1 o2 n1 n2 c1 c2 : Nat} {b1 b2 : List AV} (hx : evalA ⟨n, d, s, B, L⟩ x = .bsl k g1 o1 n1 c1) (hy : evalA ⟨n, d, s, B, L⟩ y = .bsl k' g2 o2 n2 c2) (hk : k ≠ k') (hB1 : B k = (g1, b1)) (hB2 : B k' = (g2, b2)) (hb1 : b1 ≠ []) (hb2 : b2 ≠ [])
    (h : HL P T base w0 ops rest (i + 1) ⟨n, d, upd s t (.val (.bool false)), B, L⟩ Q) : HL P T base w0 ops (o :: rest) i ⟨n, d, s, B, L⟩ Q := fun hr a w hrel => by
  obtain ⟨q1, q2⟩ := drop_next hr
  rw [List.length_cons, List.range'_succ, wpOps_cons]
  obtain ⟨E, hok, hle0, hs⟩ := hrel.ex
  simp only at hok
  have hTt := mkInfo_ok (hT _ _ h1)
  have hE := mkInfo_ok (hT _ _ h3)
  have e1 := evalA_ok hs x
  have e2 := evalA_ok hs y
  rw [hx] at e1
  rw [hy] at e2
  obtain ⟨ba, va, ha⟩ := e1.bsl_inv
  obtain ⟨bb, vb, hbb⟩ := e2.bsl_inv
  have ha' : ba = E.bm k := ha (by rw [hok.G k, hB1])
  have hb' : bb = E.bm k' := hbb (by rw [hok.G k', hB2])
  subst ha'; subst hb'
  obtain ⟨_, _, t1, ccs1, m1, l1, _⟩ := hok.box k (by rw [hB1]; exact hb1)
  obtain ⟨_, _, t2, ccs2, m2, l2, _⟩ := hok.box k' (by rw [hB2]; exact hb2)
  have hne := hok.boxinj k k' hk (by rw [hB1]; exact hb1) (by rw [hB2]; exact hb2)
  have hov := Lib.run_overlaps_apart (P := P) w tS tR e (hTt.elem e h2) ei.sz hE.size ⟨E.bm k, o1, none⟩ ⟨E.bm k', o2, none⟩ n1 c1 n2 c2 hne t1 t2 ccs1.size ccs2.size (by simp [World.shape?, m1]) (by simp [World.shape?, m2])
    (by rw [l2, hB2]; exact fun e => hb2 (List.eq_nil_of_length_eq_zero e)) (by simp [World.frozen?, m1]) (by simp [World.frozen?, m1])
  have hcf := run_callFunc_extern (P := P) hf hname hb hnx he #[.slice (some ⟨E.bm k, o1, none⟩) n1 c1, .slice (some ⟨E.bm k', o2, none⟩) n2 c2] w
  rw [hov] at hcf
  have hrun : (execOp a.eval o).run P w = .ok (.value (.bool false)) w := by
    unfold calleeOf at hc
    split at hc
    · rename_i f hff
      split at hc
      · rename_i g' caps' hev
        simp only [Option.some.injEq, Prod.mk.injEq] at hc
        obtain ⟨rfl, rfl⟩ := hc
        have h1 := evalA_ok hs f
        rw [hev] at h1
        obtain ⟨cv, h2, h3, h4⟩ := h1.fn_inv
        have hcv : cv = #[] := Array.eq_empty_of_size_eq_zero (by simpa using h3.symm)
        subst hcv
        simp only [execOp, hop, resolve, hff, h2, Deferred.ofValue, Sem.run_bind, Sem.run_pure, Result.andThen_ok, invoke, hargs]
        have ea : (#[x, y].map a.eval) = #[.slice (some ⟨E.bm k, o1, none⟩) n1 c1, .slice (some ⟨E.bm k', o2, none⟩) n2 c2] := by simp [va, vb]
        rw [ea]
        simpa using hcf
      · cases hc
    · cases hc
  exact wpOp_put q2 hn hd hw hrun hs hrel (Env.Le.refl _ _) hle0 hok (RV.val_iff.2 rfl) fun a' w' hrel' => h q1 a' w' hrel'

/-- A sequence, with what holds between. -/
theorem AWp.seqI {x y : Code} (I : St → Prop) (h1 : AWp P base w0 x (fun e st' => match e with | .normal => I st' | e => Q e st') st) (h2 : ∀ st', I st' → AWp P base w0 y Q st') : AWp P base w0 (.seq x y) Q st :=
  AWp.seq (h1.mono fun e st' h => by cases e <;> first | exact h2 _ h | exact h)
end
end Go.Proofs.YtmnpjaglgalobaaGreatW.E

/-
  Calls that are handed lists of the caller's own and hand them back longer, in regions of either kind. Laws over any program; no condition.
-/
namespace Go.Proofs.YtmnpjaglgalobaaGreatW.E
open Go Go.RowKit
set_option linter.unusedVariables false
set_option linter.unusedSimpArgs false

section
variable {P : Program} {base : Nat} {w0 : Entry} {T : Tab} {ops : Array Oper} {K : St → Prop}

/-- Called where the boxes are so, the function turns no box and hands back r; these keys go up. -/
abbrev OCall (P : Program) (T : Tab) (f : FuncId) (args : List AV) (B : Nat → Nat × List AV) (L : Nat → Nat) (r : AV) (ks : List Nat) : Prop :=
  HCall P T f args B L fun r' B' L' => r' = r ∧ B' = B ∧ L' = bumpL ks L

theorem does_o {st : St} {o : Oper} (hT : T.OK P) {c : Call} (ho : o.op = .call c) {g : FuncId} {caps : List AV} (hc : calleeOf st c = some (g, caps))
    {r : AV} {ks : List Nat} (hcall : OCall P T g (c.args.toList.map (evalA st) ++ caps) st.B st.L r ks) : Does P base w0 st o { v := r, bump := ks } := by
  intro E a w hok hs hn0 hd0 K Q hK
  obtain ⟨hcb, fn, code, d, hf, hb, hle, hbody⟩ := hcall
  obtain ⟨vs, hrun, hlen, hvs⟩ := run_call (P := P) hs ho hc hcb
  unfold Oper.wp
  rw [hrun]
  show Calls P g vs w _
  let w0' : Entry := { w0 with E1 := E, w1 := w }
  have hslots : ∀ t, RV E w ((c.args.toList.map (evalA st) ++ caps).getD t (.val undef)) ((vs ++ Array.replicate (fn.ntmps - vs.size) undef).getD t undef) := fun t => by
    by_cases ht : t < vs.size
    · have e1 : (vs ++ Array.replicate (fn.ntmps - vs.size) undef).getD t undef = vs[t] := by
        simp [Array.getD, Array.size_append, Array.size_replicate, show t < vs.size + (fn.ntmps - vs.size) by omega, Array.getElem_append_left ht]
      have ht' : t < (c.args.toList.map (evalA st) ++ caps).length := by omega
      have e2 : (c.args.toList.map (evalA st) ++ caps).getD t (.val undef) = (c.args.toList.map (evalA st) ++ caps)[t] := by simp only [List.getD_eq_getElem?_getD, List.getElem?_eq_getElem ht', Option.getD_some]
      rw [e1, e2]
      exact hvs t _ _ (List.getElem?_eq_getElem ht') (by simp [ht])
    · have e1 : (vs ++ Array.replicate (fn.ntmps - vs.size) undef).getD t undef = undef := by
        rw [Array.getD_eq_getD_getElem?, Array.getElem?_append_right (by omega), Array.getElem?_replicate]
        split <;> rfl
      have e2 : (c.args.toList.map (evalA st) ++ caps).getD t (.val undef) = .val undef := by
        simp only [List.getD_eq_getElem?_getD, List.getElem?_eq_none (show (c.args.toList.map (evalA st) ++ caps).length ≤ t by omega), Option.getD_none]
      rw [e1, e2]
      exact RV.val_iff.2 rfl
  have hrel0 : Rel base w0' ⟨fn.ntmps, d, fun t => (c.args.toList.map (evalA st) ++ caps).getD t (.val undef), st.B, st.L⟩ { tmps := vs ++ Array.replicate (fn.ntmps - vs.size) undef, defers := [] } w :=
    ⟨⟨E, OK.re (w0 := w0) (w0' := w0') rfl rfl hok, Env.Le.refl _ _, hslots⟩, by simp; omega, rfl⟩
  refine calls_of_wp hf hb (wp_mono (hbody base w0' _ w hrel0) fun e a' w' ⟨st', hq, hrel'⟩ => ?_)
  have fin : (∃ x, aresults T st' fn.results.toList = some x ∧ (x = r ∧ st'.B = st.B ∧ st'.L = bumpL ks st.L)) → a'.defers = [] ∧ ∃ v, (results fn a'.tmps).run P w' = .ok v w' ∧ K (a.put o.dst v) w' := by
    rintro ⟨x, hr, rfl, hB, hL⟩
    obtain ⟨E', hok', hle', hs'⟩ := hrel'.ex
    obtain ⟨x, hx, hxr⟩ := run_aresults (P := P) hT hok' hs' hr
    have hle1 : E.Le w E' w' := hle'
    have hok2 := OK.re (w0 := w0') (w0' := w0) rfl rfl hok'
    rw [hB, hL] at hok2
    exact ⟨hrel'.defs, x, hx, hK x w' E' hle1 hok2 hxr⟩
  cases e with
  | normal => exact fin hq
  | ret => exact fin hq
  | _ => exact hq.elim

theorem own_eff {st : St} {o : Oper} (hT : T.OK P) {c : Call} (ho : o.op = .call c) {g : FuncId} {caps : List AV} (hc : calleeOf st c = some (g, caps))
    {r : AV} {ks : List Nat} (hcall : OCall P T g (c.args.toList.map (evalA st) ++ caps) st.B st.L r ks) : OwnEff P o st { v := r, bump := ks } := by
  have hv : ∃ f, c.callee = .value f := by
    unfold calleeOf at hc
    split at hc
    · rename_i f hf; exact ⟨f, hf⟩
    · cases hc
  obtain ⟨f, hf⟩ := hv
  refine ⟨⟨c, f, ho, hf⟩, rfl, fun base w0 st' h hd hB hL => ?_⟩
  have hops : ∀ x ∈ c.operands.toList, evalA st' x = evalA st x := fun x hx => h x (by rw [ho]; simpa [Op.operands] using hx)
  have e1 : calleeOf st' c = calleeOf st c := by
    unfold calleeOf
    rw [hf]
    simp only
    rw [hops f (by simp [Call.operands, hf])]
  have e2 : c.args.toList.map (evalA st') = c.args.toList.map (evalA st) := List.map_congr_left fun x hx => hops x (by simp [Call.operands, hf]; exact .inr (by simpa using hx))
  exact does_o hT ho (e1.trans hc) (by rw [e2, hB, hL]; exact hcall)

/-- Such a call, in a region of either kind. -/
theorem WL.o (hT : T.OK P) {n d : Nat} {s : Nat → AV} {B : Nat → Nat × List AV} {L : Nat → Nat} {o : Oper} {rest : List Oper} {i t : Nat} {c : Call} {g : FuncId} {caps args : List AV} {r : AV} {ks : List Nat} (hop : o.op = .call c) (hd : o.dst = some t) (hn : decide (t < n) = true)
    (hw : awanted ops o ⟨n, d, s, B, L⟩ = some true) (hc : calleeOf ⟨n, d, s, B, L⟩ c = some (g, caps)) (ha : c.args.toList.map (evalA ⟨n, d, s, B, L⟩) ++ caps = args) (hcall : OCall P T g args B L r ks)
    (h : WL P T ops rest (i + 1) ⟨n, d, upd s t r, B, bumpL ks L⟩ K) : WL P T ops (o :: rest) i ⟨n, d, s, B, L⟩ K := fun hr => by
  have h1 : ops.toList.drop (i + 1) = rest := by rw [← List.drop_drop, ← hr]; rfl
  have h2 : ops[i]? = some o := by
    have : (ops.toList.drop i)[0]? = some o := by rw [← hr]; rfl
    simpa using this
  obtain ⟨st', h3, h4⟩ := h h1.symm
  subst ha
  refine ⟨st', .cons i _ _ _ st' ⟨o, { v := r, bump := ks }, h2, by simp only [dstOK, hd]; exact hn, .inr (.inr ⟨rfl, hw, own_eff hT hop hc hcall⟩), ?_, .no⟩ h3, h4⟩
  rw [hd]; rfl

/-- A list to which the frame may append; which keys go up by it. -/
def AccX (L : Nat → Nat) (key : Nat) (v : AV) (sz : Nat) (xs : List AV) (ks : List Nat) : Prop :=
  ∃ o sx, v = .list sx xs o ∧ ((o = .full ∧ ks = [key] ∧ (xs = [] ∨ sx = sz)) ∨ ∃ k, o = .key k (L k) ∧ ks = [k, key] ∧ sx = sz)
theorem aappend_x {t e : TypeId} {i ei : TInfo} (hT : T.get t = some i) (he : i.elem = some e) (hE : T.get e = some ei) {st : St} {v : AV} {xs : List AV} {key : Nat} {ks : List Nat} (hv : AccX st.L key v ei.sz xs ks) {sy : Nat} {ys : List AV} {oy : Own} (hy : sy = ei.sz ∨ ys = [])
    (hb : (xs.length + ys.length) * ei.bytes ≤ 140737488355328) (hp : 0 < ei.bytes) :
    aappend T st t key v (.list sy ys oy) = some { v := .list ei.sz (xs ++ ys) (.key key (bumpL ks st.L key)), bump := ks } := by
  obtain ⟨o, sx, rfl, h⟩ := hv
  have hsx : sx = ei.sz ∨ xs.isEmpty = true := by
    rcases h with ⟨_, _, h | h⟩ | ⟨k, _, _, h⟩
    · right; simp [h]
    · exact .inl h
    · exact .inl h
  have hsy : sy = ei.sz ∨ ys.isEmpty = true := hy.imp id (by simp)
  unfold aappend
  simp only [hT, Option.bind_some, he, hE]
  rw [if_pos ⟨hsx, hsy, hb, hp⟩]
  rcases h with ⟨rfl, rfl, _⟩ | ⟨k, rfl, rfl, h⟩
  · rfl
  · simp only [true_and, h, if_true]
    rfl
theorem WL.accX {n d : Nat} {s : Nat → AV} {B : Nat → Nat × List AV} {L : Nat → Nat} {o : Oper} {rest : List Oper} {i t : Nat} {c : Call} {x y : Operand} {tt e : TypeId} {ti ei : TInfo} {xs ys : List AV} {ks : List Nat} {sy : Nat} {oy : Own} (hop : o.op = .call c) (hc : c.callee = .builtin .append) (hargs : c.args = #[x, y]) (htys : c.argTypes = #[tt, tt])
    (hd : o.dst = some t) (hn : decide (t < n) = true) (hw : awanted ops o ⟨n, d, s, B, L⟩ = some true) (hT : T.get tt = some ti) (he : ti.elem = some e) (hE : T.get e = some ei)
    (hx : AccX L (d + t) (evalA ⟨n, d, s, B, L⟩ x) ei.sz xs ks) (hy : evalA ⟨n, d, s, B, L⟩ y = .list sy ys oy) (hsy : sy = ei.sz ∨ ys = []) (hb : (xs.length + ys.length) * ei.bytes ≤ 140737488355328) (hp : 0 < ei.bytes)
    (h : WL P T ops rest (i + 1) ⟨n, d, upd s t (.list ei.sz (xs ++ ys) (.key (d + t) (bumpL ks L (d + t)))), B, bumpL ks L⟩ K) : WL P T ops (o :: rest) i ⟨n, d, s, B, L⟩ K := by
  have hk := aappend_x (T := T) hT he hE (st := ⟨n, d, s, B, L⟩) hx (oy := oy) hsy hb hp
  refine WL.exec (e := { v := .list ei.sz (xs ++ ys) (.key (d + t) (bumpL ks L (d + t))), bump := ks }) (by simp only [dstOK, hd]; exact hn) hw ?_ ?_
  · obtain ⟨dst, op, ty, pos, after, guard⟩ := o
    obtain ⟨callee, args, argTypes⟩ := c
    simp only at hop hc hargs htys hd
    subst hop; subst hc; subst hargs; subst htys; subst hd
    simp only [aexec, acallB, Option.bind_some, if_true, hy]
    exact hk
  · rw [hd]
    exact h
/-- A list of the frame's own under a key that is said. -/
def AccK (L : Nat → Nat) (k : Nat) (v : AV) (sz : Nat) (xs : List AV) : Prop :=
  ∃ o sx, v = .list sx xs o ∧ ((o = .full ∧ (xs = [] ∨ sx = sz)) ∨ (o = .key k (L k) ∧ sx = sz))
theorem AccK.nil (L : Nat → Nat) (k sz sx : Nat) : AccK L k (.list sx [] .full) sz [] := ⟨_, _, rfl, .inl ⟨rfl, .inl rfl⟩⟩
theorem AccK.acc {L : Nat → Nat} {k : Nat} {v : AV} {sz : Nat} {xs : List AV} (h : AccK L k v sz xs) : Acc L v sz xs := by
  obtain ⟨o, sx, rfl, h⟩ := h
  exact ⟨o, sx, rfl, h.imp id fun h => ⟨k, h⟩⟩
theorem AccK.to {L L' : Nat → Nat} {k : Nat} {v : AV} {sz : Nat} {xs : List AV} (h : AccK L k v sz xs) (e : L' k = L k) : AccK L' k v sz xs := by
  obtain ⟨o, sx, rfl, h⟩ := h
  exact ⟨o, sx, rfl, h.imp id fun h => ⟨by rw [e]; exact h.1, h.2⟩⟩
theorem AccK.x {L : Nat → Nat} {k : Nat} {v : AV} {sz : Nat} {xs : List AV} (h : AccK L k v sz xs) : ∃ ks, AccX L k v sz xs ks ∧ ∀ j, j ∈ ks → j = k := by
  obtain ⟨o, sx, rfl, ⟨rfl, h⟩ | ⟨rfl, h⟩⟩ := h
  · exact ⟨[k], ⟨_, _, rfl, .inl ⟨rfl, rfl, h⟩⟩, by simp⟩
  · exact ⟨[k, k], ⟨_, _, rfl, .inr ⟨k, rfl, rfl, h⟩⟩, by simp⟩
theorem WL.accK {n d : Nat} {s : Nat → AV} {B : Nat → Nat × List AV} {L : Nat → Nat} {o : Oper} {rest : List Oper} {i t : Nat} {c : Call} {x y : Operand} {tt e : TypeId} {ti ei : TInfo} {xs ys : List AV} {sy : Nat} {oy : Own} (hop : o.op = .call c) (hc : c.callee = .builtin .append) (hargs : c.args = #[x, y]) (htys : c.argTypes = #[tt, tt])
    (hd : o.dst = some t) (hn : decide (t < n) = true) (hw : awanted ops o ⟨n, d, s, B, L⟩ = some true) (hT : T.get tt = some ti) (he : ti.elem = some e) (hE : T.get e = some ei)
    (hx : AccK L (d + t) (evalA ⟨n, d, s, B, L⟩ x) ei.sz xs) (hy : evalA ⟨n, d, s, B, L⟩ y = .list sy ys oy) (hsy : sy = ei.sz ∨ ys = []) (hb : (xs.length + ys.length) * ei.bytes ≤ 140737488355328) (hp : 0 < ei.bytes)
    (h : ∀ o' L', AccK L' (d + t) (.list ei.sz (xs ++ ys) o') ei.sz (xs ++ ys) → (∀ j, j ≠ d + t → L' j = L j) → WL P T ops rest (i + 1) ⟨n, d, upd s t (.list ei.sz (xs ++ ys) o'), B, L'⟩ K) : WL P T ops (o :: rest) i ⟨n, d, s, B, L⟩ K := by
  obtain ⟨ks, hx, hks⟩ := hx.x
  exact WL.accX hop hc hargs htys hd hn hw hT he hE hx hy hsy hb hp (h _ _ ⟨_, _, rfl, .inr ⟨rfl, rfl⟩⟩ fun j hj => bumpL_ne ks L j fun hm => hj (hks j hm))

/-- A list that grows one by one behind a key. -/
def headK (a : AV) (d : Nat) : List Nat := match a with | .list _ _ (.key k _) => [k, d] | _ => [d]
def growK (a : AV) (d : Nat) : Nat → List Nat
  | 0 => []
  | j + 1 => growK a d j ++ (if j = 0 then headK a d else [d, d])
def growV (L : Nat → Nat) (a : AV) (sz : Nat) (xs : List AV) (d : Nat) : Nat → AV
  | 0 => a
  | j + 1 => .list sz xs (.key d (bumpL (growK a d (j + 1)) L d))
theorem bumpL_app (ks ks' : List Nat) (L : Nat → Nat) : bumpL (ks ++ ks') L = bumpL ks' (bumpL ks L) := by simp [bumpL]
theorem growV_x {L : Nat → Nat} {a : AV} {sz : Nat} {xs : List AV} (ha : Acc L a sz xs) (d : Nat) {ys : List AV} : ∀ (j : Nat), (j = 0 → ys = xs) → AccX (bumpL (growK a d j) L) d (growV L a sz ys d j) sz ys (if j = 0 then headK a d else [d, d])
  | 0, h => by
    obtain ⟨o, sx, rfl, hh⟩ := ha
    rw [h rfl]
    refine ⟨o, sx, rfl, ?_⟩
    rcases hh with ⟨rfl, h1⟩ | ⟨k, rfl, h1⟩
    · exact .inl ⟨rfl, rfl, h1⟩
    · exact .inr ⟨k, rfl, rfl, h1⟩
  | j + 1, _ => ⟨_, _, rfl, .inr ⟨d, rfl, by simp, rfl⟩⟩
theorem growV_acc {L : Nat → Nat} {a : AV} {sz : Nat} {xs : List AV} (ha : Acc L a sz xs) (d : Nat) {ys : List AV} (j : Nat) (h : j = 0 → ys = xs) : Acc (bumpL (growK a d j) L) (growV L a sz ys d j) sz ys := by
  obtain ⟨o, sx, e, hh⟩ := growV_x ha d j h
  refine ⟨o, sx, e, ?_⟩
  rcases hh with ⟨h1, _, h2⟩ | ⟨k, h1, _, h2⟩
  · exact .inl ⟨h1, h2⟩
  · exact .inr ⟨k, h1, h2⟩
theorem growK_succ (a : AV) (d j : Nat) (L : Nat → Nat) : bumpL (if j = 0 then headK a d else [d, d]) (bumpL (growK a d j) L) = bumpL (growK a d (j + 1)) L := by
  rw [growK, bumpL_app]
end
end Go.Proofs.YtmnpjaglgalobaaGreatW.E
