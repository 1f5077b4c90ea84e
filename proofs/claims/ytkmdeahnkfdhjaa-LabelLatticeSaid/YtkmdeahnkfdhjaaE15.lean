/-
  What the single operations come to, in the form in which a walk over a body uses it. Laws over any program; no condition.
-/
import Derived.Test.YtkmdeahnkfdhjaaE14
import Derived.KernelRfl
import Derived.IntWalk
namespace Go.Proofs.YtkmdeahnkfdhjaaW.E
open Go Go.RowKit
set_option linter.unusedVariables false
set_option linter.unusedSimpArgs false

section
variable {P : Program} {base : Nat} {w0 : Entry} {T : Tab} {ops : Array Oper} {K : St → Prop} {Q : Exit → St → Prop} {n d : Nat} {s : Nat → AV} {B : Nat → Nat × List AV} {L : Nat → Nat}

/-- The next one. -/
theorem WL.one {st st2 : St} {o : Oper} {rest : List Oper} {i : Nat} (h : stepL P T ops o st = some st2) (k : WL P T ops rest (i + 1) st2 K) : WL P T ops (o :: rest) i st K :=
  WL.seg [o] (by rw [runL_cons, h]; rfl) k

theorem anilt_tmp (T : Tab) (st : St) (op : BinOp) (t : TypeId) (x : Operand) (k : Nat) : anilt T st op t x (.tmp k) = none := rfl
theorem anilt_int (T : Tab) (st : St) (op : BinOp) (t : TypeId) (x : Operand) (k : IntKind) (n : Int) : anilt T st op t x (.const (.int k n)) = none := rfl
theorem anilt_bool (T : Tab) (st : St) (op : BinOp) (t : TypeId) (x : Operand) (b : Bool) : anilt T st op t x (.const (.bool b)) = none := rfl
theorem anilt_str (T : Tab) (st : St) (op : BinOp) (t : TypeId) (x : Operand) (b : ByteArray) : anilt T st op t x (.const (.string b)) = none := rfl
/-- An empty slice may be nil or not. -/
theorem AWp.slnil {st : St} {c : Code} {t sz : Nat} {ow : Own} (h : st.s t = .list sz [] ow) (h1 : ∀ A k, AWp P base w0 c Q ⟨st.n, st.d, upd st.s t (.val (.slice A 0 k)), st.B, st.L⟩) : AWp P base w0 c Q st := fun a w hrel => by
  obtain ⟨E, hok, hle0, hs⟩ := hrel.ex
  have h2 := hs t
  rw [h] at h2
  obtain ⟨A, k, b, off, hv, _⟩ := RD.list_iff.1 h2.list_no
  refine h1 A k a w ⟨⟨E, hok, hle0, fun u => ?_⟩, hrel.size, hrel.defs⟩
  by_cases hu : u = t
  · subst hu
    show RV E w (upd st.s u _ u) _
    rw [upd_same, hv]
    exact .pure _ _ (.data _ _ (.val _))
  · show RV E w (upd st.s t _ u) _
    rw [upd_ne _ _ hu]
    exact hs u
theorem AWp.slback {st : St} {c : Code} {t k : Nat} (sz : Nat) {A : Option Addr} (h : st.s t = .val (.slice A 0 k)) (h1 : AWp P base w0 c Q ⟨st.n, st.d, upd st.s t (.list sz [] .no), st.B, st.L⟩) : AWp P base w0 c Q st := fun a w hrel => by
  obtain ⟨E, hok, hle0, hs⟩ := hrel.ex
  have h2 := hs t
  rw [h, RV.val_iff] at h2
  refine h1 a w ⟨⟨E, hok, hle0, fun u => ?_⟩, hrel.size, hrel.defs⟩
  by_cases hu : u = t
  · subst hu
    show RV E w (upd st.s u _ u) _
    rw [upd_same, h2]
    exact .pure _ _ (.data _ _ (.list sz [] .no A k 0 0 (fun _ => .bool true) (Nat.zero_le _) (fun h => absurd rfl h) (by simp) (by simp [flat]) (by simp [flat]) (.inl rfl)))
  · show RV E w (upd st.s t _ u) _
    rw [upd_ne _ _ hu]
    exact hs u

/-- A scope with one label: what is shown of the code behind the label serves the first entry, too. -/
theorem AWp.scopeJ {st : St} {c rest : Code} (l : Nat) (J : Nat → St → Prop) (hf : findLabel c l = some (.seq .skip rest))
    (pass : ∀ n st, J n st → AWp P base w0 rest (fun e st' => match e with | .goto l' => l' = l ∧ ∃ m, m < n ∧ J m st' | e => Q e st') st)
    (first : (∀ n st, J n st → AWp P base w0 rest (fun e st' => match e with | .goto l' => l' = l ∧ ∃ n, J n st' | e => Q e st') st) → AWp P base w0 c (fun e st' => match e with | .goto l' => l' = l ∧ ∃ n, J n st' | e => Q e st') st) : AWp P base w0 (.scope c) Q st := by
  refine AWp.scope l J hf (first fun n st h => (pass n st h).mono fun e st' h => ?_) (fun n st h => AWp.seq (AWp.skip (pass n st h)))
  cases e with
  | goto l' => obtain ⟨h1, m, _, h2⟩ := h; exact ⟨h1, m, h2⟩
  | _ => exact h

/-- A call whose result is data. -/
theorem WL.c {o : Oper} {rest : List Oper} {i t : Nat} {c : Call} {g : FuncId} {caps args : List AV} {r : AV} (hop : o.op = .call c) (hd : o.dst = some t) (hn : decide (t < n) = true) (hw : awanted ops o ⟨n, d, s, B, L⟩ = some true)
    (hc : calleeOf ⟨n, d, s, B, L⟩ c = some (g, caps)) (ha : argsOf ⟨n, d, s, B, L⟩ c caps = args) (hcall : ACall P g args r) (hr : callEff ⟨n, d, s, B, L⟩ (some t) r = ⟨r, none, []⟩)
    (h : WL P T ops rest (i + 1) ⟨n, d, upd s t r, B, L⟩ K) : WL P T ops (o :: rest) i ⟨n, d, s, B, L⟩ K :=
  WL.call hop (by simp only [dstOK, hd]; exact hn) hw hc ha hcall (by rw [hd, hr]; exact h)

/-- A call whose result is a list handed over for good. -/
theorem WL.f {o : Oper} {rest : List Oper} {i t : Nat} {c : Call} {g : FuncId} {caps args : List AV} {sz : Nat} {xs : List AV} (hop : o.op = .call c) (hd : o.dst = some t) (hn : decide (t < n) = true) (hw : awanted ops o ⟨n, d, s, B, L⟩ = some true)
    (hc : calleeOf ⟨n, d, s, B, L⟩ c = some (g, caps)) (ha : argsOf ⟨n, d, s, B, L⟩ c caps = args) (hcall : ACall P g args (.list sz xs fresh))
    (h : WL P T ops rest (i + 1) ⟨n, d, upd s t (.list sz xs (.key (d + t) (L (d + t) + 1))), B, bumpL [d + t] L⟩ K) : WL P T ops (o :: rest) i ⟨n, d, s, B, L⟩ K :=
  WL.call hop (by simp only [dstOK, hd]; exact hn) hw hc ha hcall (by rw [hd]; exact h)

/-- Tests of two numbers, as the walk spells them. -/
def ltI (a b : Int) : Bool := decide (a < b)
def leI (a b : Int) : Bool := decide (a ≤ b)
def eqI (a b : Int) : Bool := decide (a = b)
theorem ltI_t {a b : Int} (h : a < b) : ltI a b = true := decide_eq_true h
theorem ltI_f {a b : Int} (h : ¬ a < b) : ltI a b = false := decide_eq_false h
theorem leI_t {a b : Int} (h : a ≤ b) : leI a b = true := decide_eq_true h
theorem leI_f {a b : Int} (h : ¬ a ≤ b) : leI a b = false := decide_eq_false h
theorem eqI_t {a b : Int} (h : a = b) : eqI a b = true := decide_eq_true h
theorem eqI_f {a b : Int} (h : ¬ a = b) : eqI a b = false := decide_eq_false h
theorem eqI_len {α : Type} (l : List α) : eqI (l.length : Int) 0 = decide (l = []) := by cases l <;> simp [eqI] <;> omega

section ints
variable (t : TypeId) (x y : Operand) (k : IntKind) (a b : Int)
theorem abin_add : abin P .add t x y (.int k a) (.int k b) = some (.int k (k.wrap (a + b))) := by simp [abin, eqGuard, binOp, pureRun, Op.intArith, bind, Sem.bind, pure, ltI, leI, eqI]
theorem abin_sub : abin P .sub t x y (.int k a) (.int k b) = some (.int k (k.wrap (a - b))) := by simp [abin, eqGuard, binOp, pureRun, Op.intArith, bind, Sem.bind, pure, ltI, leI, eqI]
theorem abin_mul : abin P .mul t x y (.int k a) (.int k b) = some (.int k (k.wrap (a * b))) := by simp [abin, eqGuard, binOp, pureRun, Op.intArith, bind, Sem.bind, pure, ltI, leI, eqI]
theorem abin_lss : abin P .lss t x y (.int k a) (.int k b) = some (.bool (ltI a b)) := by simp [abin, eqGuard, binOp, pureRun, Op.intCmp, bind, Sem.bind, pure, ltI, leI, eqI]
theorem abin_leq : abin P .leq t x y (.int k a) (.int k b) = some (.bool (leI a b)) := by simp [abin, eqGuard, binOp, pureRun, Op.intCmp, bind, Sem.bind, pure, ltI, leI, eqI]
theorem abin_gtr : abin P .gtr t x y (.int k a) (.int k b) = some (.bool (ltI b a)) := by simp [abin, eqGuard, binOp, pureRun, Op.intCmp, bind, Sem.bind, pure, ltI, leI, eqI]
theorem abin_geq : abin P .geq t x y (.int k a) (.int k b) = some (.bool (leI b a)) := by simp [abin, eqGuard, binOp, pureRun, Op.intCmp, bind, Sem.bind, pure, ltI, leI, eqI]
theorem abin_eql : abin P .eql t x y (.int k a) (.int k b) = some (.bool (eqI a b)) := by
  have : (a == b) = decide (a = b) := by by_cases h : a = b <;> simp [h]
  simp [abin, eqGuard, binOp, pureRun, Op.intCmp, bind, Sem.bind, pure, this, ltI, leI, eqI]
theorem abin_neq : abin P .neq t x y (.int k a) (.int k b) = some (.bool (!eqI a b)) := by
  have : (a != b) = !decide (a = b) := by by_cases h : a = b <;> simp [h, bne]
  simp [abin, eqGuard, binOp, pureRun, Op.intCmp, bind, Sem.bind, pure, this, ltI, leI, eqI]
end ints
/-- An append to a list that is the frame's own. -/
theorem aappend_acc {t e : TypeId} {i ei : TInfo} (hT : T.get t = some i) (he : i.elem = some e) (hE : T.get e = some ei) {st : St} {v : AV} {xs : List AV} (hv : Acc st.L v ei.sz xs) {sy : Nat} {ys : List AV} {oy : Own} (hy : sy = ei.sz ∨ ys = [])
    (hb : (xs.length + ys.length) * ei.bytes ≤ 140737488355328) (hp : 0 < ei.bytes) (key : Nat) :
    ∃ ks, aappend T st t key v (.list sy ys oy) = some { v := .list ei.sz (xs ++ ys) (.key key (bumpL ks st.L key)), bump := ks } := by
  obtain ⟨o, sx, rfl, h⟩ := hv
  have hsx : sx = ei.sz ∨ xs.isEmpty = true := by
    rcases h with ⟨_, h | h⟩ | ⟨k, _, h⟩
    · right; simp [h]
    · exact .inl h
    · exact .inl h
  have hsy : sy = ei.sz ∨ ys.isEmpty = true := hy.imp id (by simp)
  unfold aappend
  simp only [hT, Option.bind_some, he, hE]
  rw [if_pos ⟨hsx, hsy, hb, hp⟩]
  rcases h with ⟨rfl, _⟩ | ⟨k, rfl, h⟩
  · exact ⟨_, rfl⟩
  · simp only [true_and, h, if_true]
    exact ⟨_, rfl⟩

theorem WL.acc {o : Oper} {rest : List Oper} {i t : Nat} {c : Call} {x y : Operand} {tt e : TypeId} {ti ei : TInfo} {xs ys : List AV} {sy : Nat} {oy : Own} (hop : o.op = .call c) (hc : c.callee = .builtin .append) (hargs : c.args = #[x, y]) (htys : c.argTypes = #[tt, tt])
    (hd : o.dst = some t) (hn : decide (t < n) = true) (hw : awanted ops o ⟨n, d, s, B, L⟩ = some true) (hT : T.get tt = some ti) (he : ti.elem = some e) (hE : T.get e = some ei)
    (hx : Acc L (evalA ⟨n, d, s, B, L⟩ x) ei.sz xs) (hy : evalA ⟨n, d, s, B, L⟩ y = .list sy ys oy) (hsy : sy = ei.sz ∨ ys = []) (hb : (xs.length + ys.length) * ei.bytes ≤ 140737488355328) (hp : 0 < ei.bytes)
    (h : ∀ v L', Acc L' v ei.sz (xs ++ ys) → WL P T ops rest (i + 1) ⟨n, d, upd s t v, B, L'⟩ K) : WL P T ops (o :: rest) i ⟨n, d, s, B, L⟩ K := by
  obtain ⟨ks, hk⟩ := aappend_acc (T := T) hT he hE (st := ⟨n, d, s, B, L⟩) hx (oy := oy) hsy hb hp (d + t)
  refine WL.exec (e := { v := .list ei.sz (xs ++ ys) (.key (d + t) (bumpL ks L (d + t))), bump := ks }) (by simp only [dstOK, hd]; exact hn) hw ?_ ?_
  · obtain ⟨dst, op, ty, pos, after, guard⟩ := o
    obtain ⟨callee, args, argTypes⟩ := c
    simp only at hop hc hargs htys hd
    subst hop; subst hc; subst hargs; subst htys; subst hd
    simp only [aexec, acallB, Option.bind_some, if_true, hy]
    exact hk
  · rw [hd]
    exact h _ _ ⟨_, _, rfl, .inr ⟨d + t, rfl, rfl⟩⟩

theorem pureRun_bind {α β : Type} (s : Sem α) (f : α → Sem β) : pureRun P (s >>= f) = (pureRun P s).bind fun a => pureRun P (f a) := by
  show pureRun P (Sem.bind s f) = _
  induction s with
  | pure a => rfl
  | program k ih => simpa only [Sem.bind, pureRun] using ih P
  | _ => simp [Sem.bind, pureRun]
theorem pureRun_pure {α : Type} (a : α) : pureRun P (pure a : Sem α) = some a := rfl
theorem pureRun_underlying {t : TypeId} {d : TypeDesc} (h : P.underlying t = some d) : pureRun P (underlying t) = some d := by
  unfold underlying
  rw [pureRun_bind]
  have : pureRun P program = some P := rfl
  rw [this]
  simp only [Option.bind_some, h]
  rfl
theorem pureRun_equal_bool (d : Nat) (t : TypeId) (a b : Bool) (h : P.underlying t = some .bool) : pureRun P (Op.equalIn (d + 1) t (.bool a) (.bool b)) = some (a == b) := by
  unfold Op.equalIn
  rw [pureRun_bind, pureRun_underlying h]
  rfl
theorem abin_eqb (t : TypeId) (x y : Operand) (a b : Bool) (ht : P.underlying t = some .bool) : abin P .eql t x y (.bool a) (.bool b) = some (.bool (a == b)) := by
  have h1 : (Op.equal t (.bool a) (.bool b)) = Op.equalIn (9999 + 1) t (.bool a) (.bool b) := rfl
  have h2 : (do eqGuard .eql t x y (.bool a) (.bool b); binOp .eql t (.bool a) (.bool b) : Sem Value) = (do pure (.bool (← Op.equal t (.bool a) (.bool b)))) := rfl
  unfold abin
  rw [h2, h1, pureRun_bind, pureRun_equal_bool _ _ _ _ ht]
  rfl
theorem aconv_int {s d : TypeId} {ts : TypeDesc} {k k' : IntKind} {a : Int} (hs : P.underlying s = some ts) (hd : P.underlying d = some (.int k')) : aconv P s d (.int k a) = some (.int k' (k'.wrap a)) := by
  unfold aconv convert
  rw [pureRun_bind, pureRun_underlying hs]
  simp only [Option.bind_some]
  rw [pureRun_bind, pureRun_underlying hd]
  cases ts <;> rfl
theorem abin_or (t : TypeId) (x y : Operand) (k : IntKind) (a b : Int) : abin P .or t x y (.int k a) (.int k b) = some (.int k (k.wrap (BitVec.ofInt k.bits a ||| BitVec.ofInt k.bits b).toNat)) := by simp [abin, eqGuard, binOp, pureRun, Op.intBits, bind, Sem.bind, pure]
theorem abin_shl (t : TypeId) (x y : Operand) (k k' : IntKind) (a b : Int) (h : ¬ b < 0) : abin P .shl t x y (.int k a) (.int k' b) = some (.int k (k.wrap (a * 2 ^ (min b.toNat k.bits)))) := by simp [abin, eqGuard, binOp, pureRun, Op.shift, bind, Sem.bind, pure, h]
theorem abin_shr (t : TypeId) (x y : Operand) (k k' : IntKind) (a b : Int) (h : ¬ b < 0) : abin P .shr t x y (.int k a) (.int k' b) = some (.int k (a.fdiv (2 ^ (min b.toNat k.bits)))) := by simp [abin, eqGuard, binOp, pureRun, Op.shift, bind, Sem.bind, pure, h]
theorem aun_not (b : Bool) : aun P .not (.bool b) = some (.bool !b) := rfl
end

end Go.Proofs.YtkmdeahnkfdhjaaW.E
