/-
  The walk over a body in abstract values, step by step. Laws over any program; no condition.
-/
import Derived.Test.YtkmdeahnkfdhjaaE13
namespace Go.Proofs.YtkmdeahnkfdhjaaW.E
open Go Go.RowKit
set_option linter.unusedVariables false
set_option linter.unusedSimpArgs false

theorem upd_app {α : Type} (f : Nat → α) (k : Nat) (v : α) (i : Nat) : upd f k v i = if i = k then v else f i := rfl

section
variable {P : Program} {base : Nat} {w0 : Entry} {T : Tab} {ops : Array Oper} {st : St} {K : St → Prop} {Q : Exit → St → Prop}

/-- One operation and more, no Go function called. -/
def stepL (P : Program) (T : Tab) (ops : Array Oper) (o : Oper) (st : St) : Option St :=
  if dstOK o st.n = true then
    match awanted ops o st with
    | some true => (aexec P T st o).map fun e => st.app o.dst e
    | some false => some (st.app o.dst { v := .val undef })
    | none => none
  else none

def runL (P : Program) (T : Tab) (ops : Array Oper) : List Oper → Option St → Option St
  | _, none => none
  | [], some st => some st
  | o :: os, some st => runL P T ops os (stepL P T ops o st)
theorem runL_nil (P : Program) (T : Tab) (ops : Array Oper) (st : St) : runL P T ops [] (some st) = some st := rfl
theorem runL_cons (P : Program) (T : Tab) (ops : Array Oper) (o : Oper) (os : List Oper) (st : St) : runL P T ops (o :: os) (some st) = runL P T ops os (stepL P T ops o st) := rfl
theorem runL_none (P : Program) (T : Tab) (ops : Array Oper) : ∀ os, runL P T ops os none = none
  | [] => rfl
  | _ :: _ => rfl

/-- The operations from the i-th on, in the text's order. -/
def WL (P : Program) (T : Tab) (ops : Array Oper) (rest : List Oper) (i : Nat) (st : St) (K : St → Prop) : Prop :=
  rest = ops.toList.drop i → ∃ st', DRun P T ops noK (List.range' i rest.length) st st' ∧ K st'

theorem WL.nil {i : Nat} (h : K st) : WL P T ops [] i st K := fun _ => ⟨st, .nil st, h⟩

theorem WL.step {o : Oper} {rest : List Oper} {i : Nat} {e : Eff} (hn : dstOK o st.n = true) (he : Eff1 P T ops o st e) (h : WL P T ops rest (i + 1) (st.app o.dst e) K) : WL P T ops (o :: rest) i st K := fun hr => by
  have h1 : ops.toList.drop (i + 1) = rest := by rw [← List.drop_drop, ← hr]; rfl
  have h2 : ops[i]? = some o := by
    have : (ops.toList.drop i)[0]? = some o := by rw [← hr]; rfl
    simpa using this
  obtain ⟨st', h3, h4⟩ := h h1.symm
  exact ⟨st', .cons i _ st _ st' ⟨o, e, h2, hn, .inl he, rfl, .no⟩ h3, h4⟩

theorem WL.exec {o : Oper} {rest : List Oper} {i : Nat} {e : Eff} (hn : dstOK o st.n = true) (hw : awanted ops o st = some true) (he : aexec P T st o = some e) (h : WL P T ops rest (i + 1) (st.app o.dst e) K) : WL P T ops (o :: rest) i st K :=
  WL.step hn (.inr ⟨hw, .inl he⟩) h

theorem WL.skip {o : Oper} {rest : List Oper} {i : Nat} (hn : dstOK o st.n = true) (hw : awanted ops o st = some false) (h : WL P T ops rest (i + 1) (st.app o.dst { v := .val undef }) K) : WL P T ops (o :: rest) i st K :=
  WL.step hn (.inl ⟨hw, rfl⟩) h

theorem WL.call {o : Oper} {rest : List Oper} {i : Nat} {c : Call} {g : FuncId} {caps args : List AV} {r : AV} (hop : o.op = .call c) (hn : dstOK o st.n = true) (hw : awanted ops o st = some true) (hc : calleeOf st c = some (g, caps))
    (ha : argsOf st c caps = args) (hcall : ACall P g args r) (h : WL P T ops rest (i + 1) (st.app o.dst (callEff st o.dst r)) K) : WL P T ops (o :: rest) i st K :=
  WL.step hn (.inr ⟨hw, .inr ⟨c, g, caps, r, hop, hc, ha ▸ hcall, rfl⟩⟩) h

/-- Some operations at once. -/
theorem WL.seg {st2 : St} : ∀ (pre : List Oper) {rest : List Oper} {i : Nat} {st : St}, runL P T ops pre (some st) = some st2 → WL P T ops rest (i + pre.length) st2 K → WL P T ops (pre ++ rest) i st K
  | [], rest, i, st, h, k => by
    simp only [runL, Option.some.injEq] at h
    subst h
    exact k
  | o :: pre, rest, i, st, h, k => by
    rw [runL_cons] at h
    obtain ⟨st1, h1, h2⟩ : ∃ st1, stepL P T ops o st = some st1 ∧ runL P T ops pre (some st1) = some st2 := by
      cases h1 : stepL P T ops o st with
      | none => rw [h1, runL_none] at h; cases h
      | some st1 => rw [h1] at h; exact ⟨st1, rfl, h⟩
    have hk : WL P T ops (pre ++ rest) (i + 1) st1 K := WL.seg pre h2 (by rw [List.length_cons] at k; rwa [show i + 1 + pre.length = i + (pre.length + 1) by omega])
    unfold stepL at h1
    split at h1
    · rename_i hn
      split at h1
      · rename_i hw
        obtain ⟨e, he, rfl⟩ := Option.map_eq_some_iff.1 h1
        exact WL.exec hn hw he hk
      · rename_i hw
        cases h1
        exact WL.skip hn hw hk
      · cases h1
    · cases h1

/-- All that is left. -/
theorem WL.all {st2 : St} {rest : List Oper} {i : Nat} (h : runL P T ops rest (some st) = some st2) (k : K st2) : WL P T ops rest i st K := by
  have := WL.seg (K := K) rest (rest := []) (i := i) h (WL.nil k)
  rwa [List.append_nil] at this

/-- The next m. -/
theorem WL.next {st2 : St} {rest : List Oper} {i : Nat} (m : Nat) {pre post : List Oper} (hp : rest.take m = pre) (hq : rest.drop m = post) (h : runL P T ops pre (some st) = some st2) (k : WL P T ops post (i + pre.length) st2 K) : WL P T ops rest i st K := by
  have := WL.seg (K := K) pre (rest := post) (i := i) h k
  rwa [← hp, ← hq, List.take_append_drop] at this

theorem WL.run {rest : List Oper} (hr : ops.toList = rest) (h : WL P T ops rest 0 st K) : ∃ st', DRun P T ops noK (List.range ops.size) st st' ∧ K st' := by
  obtain ⟨st', h1, h2⟩ := h (by rw [hr]; rfl)
  refine ⟨st', ?_, h2⟩
  rw [List.range_eq_range']
  have : ops.size = rest.length := by rw [← hr]; simp
  rw [this]; exact h1

theorem AWp.regionW {id : Nat} (hT : T.OK P) {rest : List Oper} (hr : ops.toList = rest) (h : WL P T ops rest 0 st (Q .normal)) : AWp P base w0 (.region id ops false) Q st := by
  obtain ⟨st', h1, h2⟩ := h.run hr
  exact AWp.region hT h1 h2

theorem AWp.drawnW {id : Nat} (hT : T.OK P) (hm : P.follows .mixedOrders = true) (hord : orderOK ops noK (Region.before ops).toList = true) {rest : List Oper} (hr : ops.toList = rest) (h : WL P T ops rest 0 st (Q .normal)) : AWp P base w0 (.region id ops true) Q st := by
  obtain ⟨st', h1, h2⟩ := h.run hr
  exact AWp.drawn hT hm hord h1 h2

/-- Operations in the text's order, of which some name boxes that are said ahead. -/
def keyB (ops : Array Oper) (o : Oper) (st : St) (k : Option Nat) : Bool := match k with
  | none => true
  | some k => (match awanted ops o st with | some true => keyFits st o k | _ => true)
def runK (P : Program) (T : Tab) (ops : Array Oper) : List (Oper × Option Nat) → Option St → Option St
  | _, none => none
  | [], some st => some st
  | (o, k) :: os, some st => if keyB ops o st k = true then runK P T ops os (stepL P T ops o st) else none
theorem runK_nil (P : Program) (T : Tab) (ops : Array Oper) (st : St) : runK P T ops [] (some st) = some st := rfl
theorem runK_cons (P : Program) (T : Tab) (ops : Array Oper) (o : Oper) (k : Option Nat) (os : List (Oper × Option Nat)) (st : St) : runK P T ops ((o, k) :: os) (some st) = if keyB ops o st k = true then runK P T ops os (stepL P T ops o st) else none := rfl
theorem runK_none (P : Program) (T : Tab) (ops : Array Oper) : ∀ os, runK P T ops os none = none
  | [] => rfl
  | (_, _) :: _ => rfl
theorem runK_run {ks : List (Option Nat)} : ∀ (os : List Oper) (i : Nat) (st st' : St), os = ops.toList.drop i → runK P T ops (os.zip (ks.drop i)) (some st) = some st' → i + os.length ≤ ks.length →
    DRun P T ops (fun j => ((ks[j]?).getD none).map some) (List.range' i os.length) st st'
  | [], i, st, st', _, h, _ => by
    simp only [List.zip_nil_left, runK_nil, Option.some.injEq] at h
    subst h
    exact .nil _
  | o :: os, i, st, st', hr, h, hl => by
    simp only [List.length_cons] at hl
    have h1 : os = ops.toList.drop (i + 1) := by rw [← List.drop_drop, ← hr]; rfl
    have h2 : ops[i]? = some o := by
      have : (ops.toList.drop i)[0]? = some o := by rw [← hr]; rfl
      simpa using this
    rw [List.drop_eq_getElem_cons (show i < ks.length by omega), List.zip_cons_cons, runK_cons] at h
    split at h
    · rename_i hk
      cases h3 : stepL P T ops o st with
      | none => rw [h3, runK_none] at h; cases h
      | some st1 =>
        rw [h3] at h
        have ih := runK_run os (i + 1) st1 st' h1 h (by omega)
        have hkey : KeyOK ops (fun j => ((ks[j]?).getD none).map some) st i o := fun k hk' ha => by
          have e : ks[i]'(by omega) = some k := by simpa [List.getElem?_eq_getElem (show i < ks.length by omega)] using hk'
          rw [e] at hk
          simp only [keyB, ha] at hk
          exact hk
        unfold stepL at h3
        split at h3
        · rename_i hn
          split at h3
          · rename_i hw
            obtain ⟨e, he, rfl⟩ := Option.map_eq_some_iff.1 h3
            exact .cons i _ st _ st' ⟨o, e, h2, hn, .inl (.inr ⟨hw, .inl he⟩), rfl, hkey⟩ ih
          · rename_i hw
            cases h3
            exact .cons i _ st _ st' ⟨o, _, h2, hn, .inl (.inl ⟨hw, rfl⟩), rfl, hkey⟩ ih
          · cases h3
        · cases h3
    · cases h
theorem AWp.drawnK {id : Nat} (ks : List (Option Nat)) (hT : T.OK P) (hm : P.follows .mixedOrders = true) (hord : orderOK ops (fun j => ((ks[j]?).getD none).map some) (Region.before ops).toList = true) {zs : List (Oper × Option Nat)} (hz : ops.toList.zip ks = zs) (hl : ops.size ≤ ks.length) {st' : St}
    (h : runK P T ops zs (some st) = some st') (hq : Q .normal st') : AWp P base w0 (.region id ops true) Q st := by
  refine AWp.drawn hT hm hord (κ := fun j => ((ks[j]?).getD none).map some) ?_ hq
  have := runK_run (P := P) (T := T) (ops := ops) (ks := ks) ops.toList 0 st st' (by simp) (by rw [List.drop_zero, hz]; exact h) (by simpa using hl)
  rw [List.range_eq_range']
  simpa using this

theorem DRun.append {κ : Keys} : ∀ {l1 l2 : List Nat} {st st1 st2 : St}, DRun P T ops κ l1 st st1 → DRun P T ops κ l2 st1 st2 → DRun P T ops κ (l1 ++ l2) st st2
  | [], l2, st, st1, st2, h, k => by cases h; exact k
  | i :: l1, l2, st, st1, st2, h, k => by
    cases h with
    | cons _ _ _ st' _ h1 h2 => exact .cons i _ st st' st2 h1 (DRun.append h2 k)
theorem runL_run {κ : Keys} : ∀ (os rest : List Oper) (i : Nat) (st st' : St), os ++ rest = ops.toList.drop i → runL P T ops os (some st) = some st' → (∀ j, i ≤ j → j < i + os.length → κ j = none) → DRun P T ops κ (List.range' i os.length) st st'
  | [], rest, i, st, st', _, h, _ => by
    simp only [runL, Option.some.injEq] at h
    subst h
    exact .nil _
  | o :: os, rest, i, st, st', hr, h, hk => by
    simp only [List.length_cons] at hk
    have h1 : os ++ rest = ops.toList.drop (i + 1) := by rw [← List.drop_drop, ← hr]; rfl
    have h2 : ops[i]? = some o := by
      have : (ops.toList.drop i)[0]? = some o := by rw [← hr]; rfl
      simpa using this
    rw [runL_cons] at h
    cases h3 : stepL P T ops o st with
    | none => rw [h3, runL_none] at h; cases h
    | some st1 =>
      rw [h3] at h
      have ih := runL_run (κ := κ) os rest (i + 1) st1 st' h1 h (fun j h4 h5 => hk j (by omega) (by omega))
      have hkey : KeyOK ops κ st i o := fun k hk' => by rw [hk i (by omega) (by omega)] at hk'; cases hk'
      unfold stepL at h3
      split at h3
      · rename_i hn
        split at h3
        · rename_i hw
          obtain ⟨e, he, rfl⟩ := Option.map_eq_some_iff.1 h3
          exact .cons i _ st _ st' ⟨o, e, h2, hn, .inl (.inr ⟨hw, .inl he⟩), rfl, hkey⟩ ih
        · rename_i hw
          cases h3
          exact .cons i _ st _ st' ⟨o, _, h2, hn, .inl (.inl ⟨hw, rfl⟩), rfl, hkey⟩ ih
        · cases h3
      · cases h3
/-- A region whose order is open, in which one operation that has its place writes to a slice. -/
theorem AWp.drawnX {id : Nat} (p : Nat) {pre post : List Oper} {o : Oper} {e : Eff} {st1 st2 : St} (hT : T.OK P) (hm : P.follows .mixedOrders = true) (hord : orderOK ops (fun j => if j = p then some none else none) (Region.before ops).toList = true)
    (hp1 : ops.toList.take p = pre) (hp2 : ops.toList.drop p = o :: post) (hpl : pre.length = p) (h1 : runL P T ops pre (some st) = some st1) (hn : dstOK o st1.n = true) (hw : awanted ops o st1 = some true) (hx : xexec T st1 o = some e)
    (h2 : runL P T ops post (some (st1.app o.dst e)) = some st2) (hq : Q .normal st2) : AWp P base w0 (.region id ops true) Q st := by
  refine AWp.drawn hT hm hord (κ := fun j => if j = p then some none else none) ?_ hq
  have hi : ops[p]? = some o := by
    have : (ops.toList.drop p)[0]? = some o := by rw [hp2]; rfl
    simpa using this
  have hps : post = ops.toList.drop (p + 1) := by rw [← List.drop_drop, hp2]; rfl
  have hsz : ops.size = p + (post.length + 1) := by
    have := congrArg List.length hp2
    rw [List.length_drop, List.length_cons, Array.length_toList] at this
    have h3 := congrArg List.length hp1
    rw [List.length_take, hpl, Array.length_toList] at h3
    omega
  have r1 := runL_run (P := P) (T := T) (ops := ops) (κ := fun j => if j = p then some none else none) pre (o :: post) 0 st st1 (by rw [List.drop_zero, ← hp1, ← hp2, List.take_append_drop]) h1 (fun j _ hj => if_neg (by omega))
  have r2 := runL_run (P := P) (T := T) (ops := ops) (κ := fun j => if j = p then some none else none) post [] (p + 1) (st1.app o.dst e) st2 (by rw [List.append_nil]; exact hps) h2 (fun j hj _ => if_neg (by omega))
  have hk : KeyOK ops (fun j => if j = p then some none else none) st1 p o := fun k hk => by simp at hk
  have := DRun.append r1 (.cons p _ st1 _ st2 ⟨o, e, hi, hn, .inr (.inl ⟨if_pos rfl, hw, hx⟩), rfl, hk⟩ r2)
  rw [List.range_eq_range', hsz]
  rw [hpl] at this
  have e2 : List.range' 0 (p + (post.length + 1)) = List.range' 0 p ++ (p :: List.range' (p + 1) post.length) := by
    rw [← List.range'_append_1, Nat.zero_add, List.range'_succ]
  rw [e2]
  exact this
end

end Go.Proofs.YtkmdeahnkfdhjaaW.E
