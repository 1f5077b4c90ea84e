/-
  Regions whose order is open, in which calls, loads, stores and allocs name boxes that are said ahead. Laws over any program; no condition.
-/
import Derived.Test.YtkmdeahnkfdhjaaE15
namespace Go.Proofs.YtkmdeahnkfdhjaaW.E
open Go Go.RowKit
set_option linter.unusedVariables false
set_option linter.unusedSimpArgs false

section
variable {P : Program} {base : Nat} {w0 : Entry} {T : Tab} {ops : Array Oper} {st : St} {K : St → Prop} {Q : Exit → St → Prop}

theorem keyB_none (ops : Array Oper) (o : Oper) (st : St) : keyB ops o st none = true := rfl
abbrev keysOf (ks : List (Option Nat)) : Keys := fun j => ((ks[j]?).getD none).map some
/-- The operations from the i-th on, in the text's order, each with the box it names. -/
def WJ (P : Program) (T : Tab) (ops : Array Oper) (ks : List (Option Nat)) (rest : List (Oper × Option Nat)) (i : Nat) (st : St) (K : St → Prop) : Prop :=
  rest = (ops.toList.zip ks).drop i → ∃ st', DRun P T ops (keysOf ks) (List.range' i rest.length) st st' ∧ K st'

variable {ks : List (Option Nat)}
theorem WJ.nil {i : Nat} (h : K st) : WJ P T ops ks [] i st K := fun _ => ⟨st, .nil st, h⟩
theorem WJ.step {o : Oper} {k : Option Nat} {rest : List (Oper × Option Nat)} {i : Nat} {e : Eff} (hk : keyB ops o st k = true) (hn : dstOK o st.n = true) (he : Eff1 P T ops o st e) (h : WJ P T ops ks rest (i + 1) (st.app o.dst e) K) : WJ P T ops ks ((o, k) :: rest) i st K := fun hr => by
  have h1 : rest = (ops.toList.zip ks).drop (i + 1) := by rw [← List.drop_drop, ← hr]; rfl
  have h2 : (ops.toList.zip ks)[i]? = some (o, k) := by
    have : ((ops.toList.zip ks).drop i)[0]? = some (o, k) := by rw [← hr]; rfl
    simpa using this
  obtain ⟨h2a, h2b⟩ : ops[i]? = some o ∧ ks[i]? = some k := by
    rw [List.getElem?_zip_eq_some] at h2
    simpa using h2
  obtain ⟨st', h3, h4⟩ := h h1
  refine ⟨st', .cons i _ st _ st' ⟨o, e, h2a, hn, .inl he, rfl, fun k' hk' ha => ?_⟩ h3, h4⟩
  have e1 : k = some k' := by simpa [keysOf, h2b] using hk'
  subst e1
  simp only [keyB, ha] at hk
  exact hk
theorem WJ.one {o : Oper} {k : Option Nat} {rest : List (Oper × Option Nat)} {i : Nat} {st2 : St} (h1 : stepL P T ops o st = some st2) (hk : keyB ops o st k = true) (h : WJ P T ops ks rest (i + 1) st2 K) : WJ P T ops ks ((o, k) :: rest) i st K := by
  unfold stepL at h1
  split at h1
  · rename_i hn
    split at h1
    · rename_i hw
      obtain ⟨e, he, rfl⟩ := Option.map_eq_some_iff.1 h1
      exact WJ.step hk hn (.inr ⟨hw, .inl he⟩) h
    · rename_i hw
      cases h1
      exact WJ.step hk hn (.inl ⟨hw, rfl⟩) h
    · cases h1
  · cases h1
theorem WJ.c {n d : Nat} {s : Nat → AV} {B : Nat → Nat × List AV} {L : Nat → Nat} {o : Oper} {k : Option Nat} {rest : List (Oper × Option Nat)} {i t : Nat} {c : Call} {g : FuncId} {caps args : List AV} {r : AV} (hop : o.op = .call c) (hd : o.dst = some t) (hn : decide (t < n) = true) (hw : awanted ops o ⟨n, d, s, B, L⟩ = some true)
    (hc : calleeOf ⟨n, d, s, B, L⟩ c = some (g, caps)) (ha : argsOf ⟨n, d, s, B, L⟩ c caps = args) (hcall : ACall P g args r) (hr : callEff ⟨n, d, s, B, L⟩ (some t) r = ⟨r, none, []⟩) (hk : keyB ops o ⟨n, d, s, B, L⟩ k = true)
    (h : WJ P T ops ks rest (i + 1) ⟨n, d, upd s t r, B, L⟩ K) : WJ P T ops ks ((o, k) :: rest) i ⟨n, d, s, B, L⟩ K :=
  WJ.step hk (by simp only [dstOK, hd]; exact hn) (.inr ⟨hw, .inr ⟨c, g, caps, r, hop, hc, ha ▸ hcall, rfl⟩⟩) (by rw [hd, hr]; exact h)
theorem AWp.drawnJ {id : Nat} (ks : List (Option Nat)) (hT : T.OK P) (hm : P.follows .mixedOrders = true) (hord : orderOK ops (keysOf ks) (Region.before ops).toList = true) {zs : List (Oper × Option Nat)} (hz : ops.toList.zip ks = zs) (hl : ops.size = zs.length)
    (h : WJ P T ops ks zs 0 st (Q .normal)) : AWp P base w0 (.region id ops true) Q st := by
  obtain ⟨st', h1, h2⟩ := h (by rw [hz]; rfl)
  refine AWp.drawn hT hm hord (κ := keysOf ks) ?_ h2
  rw [List.range_eq_range', hl]
  exact h1
end
end Go.Proofs.YtkmdeahnkfdhjaaW.E
