/-
  The fast executor for this program: its tables hold; walk.Reach is told by entries. No condition.
-/
import Derived.Test.YtmnpjaglgalobaaGreatEKM
namespace Go.Proofs.YtmnpjaglgalobaaGreat.Km
open Go Go.RowKit Go.Proofs.YtmnpjaglgalobaaGreat.K Go.Proofs.YtmnpjaglgalobaaGreatW.C Go.Proofs.YtmnpjaglgalobaaGreatW.D
set_option linter.unusedVariables false
set_option maxRecDepth 100000
noncomputable def hk (g : FuncId) : Option HK := Bool.rec (motive := fun _ => Option HK) none (some (hookE es)) (Nat.beq g 97)
theorem hk_ok : ∀ g h, hk g = some h → ∀ vs B nk k, h vs B nk k = .yes → ∃ r B' nk', k r B' nk' = .yes ∧ Lat B B' nk nk' ∧ CallTo Tryz.prog (tabOf L) g vs (entB B) fun r' B'' => r' = r ∧ B'' = entB B' := by
  intro g h hg
  unfold hk at hg
  cases hb : Nat.beq g 97 with
  | false => rw [hb] at hg; cases hg
  | true =>
    rw [hb] at hg
    have := Nat.eq_of_beq_eq_true hb
    subst this
    cases hg
    exact hookE_ok (mkRows_ok _ _ h1) Tryz.func97 (by kernel_rfl) (by kernel_rfl) (t2 := 2) (by kernel_rfl) (of_decide_eq_true (by kernel_rfl)) fuelR es es_ok
theorem pk : PK Tryz.prog (tabOf L) TT DT hk := pk_of h1 h2 h3 h4 h5 h6 hk_ok
noncomputable def isT (v : CV) : Rs := Option.rec (motive := fun _ => Rs) .fail (fun b => Bool.rec (motive := fun _ => Rs) .fail .yes b) (boolOf v)
theorem isT_ok : ∀ (r : CV) (B : TB) (nk : Nat), (fun v _ _ => isT v : CV → TB → Nat → Rs) r B nk = .yes → r = .val (.bool true) := by
  intro r B nk h
  have h : isT r = .yes := h
  unfold isT at h
  cases hb : boolOf r with
  | none => rw [hb] at h; cases h
  | some b =>
    rw [hb] at h
    cases b with
    | false => cases h
    | true => exact boolOf_ok hb
noncomputable def run (g : FuncId) (args : List CV) : Rs := runF Tryz.prog (tabOf L) TT DT hk 100 g args .lf 0 fun v _ _ => isT v
theorem run_ok {g : FuncId} {args : List CV} {vs : Array Value} {w : World} (h : run g args = .yes) (hl : args.length = vs.size)
    (ha : ∀ (i : Nat) a v, args[i]? = some a → vs[i]? = some v → RV (env0 ⟨0, 0, 0, 0⟩) a v) : Calls Tryz.prog g vs w fun e w' => e = .returned (.bool true) ∧ Below w.heap.size w w' := by
  unfold run at h
  exact calls_run pk isT_ok h hl ha
theorem w8 {x : Int} (h : (Lit.int .u8 x).wf = true) : 0 ≤ x ∧ x < 256 := by simp [Lit.wf, IntKind.min, IntKind.max, IntKind.bits, IntKind.signed] at h; omega
theorem rv_u8 {E : Env} (m : Nat) (hm : m < 1000) {x : Int} (h0 : 0 ≤ x) (h1 : x < 256) : RV E (.res .u8 m (x.toNat % m)) (.int .u8 x) := by
  have := RV.res (E := E) .u8 m (x.toNat % m) _ (resOK_lt hm rfl (show x.toNat < 256 by omega))
  rwa [show ((x.toNat : Nat) : Int) = x by omega] at this
end Go.Proofs.YtmnpjaglgalobaaGreat.Km
