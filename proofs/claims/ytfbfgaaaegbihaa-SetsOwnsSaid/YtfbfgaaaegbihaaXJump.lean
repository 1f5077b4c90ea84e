/-
  Laws for a scope in which the run jumps back to one label: what holds at the label, with a number that every pass lowers. No condition. (Own words of this claim; over any program.)
-/
import Derived.ScopeJumps
import Derived.WalkMore
import Derived.Deep.LoopGhost
import Derived.Lib.SliceRun
import Derived.Test.YtfbfgaaaegbihaaWWords
import Derived.Test.YtfbfgaaaegbihaaWLast
namespace Go.Proofs.YtfbfgaaaegbihaaW.PJ
open Go Go.Proofs.YtfbfgaaaegbihaaW.PrintWords

/-- 's == nil' of a slice. -/
theorem eql_nil {P : Program} (w : World) (t e : TypeId) (a : Option Addr) (n c : Nat) (h : P.underlying t = some (.slice e)) :
    (binOp .eql t (.slice a n c) (.slice none 0 0)).run P w = .ok (.bool a.isNone) w := Lib.run_eql_slice_nil w t e a n c 0 0 h
/-- A nil slice reads as nothing. -/
theorem nil_reads {α : Type} {d : Kd α} {w : World} {A : Option Addr} {n : Nat} {xs : List α} (hA : A.isNone = true) (h : d.C w A n xs) : xs = [] := by
  cases A with
  | some ad => simp at hA
  | none =>
    rcases Nat.eq_zero_or_pos n with h0 | h0
    · exact List.eq_nil_of_length_eq_zero (h.1.trans h0)
    · obtain ⟨ad, e, _⟩ := h.2.2 h0
      cases e

section
open Go.Proofs.YtfbfgaaaegbihaaW.PrintLast
variable {P : Program} {ops : Array Oper} {Q : Exit → Act → World → Prop}
/-- A call of a function that a local holds, in a region that draws: as 'goes_'. -/
theorem goesT_ {oi : Oper} {N : Option Tmp} {a : Act} {w : World} {K : Act → World → Prop} {f : FuncId} {fn : Func} {c : Operand} {as : Array Operand} {ts : Array TypeId} (hf : P.funcs[f]? = some fn) (hname : (fn.name == "runtime.NumGoroutine") = false) (hb : fn.body.isSome = true) (args : Array Value)
    (hw : Region.wanted oi (yielded ops a.tmps) = true) (hN : oi.dst = N) (hop : oi.op = .call { callee := .value c, args := as, argTypes := ts }) (hargs : as.map a.eval = args) (hc : a.eval c = a.eval (.func f))
    (h : Calls P f args w fun e w' => ∃ v, e = .returned v ∧ K (a.put N v) w') : if Region.wanted oi (yielded ops a.tmps) = true then Oper.wp P oi a w K Q else K (a.put N undef) w := by
  refine call_ f args hw hN ?_ h
  have he := enters_ hf hname hb args w
  unfold execOp
  have hc' : a.eval c = .func (.func f) #[] #[] := hc
  simp only [hop, resolve, hc']
  simp [Deferred.ofValue, invoke, hargs, he]
end

section
variable {P : Program} {a : Act} {w : World} {Q : Exit → Act → World → Prop} {c rest : Code} {l : Nat}

/-- From the label on, within the scope: an end that Q allows is come to. -/
def Back (P : Program) (Q : Exit → Act → World → Prop) (c rest : Code) (a : Act) (w : World) : Prop :=
  ∀ (b : Frame) (k : List Item) (cs : List Frame), ∃ e a' w', Q e a' w' ∧ Arrives P (lone (b.at a (.code rest :: .inScope c :: k)) cs w) b k cs e a' w'

theorem jump_ret {J : Act → World → Prop} : Exit.jump l J Q .ret a w = Q .ret a w := rfl
theorem jump_normal {J : Act → World → Prop} : Exit.jump l J Q .normal a w = Q .normal a w := rfl
theorem jump_panic {J : Act → World → Prop} (ch : List PanicEntry) : Exit.jump l J Q (.panic ch) a w = Q (.panic ch) a w := rfl
theorem jump_outgrown {J : Act → World → Prop} : Exit.jump l J Q .outgrown a w = Q .outgrown a w := rfl
theorem jump_goto {J : Act → World → Prop} (h : J a w) : Exit.jump l J Q (.goto l) a w := ⟨rfl, h⟩

theorem scope_back (l : Nat) (hf : findLabel c l = some rest) (first : c.wp P (Exit.jump l (Back P Q c rest) Q) a w) : (Code.scope c).wp P Q a w := by
  intro b k cs
  have hg : gotoIn l (.inScope c :: k) = some (.code rest :: .inScope c :: k) := by simp [gotoIn, hf]
  obtain ⟨e, a₁, w₁, hq, harr⟩ := first b (.inScope c :: k) cs
  cases e with
  | normal => exact ⟨.normal, a₁, w₁, hq, .head step_scope (Steps.trans harr (.one step_inScope))⟩
  | exit id => exact ⟨.exit id, a₁, w₁, hq, fun k' hk => .head step_scope (harr k' (by simp [exitTo, hk]))⟩
  | goto l' =>
    obtain ⟨rfl, hJ'⟩ := hq
    obtain ⟨e₂, a₂, w₂, hq₂, harr₂⟩ := hJ' b k cs
    exact ⟨e₂, a₂, w₂, hq₂, .of_steps (.head step_scope (harr _ hg)) harr₂⟩
  | ret => exact ⟨_, a₁, w₁, hq, .of_steps (.one step_scope) harr⟩
  | panic ch => exact ⟨_, a₁, w₁, hq, .of_steps (.one step_scope) harr⟩
  | outgrown => exact ⟨_, a₁, w₁, hq, .of_steps (.one step_scope) harr⟩

theorem back_of (l : Nat) (hf : findLabel c l = some rest) (I : Nat → Act → World → Prop)
    (pass : ∀ n a w, I n a w → rest.wp P (Exit.jump l (fun a' w' => ∃ n', n' < n ∧ I n' a' w') Q) a w) : ∀ n a w, I n a w → Back P Q c rest a w := by
  intro n
  induction n using Nat.strongRecOn with
  | _ n ih =>
    intro a w hI b k cs
    have hg : gotoIn l (.inScope c :: k) = some (.code rest :: .inScope c :: k) := by simp [gotoIn, hf]
    obtain ⟨e, a₁, w₁, hq, harr⟩ := pass n a w hI b (.inScope c :: k) cs
    cases e with
    | normal => exact ⟨.normal, a₁, w₁, hq, Steps.trans harr (.one step_inScope)⟩
    | exit id => exact ⟨.exit id, a₁, w₁, hq, fun k' hk => harr k' (by simp [exitTo, hk])⟩
    | goto l' =>
      obtain ⟨rfl, n', hlt, hI'⟩ := hq
      obtain ⟨e₂, a₂, w₂, hq₂, harr₂⟩ := ih n' hlt a₁ w₁ hI' b k cs
      exact ⟨e₂, a₂, w₂, hq₂, .of_steps (harr _ hg) harr₂⟩
    | ret => exact ⟨_, a₁, w₁, hq, harr⟩
    | panic ch => exact ⟨_, a₁, w₁, hq, harr⟩
    | outgrown => exact ⟨_, a₁, w₁, hq, harr⟩

/-- At the label: 'wp_loop_ghost_k' for a jump back. 'body' is what stands behind the label. -/
theorem label_ghost_k {body : Code} (l : Nat) (hf : findLabel c l = some (.seq .skip body)) (I : Nat → Act → World → Prop) (n₀ : Nat) (h₀ : I n₀ a w)
    (round : ∀ n a w, I n a w → ∀ (J : Nat → Act → World → Prop) (K : Act → World → Prop), (∀ k a' w', I k a' w' → J k a' w') → (∀ a' w', Handed J n a' w' → K a' w') → body.wp P (Exit.jump l K Q) a w) :
    body.wp P (Exit.jump l (Back P Q c (.seq .skip body)) Q) a w := by
  have key := back_of (P := P) (Q := Q) l hf I (fun n a w h => wp_seq (wp_skip (show Code.wp P body _ a w from round n a w h I (fun a' w' => ∃ n', n' < n ∧ I n' a' w') (fun _ _ _ q => q) (fun _ _ q => q))))
  exact round n₀ a w h₀ I (Back P Q c (.seq .skip body)) (fun _ _ _ q => q) (fun a' w' ⟨n', _, h'⟩ => key n' a' w' h')

end
end Go.Proofs.YtfbfgaaaegbihaaW.PJ
