/-
  Calls, in abstract values: what a function makes of values that it may only read; and how its body shows it. Laws over any program; no condition.
-/
import Derived.Test.YtkmdeahnkfdhjaaE8
namespace Go.Proofs.YtkmdeahnkfdhjaaW.E
open Go Go.RowKit
set_option linter.unusedVariables false
set_option linter.unusedSimpArgs false

def CellsOf (w : World) : Pl := fun b o => ∃ v, w.cell? ⟨b, o, none⟩ = some v

/-- Values as they are handed on: what is owned is not; boxes may only be read. -/
def frz (B : Nat → Nat × List AV) : Nat → AV → AV
  | _, .val v => .val v
  | _, .list sz xs o => .list sz xs (match o with | .full => .full | _ => .no)
  | _, .agg vs => .agg (vs.map AV.data0)
  | _, .pelt cs => .pelt cs
  | _, .tup vs => .tup vs
  | 0, _ => .any
  | n + 1, .ptr k g off => if (B k).1 = g ∧ (B k).2 ≠ [] then .pelt (((B k).2.drop off).map (frz B n)) else .any
  | n + 1, .fn f caps => .fn f (caps.map (frz B n))
  | _ + 1, .any => .any
  | _ + 1, .bsl _ _ _ _ _ => .any

section
variable {P : Program} {base : Nat} {w0 : Entry} {st : St} {o : Oper}

theorem frz_ok {E : Env} {B : Nat → Nat × List AV} {L : Nat → Nat} {w : World} (hok : OK base w0 E B L w) : ∀ (n : Nat) (a : AV) (v : Value), RV E w a v → RP E.S (CellsOf w) w (frz B n a) v := by
  have hF : ∀ b o, E.F b o → CellsOf w b o ∧ w.cell? ⟨b, o, none⟩ = w.cell? ⟨b, o, none⟩ := fun b o h => ⟨hok.fCell b o h, rfl⟩
  have hS : ∀ b o, E.S b o → E.S b o ∧ w.cell? ⟨b, o, none⟩ = w.cell? ⟨b, o, none⟩ := fun b o h => ⟨h, rfl⟩
  intro n
  induction n with
  | zero =>
    intro a v h
    cases a with
    | val u => rw [RV.val_iff] at h; subst h; exact .data _ _ (.val _)
    | list sz xs o =>
      cases o with
      | full => cases h with | pure _ _ h => exact h.mono hS hF
      | _ => exact .data _ _ h.list_no
    | agg vs => exact .data _ _ h.data
    | tup vs => cases h with | pure _ _ h => exact h.mono hS hF
    | pelt cs => cases h with | pure _ _ h => exact h.mono hS hF
    | _ => exact .data _ _ (.any v)
  | succ n ih =>
    intro a v h
    cases a with
    | val u => rw [RV.val_iff] at h; subst h; exact .data _ _ (.val _)
    | list sz xs o =>
      cases o with
      | full => cases h with | pure _ _ h => exact h.mono hS hF
      | _ => exact .data _ _ h.list_no
    | agg vs => exact .data _ _ h.data
    | tup vs => cases h with | pure _ _ h => exact h.mono hS hF
    | pelt cs => cases h with | pure _ _ h => exact h.mono hS hF
    | any => exact .data _ _ (.any v)
    | bsl => exact .data _ _ (.any v)
    | ptr k g off =>
      simp only [frz]
      split
      · rename_i hc
        cases h with
        | pure _ _ h => cases h with | data _ _ h => cases h
        | ptr _ _ _ b h1 h2 =>
          have hb : b = E.bm k := h2 (by rw [hok.G k]; exact hc.1.symm)
          subst hb
          obtain ⟨_, _, t, ccs, h3, h4, h5⟩ := hok.box k hc.2
          refine RP.pelt_iff.2 ⟨_, _, rfl, fun i y hy => ?_⟩
          simp only [List.getElem?_map, List.getElem?_drop, Option.map_eq_some_iff] at hy
          obtain ⟨y', hy', rfl⟩ := hy
          have hlt : off + i < ccs.size := by rw [h4]; exact (List.getElem?_eq_some_iff.1 hy').1
          obtain ⟨h6, h7⟩ := h5 (off + i) y' ccs[off + i] hy' (by simp [hlt])
          have hcell : w.cell? ⟨E.bm k, off + i, none⟩ = some ccs[off + i] := by simp [World.cell?, h3, hlt]
          exact ⟨⟨_, hcell⟩, _, hcell, h6, ih _ _ h7⟩
      · exact .data _ _ (.any _)
    | fn f caps =>
      simp only [frz]
      have key : ∃ vs : Array Value, v = .func (.func f) #[] vs ∧ caps.length = vs.size ∧ ∀ (i : Nat) c u, caps[i]? = some c → vs[i]? = some u → RV E w c u := by
        cases h with
        | pure _ _ h =>
          cases h with
          | data _ _ h => cases h
          | fn _ _ vs hl h => exact ⟨vs, rfl, hl, fun i c u hc hu => .pure _ _ (h i c u hc hu)⟩
        | fn _ _ vs hl h => exact ⟨vs, rfl, hl, h⟩
      obtain ⟨vs, rfl, hl, hr⟩ := key
      refine .fn _ _ _ (by simp [hl]) (fun i c u hc hu => ?_)
      simp only [List.getElem?_map, Option.map_eq_some_iff] at hc
      obtain ⟨c', hc', rfl⟩ := hc
      exact ih _ _ (hr i c' u hc' hu)

/-- A list that the function hands over for good: its spare cells are new, and nobody else's. -/
abbrev fresh : Own := .key 0 0

def ResV (S' N : Pl) (base : Nat) (w' : World) (r : AV) (v : Value) : Prop :=
  RD S' w' r v ∨ ∃ sz xs A n c, r = .list sz xs fresh ∧ v = .slice A n c ∧ RD S' w' (.list sz xs .no) v ∧
    (c = n ∨ ∃ b off t ccs, A = some ⟨b, off, none⟩ ∧ base ≤ b ∧ w'.heap[b]? = some (.cells ccs t (0, 0)) ∧ off + c * sz ≤ ccs.size ∧ ∀ o, off + n * sz ≤ o → o < off + c * sz → ¬ N b o)

def callable (P : Program) (f : FuncId) : Bool :=
  match P.funcs[f]? with
  | some fn => fn.name != "runtime.NumGoroutine" && fn.body.isSome
  | none => false

/-- Called with values that read so, the function returns one that reads so; what was there is as it was. -/
def ACall (P : Program) (f : FuncId) (args : List AV) (r : AV) : Prop :=
  callable P f = true ∧ ∀ (S : Pl) (w : World) (vs : Array Value), (∀ b o, S b o → CellsOf w b o) → args.length = vs.size → (∀ (i : Nat) a v, args[i]? = some a → vs[i]? = some v → RP S (CellsOf w) w a v) →
    Calls P f vs w fun e w' => ∃ v, e = .returned v ∧ Below w.heap.size w w' ∧ ∃ N : Pl, (∀ b o, N b o → w.heap.size ≤ b ∧ CellsOf w' b o) ∧ ResV (fun b o => S b o ∨ N b o) N w.heap.size w' r v

def calleeOf (st : St) (c : Call) : Option (FuncId × List AV) :=
  match c.callee with
  | .value f => match evalA st f with
    | .fn g caps => some (g, caps)
    | _ => none
  | _ => none

def argsOf (st : St) (c : Call) (caps : List AV) : List AV := (c.args.toList.map (evalA st) ++ caps).map (frz st.B 3)

def callEff (st : St) (dst : Option Nat) (r : AV) : Eff :=
  match r, dst with
  | .list sz xs (.key _ _), some d => { v := .list sz xs (.key (st.d + d) (st.L (st.d + d) + 1)), bump := [st.d + d] }
  | .list sz xs (.key _ _), none => { v := .list sz xs .no }
  | r, _ => { v := r }

theorem RV.fn_inv {E : Env} {w : World} {f : FuncId} {caps : List AV} {v : Value} (h : RV E w (.fn f caps) v) : ∃ vs : Array Value, v = .func (.func f) #[] vs ∧ caps.length = vs.size ∧ ∀ (i : Nat) c u, caps[i]? = some c → vs[i]? = some u → RV E w c u := by
  cases h with
  | pure _ _ h =>
    cases h with
    | data _ _ h => cases h
    | fn _ _ vs hl h => exact ⟨vs, rfl, hl, fun i c u hc hu => .pure _ _ (h i c u hc hu)⟩
  | fn _ _ vs hl h => exact ⟨vs, rfl, hl, h⟩

/-- The call of a Go function's value: it is entered. -/
theorem run_call {E : Env} {w : World} {a : Act} (hs : ∀ t, RV E w (st.s t) (a.tmps.getD t undef)) {c : Call} (ho : o.op = .call c) {g : FuncId} {caps : List AV} (hc : calleeOf st c = some (g, caps)) (hg : callable P g = true) :
    ∃ vs : Array Value, (execOp a.eval o).run P w = .ok (.enter g vs) w ∧ (c.args.toList.map (evalA st) ++ caps).length = vs.size ∧ ∀ (i : Nat) x u, (c.args.toList.map (evalA st) ++ caps)[i]? = some x → vs[i]? = some u → RV E w x u := by
  unfold calleeOf at hc
  split at hc
  · rename_i f hf
    split at hc
    · rename_i g' caps' hev
      simp only [Option.some.injEq, Prod.mk.injEq] at hc
      obtain ⟨rfl, rfl⟩ := hc
      have h1 := evalA_ok hs f
      rw [hev] at h1
      obtain ⟨cv, h2, h3, h4⟩ := h1.fn_inv
      refine ⟨c.args.map a.eval ++ cv, ?_, by simp [h3], fun i x u hx hu => ?_⟩
      · unfold callable at hg
        split at hg
        · rename_i fn hfn
          simp only [Bool.and_eq_true, bne_iff_ne, ne_eq] at hg
          have hb : fn.body.isNone = false := by cases hbb : fn.body <;> simp_all
          simp only [execOp, ho, resolve, hf, h2, Deferred.ofValue, Sem.run_bind, Sem.run_pure, Result.andThen_ok, invoke, callFunc, run_program, hfn]
          rw [Array.empty_append]
          simp [hg.1, hb]
        · cases hg
      · by_cases hi : i < c.args.size
        · rw [List.getElem?_append_left (by simpa using hi)] at hx
          rw [Array.getElem?_append_left (by simpa using hi)] at hu
          simp only [List.getElem?_map, Option.map_eq_some_iff, Array.getElem?_toList] at hx
          obtain ⟨y, hy, rfl⟩ := hx
          simp only [Array.getElem?_map, hy, Option.map_some, Option.some.injEq] at hu
          subst hu
          exact evalA_ok hs y
        · rw [List.getElem?_append_right (by simp; omega)] at hx
          rw [Array.getElem?_append_right (by simp; omega)] at hu
          simp only [List.length_map, Array.length_toList] at hx
          simp only [Array.size_map] at hu
          exact h4 _ x u hx hu
    · cases hc
  · cases hc

/-- A call of a function of which it is told what it makes of values that it may only read. -/
theorem does_call {c : Call} (ho : o.op = .call c) {g : FuncId} {caps : List AV} (hc : calleeOf st c = some (g, caps)) {r : AV} (hcall : ACall P g (argsOf st c caps) r) : Does P base w0 st o (callEff st o.dst r) := by
  intro E a w hok hs hn0 hd0 K Q hK
  obtain ⟨vs, hrun, hlen, hvs⟩ := run_call (P := P) hs ho hc hcall.1
  unfold Oper.wp
  rw [hrun]
  show Calls P g vs w _
  refine (hcall.2 E.S w vs hok.sCell (by simpa [argsOf] using hlen) (fun i x u hx hu => ?_)).mono ?_
  · simp only [argsOf, List.getElem?_map, Option.map_eq_some_iff] at hx
    obtain ⟨y, hy, rfl⟩ := hx
    exact frz_ok hok 3 y u (hvs i y u hy hu)
  · rintro e w' ⟨v, rfl, hbel, N, hN, hres⟩
    show K (a.put o.dst v) w'
    have hbel' : Below base w w' := hbel.mono hok.size
    have hsame : ∀ b o, b < w.heap.size → w'.cell? ⟨b, o, none⟩ = w.cell? ⟨b, o, none⟩ := fun b o h => World.cell?_of_block (w := w) (hbel.block b h)
    -- what is settled, and who owns what
    have main : ∀ (L' : Nat → Nat) (τ' : Nat → Option (Nat × Nat × Nat)), (∀ k, st.L k ≤ L' k ∧ (st.L k = L' k → τ' k = E.τ k)) →
        (∀ k b lo hi, τ' k = some (b, lo, hi) → E.τ k = some (b, lo, hi) ∨ (w.heap.size ≤ b ∧ (∀ o, lo ≤ o → o < hi → ¬ N b o) ∧ ∃ ccs t, w'.heap[b]? = some (.cells ccs t (0, 0)) ∧ hi ≤ ccs.size)) →
        (∀ k k' x y, τ' k = some x → τ' k' = some y → w.heap.size ≤ x.1 → w.heap.size ≤ y.1 → k = k') →
        E.Le w { E with S := fun b o => E.S b o ∨ N b o, F := fun b o => E.F b o ∨ (E.S b o ∨ N b o), L := L', τ := τ' } w' ∧ OK base w0 { E with S := fun b o => E.S b o ∨ N b o, F := fun b o => E.F b o ∨ (E.S b o ∨ N b o), L := L', τ := τ' } st.B L' w' := by
      intro L' τ' hL hτ hu
      refine hok.settle (S' := fun b o => E.S b o ∨ N b o) hbel' (fun b o h => ⟨.inl h, hsame b o (hok.sLt h)⟩) ?_ hok.fOld' (fun b o h => h.imp id (fun h => by have := (hN b o h).1; have := hok.size; omega)) hL ?_ ?_ ?_ ?_
      · rintro b o (h | h)
        · rw [hsame b o (hok.sLt h)]; exact hok.sCell b o h
        · exact (hN b o h).2
      · refine fun k hk => ⟨hbel.block _ (hok.bmLt hk), fun o h => ?_⟩
        rcases h with h | h
        · exact (hok.box k hk).2.1 o h
        · have := (hN _ _ h).1; have := hok.bmLt hk; omega
      · intro k b lo hi h
        rcases hτ k b lo hi h with h | ⟨h1, h2, ccs, t, h3, h4⟩
        · obtain ⟨a1, a2, ccs', t', a3, a4⟩ := hok.spare k b lo hi h
          have hlt := hok.spLt h
          exact ⟨a1, fun o h1 h2 h3 => h3.elim (a2 o h1 h2) (fun h4 => by have := (hN _ _ h4).1; omega), ccs', t', by rw [hbel.block b hlt]; exact a3, a4⟩
        · exact ⟨Nat.le_trans hok.size h1, fun o h5 h6 h7 => h7.elim (fun h8 => by have := hok.sLt h8; omega) (h2 o h5 h6), ccs, t, h3, h4⟩
      · intro k k' b lo hi b' lo' hi' hne h h'
        rcases hτ k _ _ _ h with h1 | h1 <;> rcases hτ k' _ _ _ h' with h2 | h2
        · exact hok.spareinj k k' b lo hi b' lo' hi' hne h1 h2
        · have := hok.spLt h1; have := h2.1; omega
        · have := hok.spLt h2; have := h1.1; omega
        · exact fun e => hne (hu k k' _ _ h h' h1.1 h2.1)
      · intro k k' b lo hi h hk'
        rcases hτ k _ _ _ h with h | h
        · exact hok.sparebox k k' b lo hi h hk'
        · have := hok.bmLt hk'; have := h.1; omega
    have hold := main st.L E.τ (fun _ => ⟨Nat.le_refl _, fun _ => rfl⟩) (fun k b lo hi h => .inl h) (fun k k' x y h h' h1 h2 => by have := hok.spLt (k := k) (b := x.1) (lo := x.2.1) (hi := x.2.2) (by rw [h]); omega)
    rcases hres with hres | ⟨sz, xs, A, n, cp, rfl, rfl, hres, hsp⟩
    · have he : callEff st o.dst r = { v := r } := by
        unfold callEff
        split
        · rename_i sz xs k g d
          cases hres with | list _ _ _ _ _ _ _ _ _ _ _ _ _ ho => rcases ho with ho | ⟨ho, _⟩ <;> cases ho
        · rename_i sz xs k g
          cases hres with | list _ _ _ _ _ _ _ _ _ _ _ _ _ ho => rcases ho with ho | ⟨ho, _⟩ <;> cases ho
        · rfl
      rw [he] at hK
      exact hK v w' _ hold.1 hold.2 (.pure _ _ (.data _ _ hres))
    · cases hdst : o.dst with
      | none =>
        rw [hdst] at hK
        rw [← hdst] at hK ⊢
        have he : callEff st o.dst (.list sz xs fresh) = { v := .list sz xs .no } := by rw [hdst]; rfl
        rw [hdst] at hK ⊢
        have he2 : callEff st none (.list sz xs fresh) = { v := .list sz xs .no } := rfl
        rw [he2] at hK
        exact hK _ w' _ hold.1 hold.2 (.pure _ _ (.data _ _ hres))
      | some d =>
        rw [hdst] at hK
        have he : callEff st (some d) (.list sz xs fresh) = { v := .list sz xs (.key (st.d + d) (st.L (st.d + d) + 1)), bump := [st.d + d] } := rfl
        rw [he] at hK
        rcases hsp with hfull | ⟨b, off, t, ccs, hA, hb, hh, hfit, hno⟩
        · have h9 := main (upd st.L (st.d + d) (st.L (st.d + d) + 1)) (upd E.τ (st.d + d) none) (fun k => by
            by_cases e : k = st.d + d
            · subst e; rw [upd_same]; exact ⟨by omega, fun h => by omega⟩
            · rw [upd_ne _ _ e, upd_ne _ _ e]; exact ⟨Nat.le_refl _, fun _ => rfl⟩) (fun k b lo hi h => by
            by_cases e : k = st.d + d
            · subst e; rw [upd_same] at h; cases h
            · rw [upd_ne _ _ e] at h; exact .inl h) (fun k k' x y h h' h1 h2 => by
            by_cases e : k = st.d + d
            · subst e; rw [upd_same] at h; cases h
            · rw [upd_ne _ _ e] at h
              have := hok.spLt (k := k) (b := x.1) (lo := x.2.1) (hi := x.2.2) (by rw [h]); omega)
          refine hK _ w' _ h9.1 h9.2 (.own _ _ _ _ _ _ _ hres ⟨?_, fun _ => .inl hfull⟩)
          simp [upd_same]
        · have h9 := main (upd st.L (st.d + d) (st.L (st.d + d) + 1)) (upd E.τ (st.d + d) (some (b, off + n * sz, off + cp * sz))) (fun k => by
            by_cases e : k = st.d + d
            · subst e; rw [upd_same]; exact ⟨by omega, fun h => by omega⟩
            · rw [upd_ne _ _ e, upd_ne _ _ e]; exact ⟨Nat.le_refl _, fun _ => rfl⟩) (fun k b' lo hi h => by
            by_cases e : k = st.d + d
            · subst e; rw [upd_same] at h; cases h; exact .inr ⟨hb, hno, ccs, t, hh, hfit⟩
            · rw [upd_ne _ _ e] at h; exact .inl h) (fun k k' x y h h' h1 h2 => by
            have one : ∀ k x, upd E.τ (st.d + d) (some (b, off + n * sz, off + cp * sz)) k = some x → w.heap.size ≤ x.1 → k = st.d + d := fun k x h h1 => by
              by_cases e : k = st.d + d
              · exact e
              · rw [upd_ne _ _ e] at h
                have := hok.spLt (k := k) (b := x.1) (lo := x.2.1) (hi := x.2.2) (by rw [h]); omega
            rw [one k x h h1, one k' y h' h2])
          refine hK _ w' _ h9.1 h9.2 (.own _ _ _ _ _ _ _ hres ⟨?_, fun _ => .inr ⟨b, off, hA, ?_⟩⟩)
          · simp [upd_same]
          · simp [upd_same]
end

end Go.Proofs.YtkmdeahnkfdhjaaW.E
