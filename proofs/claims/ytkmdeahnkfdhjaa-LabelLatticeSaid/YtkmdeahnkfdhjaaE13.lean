/-
  From a function's body, in abstract values, to what its call makes. Laws over any program; no condition.
-/
import Derived.Test.YtkmdeahnkfdhjaaE12
namespace Go.Proofs.YtkmdeahnkfdhjaaW.E
open Go Go.RowKit
set_option linter.unusedVariables false
set_option linter.unusedSimpArgs false

def ares1 (T : Tab) (st : St) : ResultVar → Option AV
  | .tmp t => some (st.s t)
  | .cell a t => aload T st t (st.s a)

def aresults (T : Tab) (st : St) : List ResultVar → Option AV
  | [r] => ares1 T st r
  | rs => (rs.mapM (ares1 T st)).map fun vs => .tup (vs.map AV.data)

/-- Less is told: an empty list is one of cells of any size; who owns a list is not told. -/
inductive Wk : AV → AV → Prop where
  | refl (a : AV) : Wk a a
  | list (sx sz : Nat) (xs : List AV) (o : Own) (h : sx = sz ∨ xs = []) : Wk (.list sx xs o) (.list sz xs .no)
  | any (a : AV) : Wk a .any
  | agg (vs us : List AV) (hl : vs.length = us.length) (h : ∀ (i : Nat) a b, vs[i]? = some a → us[i]? = some b → Wk a b) : Wk (.agg vs) (.agg us)
  | tup (vs us : List AV) (hl : vs.length = us.length) (h : ∀ (i : Nat) a b, vs[i]? = some a → us[i]? = some b → Wk a b) : Wk (.tup vs) (.tup us)

theorem RD.wk {S : Pl} {w : World} {a b : AV} (h : Wk a b) : ∀ {v : Value}, RD S w a v → RD S w b v := by
  induction h with
  | refl a => exact fun h => h
  | any a => exact fun _ => .any _
  | list sx sz xs o h =>
    intro v hr
    obtain ⟨A, c, b, off, h1, h2, h3, h4, h5, h6⟩ := RD.list_iff.1 hr
    refine RD.list_iff.2 ⟨A, c, b, off, h1, h2, h3, fun x hx => ?_, h5, .inl rfl⟩
    rcases h with h | h
    · rw [← h]; exact h4 x hx
    · rw [h] at hx; simp at hx
  | agg vs us hl h ih =>
    intro v hr
    cases hr with
    | agg _ cs hl' h1 h2 =>
      refine .agg us cs (by omega) h1 (fun i c x hc hx => ?_)
      have hi : i < vs.length := by rw [hl]; exact (List.getElem?_eq_some_iff.1 hc).1
      exact ih i vs[i] c (by simp [hi]) hc (h2 i vs[i] x (by simp [hi]) hx)
  | tup vs us hl h ih =>
    intro v hr
    cases hr with
    | tup _ cs hl' h2 =>
      refine .tup us cs (by omega) (fun i c x hc hx => ?_)
      have hi : i < vs.length := by rw [hl]; exact (List.getElem?_eq_some_iff.1 hc).1
      exact ih i vs[i] c (by simp [hi]) hc (h2 i vs[i] x (by simp [hi]) hx)

theorem RP.wk {S F : Pl} {w : World} {a b : AV} (h : Wk a b) {v : Value} (hr : RP S F w a v) : RP S F w b v := by
  cases hr with
  | data _ _ hr => exact .data _ _ (hr.wk h)
  | pelt cs b off f hs hr =>
    cases h with
    | refl => exact .pelt cs b off f hs hr
    | any => exact .data _ _ (.any _)
  | fn g caps vs hl hr =>
    cases h with
    | refl => exact .fn g caps vs hl hr
    | any => exact .data _ _ (.any _)

inductive WkL : List AV → List AV → Prop where
  | nil : WkL [] []
  | cons {a b : AV} {as bs : List AV} (h : Wk a b) (k : WkL as bs) : WkL (a :: as) (b :: bs)
theorem WkL.len {as bs : List AV} (h : WkL as bs) : as.length = bs.length := by induction h <;> simp_all
theorem WkL.get {as bs : List AV} (h : WkL as bs) : ∀ (i : Nat) a b, as[i]? = some a → bs[i]? = some b → Wk a b := by
  induction h with
  | nil => intro i a b h; simp at h
  | cons h k ih =>
    intro i a b ha hb
    cases i with
    | zero => simp at ha hb; subst ha; subst hb; exact h
    | succ i => exact ih i a b (by simpa using ha) (by simpa using hb)
theorem Wk.agg' {vs us : List AV} (h : WkL vs us) : Wk (.agg vs) (.agg us) := .agg vs us h.len h.get
theorem Wk.tup' {vs us : List AV} (h : WkL vs us) : Wk (.tup vs) (.tup us) := .tup vs us h.len h.get

/-- A list to which the frame may append. -/
def Acc (L : Nat → Nat) (v : AV) (sz : Nat) (xs : List AV) : Prop :=
  ∃ o sx, v = .list sx xs o ∧ ((o = .full ∧ (xs = [] ∨ sx = sz)) ∨ ∃ k, o = .key k (L k) ∧ sx = sz)

/-- What a value is worth to others. -/
def AV.dat : AV → AV
  | .tup vs => .tup vs
  | a => a.data

def entry (n : Nat) (args : List AV) : St := { n, d := 0, s := fun t => args.getD t (.val undef), B := fun _ => (0, []), L := fun _ => 0 }

/-- What is handed back. -/
def Back (T : Tab) (rs : List ResultVar) (r : AV) (st : St) : Prop :=
  ∃ a, aresults T st rs = some a ∧ (Wk a.dat r ∨ ∃ sz xs, r = .list sz xs fresh ∧ Acc st.L a sz xs)

/-- The body's end. -/
def Fin (T : Tab) (rs : List ResultVar) (r : AV) : Exit → St → Prop
  | .normal, st => Back T rs r st
  | .ret, st => Back T rs r st
  | _, _ => False

section
variable {P : Program} {base : Nat} {w0 : Entry} {T : Tab}

theorem run_aload (hT : T.OK P) {st : St} {E : Env} {w : World} (hok : OK base w0 E st.B st.L w) {t : TypeId} {a v : AV} (h : aload T st t a = some v) {u : Value} (hr : RV E w a u) :
    ∃ ad x, u = .pointer (some ad) ∧ (loadVar t ad).run P w = .ok x w ∧ RV E w v x := by
  unfold aload at h
  split at h
  · rename_i k g off
    obtain ⟨i, hi, h⟩ := Option.bind_eq_some_iff.1 h
    split at h
    · rename_i hg
      obtain ⟨h2, h3⟩ := box_row hok hr hg.1 (fun e => by rw [e] at hg; simp at hg)
      obtain ⟨x, hx, hxr⟩ := run_loadVar_cells (mkInfo_ok (hT _ _ hi)) (R := RV E w) h h3
      refine ⟨_, x, h2, hx, ?_⟩
      rcases hxr with ⟨vs, us, rfl, rfl, h4, h5, h6⟩ | hxr
      · exact .agg vs us h4 h5 h6
      · exact hxr
    · cases h
  · rename_i cs
    obtain ⟨i, hi, h⟩ := Option.bind_eq_some_iff.1 h
    obtain ⟨b, off, h2, h3⟩ := hr.pelt_inv
    obtain ⟨x, hx, hxr⟩ := run_loadVar_cells (w := w) (b := b) (off := off) (mkInfo_ok (hT _ _ hi)) (R := RV E w) h (fun j y hy => let ⟨_, u, a1, a2, a3⟩ := h3 j y hy; ⟨u, a1, a2, .pure _ _ a3⟩)
    refine ⟨_, x, h2, hx, ?_⟩
    rcases hxr with ⟨vs, us, rfl, rfl, h4, h5, h6⟩ | hxr
    · exact .agg vs us h4 h5 h6
    · exact hxr
  · cases h

def res1 (tmps : Array Value) : ResultVar → Sem Value
  | .tmp t => pure (tmps.getD t undef)
  | .cell a t => do loadVar t (← asAddr (tmps.getD a undef))

theorem run_ares1 (hT : T.OK P) {st : St} {E : Env} {w : World} (hok : OK base w0 E st.B st.L w) {tmps : Array Value} (hs : ∀ t, RV E w (st.s t) (tmps.getD t undef)) {r : ResultVar} {v : AV} (h : ares1 T st r = some v) :
    ∃ x, (res1 tmps r).run P w = .ok x w ∧ RV E w v x := by
  cases r with
  | tmp t => simp only [ares1, Option.some.injEq] at h; subst h; exact ⟨_, rfl, hs t⟩
  | cell a t =>
    obtain ⟨ad, x, h1, h2, h3⟩ := run_aload (P := P) hT hok h (hs a)
    refine ⟨x, ?_, h3⟩
    simp only [res1, Sem.run_bind, h1, asAddr, Sem.run_pure, Result.andThen_ok, h2]

theorem run_aresM (hT : T.OK P) {st : St} {E : Env} {w : World} (hok : OK base w0 E st.B st.L w) {tmps : Array Value} (hs : ∀ t, RV E w (st.s t) (tmps.getD t undef)) : ∀ (rs : List ResultVar) (vs : List AV), rs.mapM (ares1 T st) = some vs →
    ∃ xs : List Value, (rs.mapM (res1 tmps)).run P w = .ok xs w ∧ vs.length = xs.length ∧ ∀ (i : Nat) c x, vs[i]? = some c → xs[i]? = some x → RV E w c x
  | [], vs, h => by simp at h; subst h; exact ⟨[], rfl, rfl, by simp⟩
  | r :: rs, vs, h => by
    simp only [List.mapM_cons, Option.bind_eq_bind, Option.pure_def, Option.bind_eq_some_iff] at h
    obtain ⟨v, hv, vs', hvs, h9⟩ := h
    cases h9
    obtain ⟨x, h1, h2⟩ := run_ares1 (P := P) hT hok hs hv
    obtain ⟨xs, h3, h4, h5⟩ := run_aresM hT hok hs rs vs' hvs
    refine ⟨x :: xs, ?_, by simp [h4], fun i c y hc hy => ?_⟩
    · simp only [List.mapM_cons, Sem.run_bind, h1, Result.andThen_ok, h3, Sem.run_pure]
    · cases i with
      | zero => simp at hc hy; subst hc; subst hy; exact h2
      | succ i => exact h5 i c y (by simpa using hc) (by simpa using hy)

theorem results_eq (fn : Func) (tmps : Array Value) : results fn tmps = (do let vs ← (fn.results.toList.mapM (res1 tmps)); pure (if h : vs.toArray.size = 1 then vs.toArray[0] else .tuple vs.toArray)) := by
  unfold results
  rw [Array.mapM_eq_mapM_toList]
  simp only [map_eq_pure_bind, bind_assoc, pure_bind]
  congr 1

theorem run_aresults (hT : T.OK P) {st : St} {E : Env} {w : World} (hok : OK base w0 E st.B st.L w) {fn : Func} {tmps : Array Value} (hs : ∀ t, RV E w (st.s t) (tmps.getD t undef)) {v : AV} (h : aresults T st fn.results.toList = some v) :
    ∃ x, (results fn tmps).run P w = .ok x w ∧ RV E w v x := by
  rw [results_eq]
  unfold aresults at h
  split at h
  · rename_i r hr
    obtain ⟨x, h1, h2⟩ := run_ares1 (P := P) hT hok hs h
    refine ⟨x, ?_, h2⟩
    rw [hr]
    simp [h1]
  · rename_i hne
    obtain ⟨vs, hvs, h⟩ := Option.map_eq_some_iff.1 h
    subst h
    obtain ⟨xs, h1, h2, h3⟩ := run_aresM (P := P) hT hok hs _ _ hvs
    have hlen : xs.length ≠ 1 := by
      intro e
      have h4 : fn.results.toList.length = vs.length := by
        have : ∀ (rs : List ResultVar) (vs : List AV), rs.mapM (ares1 T st) = some vs → rs.length = vs.length := by
          intro rs
          induction rs with
          | nil => intro vs h; simp at h; subst h; rfl
          | cons r rs ih =>
            intro vs h
            simp only [List.mapM_cons, Option.bind_eq_bind, Option.pure_def, Option.bind_eq_some_iff] at h
            obtain ⟨_, _, vs', hvs, h9⟩ := h
            cases h9
            simp [ih vs' hvs]
        exact this _ _ hvs
      obtain ⟨r, hr⟩ := List.length_eq_one_iff.1 (show fn.results.toList.length = 1 by omega)
      exact hne r hr
    refine ⟨.tuple xs.toArray, ?_, .pure _ _ (.data _ _ (.tup _ _ (by simp [h2]) (fun i c x hc hx => ?_)))⟩
    · simp only [Sem.run_bind, h1, Result.andThen_ok, Sem.run_pure]
      rw [dif_neg (by simpa using hlen)]
    · simp only [List.getElem?_map, Option.map_eq_some_iff] at hc
      obtain ⟨c', hc', rfl⟩ := hc
      exact (h3 i c' x hc' (by simpa using hx)).data

/-- THE RULE: what the body makes of the state at its entry is what the call makes. -/
theorem acall_of {f : FuncId} {fn : Func} {c : Code} {args : List AV} {r : AV} (hf : P.funcs[f]? = some fn) (hb : fn.body = some c) (hnm : (fn.name != "runtime.NumGoroutine") = true) (hle : args.length ≤ fn.ntmps) (hT : T.OK P)
    (h : ∀ base w0, AWp P base w0 c (Fin T fn.results.toList r) (entry fn.ntmps args)) : ACall P f args r := by
  refine ⟨by simp [callable, hf, hnm, hb], fun S w vs hS hlen hargs => ?_⟩
  let E : Env := { S := S, F := CellsOf w, L := fun _ => 0, τ := fun _ => none, G := fun _ => 0, bm := fun _ => 0 }
  have hlt : ∀ b o, CellsOf w b o → b < w.heap.size := fun b o ⟨v, hv⟩ => World.block_lt_of_cell? w _ hv
  have hok : OK w.heap.size ⟨w, S, E, w⟩ E (entry fn.ntmps args).B (entry fn.ntmps args).L w :=
    { hbase := Nat.le_refl _, below := Below.refl _ _, sOld := fun b o h _ => h, sCell := hS, fCell := fun b o h => h, fOld := fun b o h => .inr (hlt b o h), sF := fun b o h => hS b o h, L := fun _ => rfl, G := fun _ => rfl,
      box := fun k hk => absurd rfl hk, boxinj := fun k k' _ hk => absurd rfl hk, spare := fun k b lo hi h => (by cases h), spareinj := fun k k' b lo hi _ _ _ _ h => (by cases h), sparebox := fun k k' b lo hi h => (by cases h) }
  have hslots : ∀ t, RV E w ((entry fn.ntmps args).s t) ((vs ++ Array.replicate (fn.ntmps - vs.size) undef).getD t undef) := fun t => by
    simp only [entry]
    by_cases ht : t < vs.size
    · have e1 : (vs ++ Array.replicate (fn.ntmps - vs.size) undef).getD t undef = vs[t] := by
        simp [Array.getD, Array.size_append, Array.size_replicate, show t < vs.size + (fn.ntmps - vs.size) by omega, Array.getElem_append_left ht]
      have e2 : args.getD t (.val undef) = args[t]'(by omega) := by simp [List.getD, show t < args.length by omega]
      rw [e1, e2]
      exact .pure _ _ (hargs t _ _ (by simp [show t < args.length by omega]) (by simp [ht]))
    · have e1 : (vs ++ Array.replicate (fn.ntmps - vs.size) undef).getD t undef = undef := by
        rw [Array.getD_eq_getD_getElem?, Array.getElem?_append_right (by omega), Array.getElem?_replicate]
        split <;> rfl
      have e2 : args.getD t (.val undef) = .val undef := by simp [List.getD, List.getElem?_eq_none (show args.length ≤ t by omega)]
      rw [e1, e2]
      exact RV.val_iff.2 rfl
  have hrel : Rel w.heap.size ⟨w, S, E, w⟩ (entry fn.ntmps args) { tmps := vs ++ Array.replicate (fn.ntmps - vs.size) undef, defers := [] } w :=
    ⟨⟨E, hok, Env.Le.refl _ _, hslots⟩, by simp [entry]; omega, rfl⟩
  refine calls_of_wp hf hb (wp_mono (h w.heap.size ⟨w, S, E, w⟩ _ w hrel) fun e a' w' ⟨st', hq, hrel'⟩ => ?_)
  have fin : Back T fn.results.toList r st' → a'.defers = [] ∧ ∃ v, (results fn a'.tmps).run P w' = .ok v w' ∧
      ∃ v_1, Ending.returned v = Ending.returned v_1 ∧ Below w.heap.size w w' ∧ ∃ N : Pl, (∀ b o, N b o → w.heap.size ≤ b ∧ CellsOf w' b o) ∧ ResV (fun b o => S b o ∨ N b o) N w.heap.size w' r v_1 := by
    rintro ⟨av, hav, hr⟩
    obtain ⟨E', hok', _, hs'⟩ := hrel'.ex
    obtain ⟨x, hx, hxr⟩ := run_aresults (P := P) hT hok' hs' hav
    refine ⟨hrel'.defs, x, hx, x, rfl, hok'.below, fun b o => E'.S b o ∧ w.heap.size ≤ b, fun b o h => ⟨h.2, hok'.sCell b o h.1⟩, ?_⟩
    have hsub : ∀ b o, E'.S b o → (S b o ∨ (E'.S b o ∧ w.heap.size ≤ b)) ∧ w'.cell? ⟨b, o, none⟩ = w'.cell? ⟨b, o, none⟩ := fun b o h => by
      rcases Nat.lt_or_ge b w.heap.size with hb | hb
      · exact ⟨.inl (hok'.sOld b o h hb), rfl⟩
      · exact ⟨.inr ⟨h, hb⟩, rfl⟩
    rcases hr with hr | ⟨sz, xs, rfl, o, sx, rfl, hacc⟩
    · refine .inl (RD.wk hr ?_)
      cases av with
      | tup vs => cases hxr with | pure _ _ h => cases h with | data _ _ h => exact h.mono hsub
      | _ => exact hxr.data.mono hsub
    · obtain ⟨A, c, b0, off0, hx1, hc, hA, hz, hrow, _⟩ := RD.list_iff.1 hxr.list_no
      subst hx1
      rcases hacc with ⟨rfl, hsx⟩ | ⟨k, rfl, rfl⟩
      · cases hxr with
        | pure _ _ h =>
          cases h with
          | data _ _ h =>
            obtain ⟨A2, c2, _, _, e1, _, _, _, _, h6⟩ := RD.list_iff.1 h
            cases e1
            refine .inr ⟨sz, xs, A, _, c, rfl, rfl, (RD.wk (.list sx sz xs .no (by rcases hsx with h | h; exact .inr h; exact .inl h)) h.no).mono hsub, ?_⟩
            rcases h6 with h6 | h6
            · cases h6
            · exact .inl h6.2
      · cases hxr with
        | pure _ _ h => cases h with | data _ _ h => cases h with | list _ _ _ _ _ _ _ _ _ _ _ _ _ ho => rcases ho with ho | ⟨ho, _⟩ <;> cases ho
        | own _ _ _ _ _ _ _ h ho =>
          refine .inr ⟨sx, xs, A, _, c, rfl, rfl, h.mono hsub, ?_⟩
          rcases ho.2 (hok'.L k).symm with h1 | ⟨b, off, h1, h2⟩
          · exact .inl h1
          · obtain ⟨s1, s2, ccs, t, s3, s4⟩ := hok'.spare k _ _ _ h2
            exact .inr ⟨b, off, t, ccs, h1, s1, s3, s4, fun o h5 h6 h7 => s2 o h5 h6 h7.1⟩
  cases e with
  | normal => exact fin hq
  | ret => exact fin hq
  | _ => exact hq.elim

/-- A call is told of values of which less is told. -/
theorem ACall.wk {f : FuncId} {as bs : List AV} {r : AV} (h : ACall P f bs r) (hl : as.length = bs.length) (hw : ∀ (i : Nat) a b, as[i]? = some a → bs[i]? = some b → Wk a b) : ACall P f as r :=
  ⟨h.1, fun S w vs hS hlen hargs => h.2 S w vs hS (by omega) fun i b v hb hv => by
    have hi : i < as.length := by rw [hl]; exact (List.getElem?_eq_some_iff.1 hb).1
    exact (hargs i as[i] v (by simp [hi]) hv).wk (hw i as[i] b (by simp [hi]) hb)⟩
theorem ACall.wkl {f : FuncId} {as bs : List AV} {r : AV} (h : ACall P f bs r) (hw : WkL as bs) : ACall P f as r := h.wk hw.len hw.get
end

end Go.Proofs.YtkmdeahnkfdhjaaW.E
