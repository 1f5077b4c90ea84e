/-
  Abstract values for Go's values: what a value reads as in memory that is settled, and that it goes on to read so. Laws over any program; no condition.
-/
import Derived.Orders
import Derived.ScopeJumps
import Derived.Deep.MidRow
import Derived.Laws.AppendOwn
import Derived.Laws.CopyRow
import Derived.Below
import Derived.OwnWalk
import Derived.Laws.Rows
import Derived.Laws.Tables
namespace Go.Proofs.YtkmdeahnkfdhjaaW.E
open Go Go.RowKit
set_option linter.unusedVariables false
set_option linter.unusedSimpArgs false

/-- Who may append in place: nobody; a slice that is full (its capacity is its length); the key k at its generation g. -/
inductive Own where
  | no
  | full
  | key (k g : Nat)

inductive AV where
  | val (v : Value)
  | agg (vs : List AV)
  | tup (vs : List AV)
  | list (sz : Nat) (xs : List AV) (o : Own)
  | ptr (k g off : Nat)
  | bsl (k g off n c : Nat)
  | pelt (cs : List AV)
  | fn (f : FuncId) (caps : List AV)
  | any

instance : Inhabited AV := ⟨.any⟩

def AV.cells : AV → List AV
  | .agg vs => vs
  | x => [x]

def flat (xs : List AV) : List AV := xs.flatMap AV.cells

/-- A set of cells. -/
abbrev Pl := Nat → Nat → Prop

/-- What is told of the value of one cell. -/
def AV.isCell : AV → Bool
  | .val v => v.oneCell'
  | .list _ _ _ => true
  | .ptr _ _ _ => true
  | .bsl _ _ _ _ _ => true
  | .pelt _ => true
  | .fn _ _ => true
  | _ => false

/-- Data: read out of settled cells S. -/
inductive RD (S : Pl) (w : World) : AV → Value → Prop where
  | val (v : Value) : RD S w (.val v) v
  | any (v : Value) : RD S w .any v
  | agg (vs : List AV) (cs : Array Value) (hl : vs.length = cs.size) (h1 : ∀ v ∈ cs, v.oneCell' = true)
      (h : ∀ (i : Nat) c v, vs[i]? = some c → cs[i]? = some v → RD S w c v) : RD S w (.agg vs) (.agg cs)
  | tup (vs : List AV) (cs : Array Value) (hl : vs.length = cs.size)
      (h : ∀ (i : Nat) c v, vs[i]? = some c → cs[i]? = some v → RD S w c v) : RD S w (.tup vs) (.tuple cs)
  | list (sz : Nat) (xs : List AV) (o : Own) (A : Option Addr) (c b off : Nat) (f : Nat → Value)
      (hc : xs.length ≤ c) (hA : xs ≠ [] → A = some ⟨b, off, none⟩) (hz : ∀ x ∈ xs, x.cells.length = sz)
      (hs : ∀ (i : Nat) y, (flat xs)[i]? = some y → S b (off + i) ∧ w.cell? ⟨b, off + i, none⟩ = some (f i) ∧ (f i).oneCell' = true)
      (hr : ∀ (i : Nat) y, (flat xs)[i]? = some y → RD S w y (f i))
      (ho : o = .no ∨ (o = .full ∧ c = xs.length)) : RD S w (.list sz xs o) (.slice A xs.length c)

/-- A row of cells in settled memory. -/
def Row (S : Pl) (w : World) (R : AV → Value → Prop) (b off : Nat) (cs : List AV) : Prop :=
  ∀ (i : Nat) y, cs[i]? = some y → S b (off + i) ∧ ∃ u, w.cell? ⟨b, off + i, none⟩ = some u ∧ u.oneCell' = true ∧ R y u

theorem RD.list_iff {S : Pl} {w : World} {sz : Nat} {xs : List AV} {o : Own} {v : Value} : RD S w (.list sz xs o) v ↔
    ∃ A c b off, v = .slice A xs.length c ∧ xs.length ≤ c ∧ (xs ≠ [] → A = some ⟨b, off, none⟩) ∧ (∀ x ∈ xs, x.cells.length = sz) ∧ Row S w (RD S w) b off (flat xs) ∧ (o = .no ∨ (o = .full ∧ c = xs.length)) := by
  constructor
  · intro h
    cases h with
    | list _ _ _ A c b off f hc hA hz hs hr ho => exact ⟨A, c, b, off, rfl, hc, hA, hz, fun i y hy => ⟨(hs i y hy).1, f i, (hs i y hy).2.1, (hs i y hy).2.2, hr i y hy⟩, ho⟩
  · rintro ⟨A, c, b, off, rfl, hc, hA, hz, hrow, ho⟩
    refine .list sz xs o A c b off (fun i => (w.cell? ⟨b, off + i, none⟩).getD undef) hc hA hz (fun i y hy => ?_) (fun i y hy => ?_) ho
    · obtain ⟨h1, u, h2, h3, h4⟩ := hrow i y hy
      exact ⟨h1, by simp [h2], by simpa [h2] using h3⟩
    · obtain ⟨h1, u, h2, h3, h4⟩ := hrow i y hy
      simpa [h2] using h4

theorem Row.imp {S S' : Pl} {w w' : World} {R R' : AV → Value → Prop} {b off : Nat} {cs : List AV} (h : Row S w R b off cs) (hs : ∀ b o, S b o → S' b o ∧ w'.cell? ⟨b, o, none⟩ = w.cell? ⟨b, o, none⟩)
    (hR : ∀ (i : Nat) y u, cs[i]? = some y → R y u → R' y u) : Row S' w' R' b off cs := fun i y hy => by
  obtain ⟨h1, u, h2, h3, h4⟩ := h i y hy
  exact ⟨(hs _ _ h1).1, u, (hs _ _ h1).2.trans h2, h3, hR i y u hy h4⟩

theorem RD.mono {S S' : Pl} {w w' : World} (hs : ∀ b o, S b o → S' b o ∧ w'.cell? ⟨b, o, none⟩ = w.cell? ⟨b, o, none⟩) {a : AV} {v : Value} (h : RD S w a v) : RD S' w' a v := by
  induction h with
  | val v => exact .val v
  | any v => exact .any v
  | agg vs cs hl h1 h ih => exact .agg vs cs hl h1 ih
  | tup vs cs hl h ih => exact .tup vs cs hl ih
  | list sz xs o A c b off f hc hA hz h1 hr ho ih => exact .list sz xs o A c b off f hc hA hz (fun i y hy => ⟨(hs _ _ (h1 i y hy).1).1, (hs _ _ (h1 i y hy).1).2.trans (h1 i y hy).2.1, (h1 i y hy).2.2⟩) ih ho

theorem RD.no {S : Pl} {w : World} {sz : Nat} {xs : List AV} {o : Own} {v : Value} (h : RD S w (.list sz xs o) v) : RD S w (.list sz xs .no) v := by
  rw [RD.list_iff] at *
  obtain ⟨A, c, b, off, h1, h2, h3, h4, h5, h6⟩ := h
  exact ⟨A, c, b, off, h1, h2, h3, h4, h5, .inl rfl⟩

/-- Besides data: pointers to cells that may only be read (F), and functions over such. -/
inductive RP (S F : Pl) (w : World) : AV → Value → Prop where
  | data (a : AV) (v : Value) (h : RD S w a v) : RP S F w a v
  | pelt (cs : List AV) (b off : Nat) (f : Nat → Value)
      (hs : ∀ (i : Nat) y, cs[i]? = some y → F b (off + i) ∧ w.cell? ⟨b, off + i, none⟩ = some (f i) ∧ (f i).oneCell' = true)
      (hr : ∀ (i : Nat) y, cs[i]? = some y → RP S F w y (f i)) : RP S F w (.pelt cs) (.pointer (some ⟨b, off, none⟩))
  | fn (g : FuncId) (caps : List AV) (vs : Array Value) (hl : caps.length = vs.size)
      (h : ∀ (i : Nat) c v, caps[i]? = some c → vs[i]? = some v → RP S F w c v) : RP S F w (.fn g caps) (.func (.func g) #[] vs)

theorem RP.mono {S S' F F' : Pl} {w w' : World} (hs : ∀ b o, S b o → S' b o ∧ w'.cell? ⟨b, o, none⟩ = w.cell? ⟨b, o, none⟩)
    (hf : ∀ b o, F b o → F' b o ∧ w'.cell? ⟨b, o, none⟩ = w.cell? ⟨b, o, none⟩) {a : AV} {v : Value} (h : RP S F w a v) : RP S' F' w' a v := by
  induction h with
  | data a v h => exact .data a v (h.mono hs)
  | pelt cs b off f h1 hr ih => exact .pelt cs b off f (fun i y hy => ⟨(hf _ _ (h1 i y hy).1).1, (hf _ _ (h1 i y hy).1).2.trans (h1 i y hy).2.1, (h1 i y hy).2.2⟩) ih
  | fn g caps vs hl h ih => exact .fn g caps vs hl ih

theorem RP.pelt_iff {S F : Pl} {w : World} {cs : List AV} {v : Value} : RP S F w (.pelt cs) v ↔ ∃ b off, v = .pointer (some ⟨b, off, none⟩) ∧ Row F w (RP S F w) b off cs := by
  constructor
  · intro h
    cases h with
    | data _ _ h => cases h
    | pelt _ b off f hs hr => exact ⟨b, off, rfl, fun i y hy => ⟨(hs i y hy).1, f i, (hs i y hy).2.1, (hs i y hy).2.2, hr i y hy⟩⟩
  · rintro ⟨b, off, rfl, hrow⟩
    refine .pelt cs b off (fun i => (w.cell? ⟨b, off + i, none⟩).getD undef) (fun i y hy => ?_) (fun i y hy => ?_)
    · obtain ⟨h1, u, h2, h3, h4⟩ := hrow i y hy
      exact ⟨h1, by simp [h2], by simpa [h2] using h3⟩
    · obtain ⟨h1, u, h2, h3, h4⟩ := hrow i y hy
      simpa [h2] using h4

structure Env where
  S : Pl
  F : Pl
  L : Nat → Nat
  τ : Nat → Option (Nat × Nat × Nat)
  G : Nat → Nat
  bm : Nat → Nat

/-- Who owns the spare cells behind a slice. -/
def Env.owns (E : Env) (k g sz : Nat) (A : Option Addr) (n c : Nat) : Prop :=
  g ≤ E.L k ∧ (g = E.L k → c = n ∨ ∃ b off, A = some ⟨b, off, none⟩ ∧ E.τ k = some (b, off + n * sz, off + c * sz))

inductive RV (E : Env) (w : World) : AV → Value → Prop where
  | pure (a : AV) (v : Value) (h : RP E.S E.F w a v) : RV E w a v
  | own (sz : Nat) (xs : List AV) (k g : Nat) (A : Option Addr) (n c : Nat) (h : RD E.S w (.list sz xs .no) (.slice A n c)) (ho : E.owns k g sz A n c) : RV E w (.list sz xs (.key k g)) (.slice A n c)
  | ptr (k g off b : Nat) (hg : g ≤ E.G k) (hb : g = E.G k → b = E.bm k) : RV E w (.ptr k g off) (.pointer (some ⟨b, off, none⟩))
  | bsl (k g off n c b : Nat) (hg : g ≤ E.G k) (hb : g = E.G k → b = E.bm k) : RV E w (.bsl k g off n c) (.slice (some ⟨b, off, none⟩) n c)
  | agg (vs : List AV) (cs : Array Value) (hl : vs.length = cs.size) (h1 : ∀ v ∈ cs, v.oneCell' = true)
      (h : ∀ (i : Nat) c v, vs[i]? = some c → cs[i]? = some v → RV E w c v) : RV E w (.agg vs) (.agg cs)
  | fn (g : FuncId) (caps : List AV) (vs : Array Value) (hl : caps.length = vs.size)
      (h : ∀ (i : Nat) c v, caps[i]? = some c → vs[i]? = some v → RV E w c v) : RV E w (.fn g caps) (.func (.func g) #[] vs)

structure Env.Le (E : Env) (w : World) (E' : Env) (w' : World) : Prop where
  S : ∀ b o, E.S b o → E'.S b o ∧ w'.cell? ⟨b, o, none⟩ = w.cell? ⟨b, o, none⟩
  F : ∀ b o, E.F b o → E'.F b o ∧ w'.cell? ⟨b, o, none⟩ = w.cell? ⟨b, o, none⟩
  L : ∀ k, E.L k ≤ E'.L k ∧ (E.L k = E'.L k → E'.τ k = E.τ k)
  G : ∀ k, E.G k ≤ E'.G k ∧ (E.G k = E'.G k → E'.bm k = E.bm k)

theorem Env.Le.refl (E : Env) (w : World) : E.Le w E w := ⟨fun _ _ h => ⟨h, rfl⟩, fun _ _ h => ⟨h, rfl⟩, fun _ => ⟨Nat.le_refl _, fun _ => rfl⟩, fun _ => ⟨Nat.le_refl _, fun _ => rfl⟩⟩
theorem Env.Le.trans {E E' E'' : Env} {w w' w'' : World} (h : E.Le w E' w') (k : E'.Le w' E'' w'') : E.Le w E'' w'' :=
  ⟨fun b o x => ⟨(k.S b o (h.S b o x).1).1, (k.S b o (h.S b o x).1).2.trans (h.S b o x).2⟩, fun b o x => ⟨(k.F b o (h.F b o x).1).1, (k.F b o (h.F b o x).1).2.trans (h.F b o x).2⟩,
   fun i => ⟨Nat.le_trans (h.L i).1 (k.L i).1, fun e => by
     have a := (h.L i).1; have b := (k.L i).1
     exact ((k.L i).2 (by omega)).trans ((h.L i).2 (by omega))⟩,
   fun i => ⟨Nat.le_trans (h.G i).1 (k.G i).1, fun e => by
     have a := (h.G i).1; have b := (k.G i).1
     exact ((k.G i).2 (by omega)).trans ((h.G i).2 (by omega))⟩⟩

theorem RV.mono {E E' : Env} {w w' : World} (hle : E.Le w E' w') {a : AV} {v : Value} (h : RV E w a v) : RV E' w' a v := by
  induction h with
  | pure a v h => exact .pure a v (h.mono hle.S hle.F)
  | own sz xs k g A n c h ho =>
    refine .own sz xs k g A n c (h.mono hle.S) ⟨Nat.le_trans ho.1 (hle.L k).1, fun e => ?_⟩
    have h1 := (hle.L k).1
    have h2 := ho.1
    have e1 : E.L k = E'.L k := by omega
    rw [(hle.L k).2 e1]
    exact ho.2 (by omega)
  | ptr k g off b hg hb =>
    refine .ptr k g off b (Nat.le_trans hg (hle.G k).1) (fun e => ?_)
    have h1 := (hle.G k).1
    have e1 : E.G k = E'.G k := by omega
    rw [(hle.G k).2 e1]
    exact hb (by omega)
  | bsl k g off n c b hg hb =>
    refine .bsl k g off n c b (Nat.le_trans hg (hle.G k).1) (fun e => ?_)
    have h1 := (hle.G k).1
    have e1 : E.G k = E'.G k := by omega
    rw [(hle.G k).2 e1]
    exact hb (by omega)
  | agg vs cs hl h1 h ih => exact .agg vs cs hl h1 ih
  | fn g caps vs hl h ih => exact .fn g caps vs hl ih

theorem RV.val_iff {E : Env} {w : World} {u v : Value} : RV E w (.val u) v ↔ v = u := by
  constructor
  · intro h
    cases h with
    | pure _ _ h => cases h with | data _ _ h => cases h; rfl
  · rintro rfl; exact .pure _ _ (.data _ _ (.val _))

theorem RV.any {E : Env} {w : World} (v : Value) : RV E w .any v := .pure _ _ (.data _ _ (.any v))

theorem RV.cell {E : Env} {w : World} {a : AV} {v : Value} (ha : a.isCell = true) (h : RV E w a v) : v.oneCell' = true := by
  cases h with
  | pure _ _ h =>
    cases h with
    | data _ _ h => cases h <;> simp_all [AV.isCell, Value.oneCell']
    | pelt => rfl
    | fn => rfl
  | own => rfl
  | ptr => rfl
  | bsl => rfl
  | agg => simp [AV.isCell] at ha
  | fn => rfl

/-- A slice, whoever owns it, reads as its list. -/
theorem RV.list_no {E : Env} {w : World} {sz : Nat} {xs : List AV} {o : Own} {v : Value} (h : RV E w (.list sz xs o) v) : RD E.S w (.list sz xs .no) v := by
  cases h with
  | pure _ _ h => cases h with | data _ _ h => exact h.no
  | own _ _ k g A n c h ho => exact h

theorem RV.agg_iff {E : Env} {w : World} {vs : List AV} {v : Value} : RV E w (.agg vs) v ↔ ∃ cs : Array Value, v = .agg cs ∧ vs.length = cs.size ∧ (∀ v ∈ cs, v.oneCell' = true) ∧ ∀ (i : Nat) c v, vs[i]? = some c → cs[i]? = some v → RV E w c v := by
  constructor
  · intro h
    cases h with
    | pure _ _ h => cases h with | data _ _ h => cases h with | agg _ cs hl h1 h => exact ⟨cs, rfl, hl, h1, fun i c v hc hv => .pure _ _ (.data _ _ (h i c v hc hv))⟩
    | agg _ cs hl h1 h => exact ⟨cs, rfl, hl, h1, h⟩
  · rintro ⟨cs, rfl, hl, h1, h⟩; exact .agg vs cs hl h1 h

/-- The cells of a value, as its words say. -/
theorem RV.cells {E : Env} {w : World} {a : AV} {v : Value} (h : RV E w a v) (hc : a.cells.all AV.isCell = true) :
    v.cells.size = a.cells.length ∧ (∀ u ∈ v.cells, u.oneCell' = true) ∧ ∀ (i : Nat) y u, a.cells[i]? = some y → v.cells[i]? = some u → RV E w y u := by
  by_cases hagg : ∃ vs, a = .agg vs
  · obtain ⟨vs, rfl⟩ := hagg
    obtain ⟨cs, rfl, hl, h1, h2⟩ := RV.agg_iff.1 h
    exact ⟨hl.symm, h1, h2⟩
  · have e1 : a.cells = [a] := by cases a <;> first | rfl | exact absurd ⟨_, rfl⟩ hagg
    rw [e1] at hc ⊢
    simp only [List.all_cons, List.all_nil, Bool.and_true] at hc
    have h1 := h.cell hc
    have e2 : v.cells = #[v] := by cases v <;> first | rfl | simp [Value.oneCell'] at h1
    rw [e2]
    refine ⟨rfl, by simpa using h1, fun i y u hy hu => ?_⟩
    have hi : i = 0 := by
      have := (List.getElem?_eq_some_iff.1 hy).1
      simp at this; exact this
    subst hi
    simp at hy hu
    subst hy; subst hu
    exact h

end Go.Proofs.YtkmdeahnkfdhjaaW.E
