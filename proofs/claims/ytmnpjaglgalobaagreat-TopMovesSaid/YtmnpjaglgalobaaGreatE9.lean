/-
  Abstract values for Go's values: what a value reads as in memory that is settled, and that it goes on to read so. Laws over any program; no condition.
-/
import Derived.Orders
import Derived.ScopeJumps
import Derived.Deep.MidRow
import Derived.Laws.AppendOwn
import Derived.Laws.CopyRow
import Derived.Below
import Derived.OwnWalk
import Derived.Laws.Rows
import Derived.Laws.Tables
import Derived.Laws.BytesString
import Derived.Laws.Cells
import Derived.Deep.Draws
namespace Go.Proofs.YtmnpjaglgalobaaGreatW.E
open Go Go.RowKit
set_option linter.unusedVariables false
set_option linter.unusedSimpArgs false

/-- Who may append in place: nobody; a slice that is full (its capacity is its length); the key k at its generation g. -/
inductive Own where
  | no
  | full
  | key (k g : Nat)

inductive AV where
  | val (v : Value)
  | agg (vs : List AV)
  | tup (vs : List AV)
  | list (sz : Nat) (xs : List AV) (o : Own)
  | ptr (k g off : Nat)
  | bsl (k g off n c : Nat)
  | pelt (cs : List AV)
  | fn (f : FuncId) (caps : List AV)
  | any

instance : Inhabited AV := ⟨.any⟩

def AV.cells : AV → List AV
  | .agg vs => vs
  | x => [x]

def flat (xs : List AV) : List AV := xs.flatMap AV.cells

/-- A set of cells. -/
abbrev Pl := Nat → Nat → Prop

/-- What is told of the value of one cell. -/
def AV.isCell : AV → Bool
  | .val v => v.oneCell'
  | .list _ _ _ => true
  | .ptr _ _ _ => true
  | .bsl _ _ _ _ _ => true
  | .pelt _ => true
  | .fn _ _ => true
  | _ => false

/-- Data: read out of settled cells S. -/
inductive RD (S : Pl) (w : World) : AV → Value → Prop where
  | val (v : Value) : RD S w (.val v) v
  | any (v : Value) : RD S w .any v
  | agg (vs : List AV) (cs : Array Value) (hl : vs.length = cs.size) (h1 : ∀ v ∈ cs, v.oneCell' = true)
      (h : ∀ (i : Nat) c v, vs[i]? = some c → cs[i]? = some v → RD S w c v) : RD S w (.agg vs) (.agg cs)
  | tup (vs : List AV) (cs : Array Value) (hl : vs.length = cs.size)
      (h : ∀ (i : Nat) c v, vs[i]? = some c → cs[i]? = some v → RD S w c v) : RD S w (.tup vs) (.tuple cs)
  | list (sz : Nat) (xs : List AV) (o : Own) (A : Option Addr) (c b off : Nat) (f : Nat → Value)
      (hc : xs.length ≤ c) (hA : xs ≠ [] → A = some ⟨b, off, none⟩) (hz : ∀ x ∈ xs, x.cells.length = sz)
      (hs : ∀ (i : Nat) y, (flat xs)[i]? = some y → S b (off + i) ∧ w.cell? ⟨b, off + i, none⟩ = some (f i) ∧ (f i).oneCell' = true)
      (hr : ∀ (i : Nat) y, (flat xs)[i]? = some y → RD S w y (f i))
      (ho : o = .no ∨ (o = .full ∧ c = xs.length)) : RD S w (.list sz xs o) (.slice A xs.length c)

/-- A row of cells in settled memory. -/
def Row (S : Pl) (w : World) (R : AV → Value → Prop) (b off : Nat) (cs : List AV) : Prop :=
  ∀ (i : Nat) y, cs[i]? = some y → S b (off + i) ∧ ∃ u, w.cell? ⟨b, off + i, none⟩ = some u ∧ u.oneCell' = true ∧ R y u

theorem RD.list_iff {S : Pl} {w : World} {sz : Nat} {xs : List AV} {o : Own} {v : Value} : RD S w (.list sz xs o) v ↔
    ∃ A c b off, v = .slice A xs.length c ∧ xs.length ≤ c ∧ (xs ≠ [] → A = some ⟨b, off, none⟩) ∧ (∀ x ∈ xs, x.cells.length = sz) ∧ Row S w (RD S w) b off (flat xs) ∧ (o = .no ∨ (o = .full ∧ c = xs.length)) := by
  constructor
  · intro h
    cases h with
    | list _ _ _ A c b off f hc hA hz hs hr ho => exact ⟨A, c, b, off, rfl, hc, hA, hz, fun i y hy => ⟨(hs i y hy).1, f i, (hs i y hy).2.1, (hs i y hy).2.2, hr i y hy⟩, ho⟩
  · rintro ⟨A, c, b, off, rfl, hc, hA, hz, hrow, ho⟩
    refine .list sz xs o A c b off (fun i => (w.cell? ⟨b, off + i, none⟩).getD undef) hc hA hz (fun i y hy => ?_) (fun i y hy => ?_) ho
    · obtain ⟨h1, u, h2, h3, h4⟩ := hrow i y hy
      exact ⟨h1, by simp [h2], by simpa [h2] using h3⟩
    · obtain ⟨h1, u, h2, h3, h4⟩ := hrow i y hy
      simpa [h2] using h4

theorem Row.imp {S S' : Pl} {w w' : World} {R R' : AV → Value → Prop} {b off : Nat} {cs : List AV} (h : Row S w R b off cs) (hs : ∀ b o, S b o → S' b o ∧ w'.cell? ⟨b, o, none⟩ = w.cell? ⟨b, o, none⟩)
    (hR : ∀ (i : Nat) y u, cs[i]? = some y → R y u → R' y u) : Row S' w' R' b off cs := fun i y hy => by
  obtain ⟨h1, u, h2, h3, h4⟩ := h i y hy
  exact ⟨(hs _ _ h1).1, u, (hs _ _ h1).2.trans h2, h3, hR i y u hy h4⟩

theorem RD.mono {S S' : Pl} {w w' : World} (hs : ∀ b o, S b o → S' b o ∧ w'.cell? ⟨b, o, none⟩ = w.cell? ⟨b, o, none⟩) {a : AV} {v : Value} (h : RD S w a v) : RD S' w' a v := by
  induction h with
  | val v => exact .val v
  | any v => exact .any v
  | agg vs cs hl h1 h ih => exact .agg vs cs hl h1 ih
  | tup vs cs hl h ih => exact .tup vs cs hl ih
  | list sz xs o A c b off f hc hA hz h1 hr ho ih => exact .list sz xs o A c b off f hc hA hz (fun i y hy => ⟨(hs _ _ (h1 i y hy).1).1, (hs _ _ (h1 i y hy).1).2.trans (h1 i y hy).2.1, (h1 i y hy).2.2⟩) ih ho

theorem RD.no {S : Pl} {w : World} {sz : Nat} {xs : List AV} {o : Own} {v : Value} (h : RD S w (.list sz xs o) v) : RD S w (.list sz xs .no) v := by
  rw [RD.list_iff] at *
  obtain ⟨A, c, b, off, h1, h2, h3, h4, h5, h6⟩ := h
  exact ⟨A, c, b, off, h1, h2, h3, h4, h5, .inl rfl⟩

/-- Besides data: pointers to cells that may only be read (F), and functions over such. -/
inductive RP (S F : Pl) (w : World) : AV → Value → Prop where
  | data (a : AV) (v : Value) (h : RD S w a v) : RP S F w a v
  | pelt (cs : List AV) (b off : Nat) (f : Nat → Value)
      (hs : ∀ (i : Nat) y, cs[i]? = some y → F b (off + i) ∧ w.cell? ⟨b, off + i, none⟩ = some (f i) ∧ (f i).oneCell' = true)
      (hr : ∀ (i : Nat) y, cs[i]? = some y → RP S F w y (f i)) : RP S F w (.pelt cs) (.pointer (some ⟨b, off, none⟩))
  | fn (g : FuncId) (caps : List AV) (vs : Array Value) (hl : caps.length = vs.size)
      (h : ∀ (i : Nat) c v, caps[i]? = some c → vs[i]? = some v → RP S F w c v) : RP S F w (.fn g caps) (.func (.func g) #[] vs)

theorem RP.mono {S S' F F' : Pl} {w w' : World} (hs : ∀ b o, S b o → S' b o ∧ w'.cell? ⟨b, o, none⟩ = w.cell? ⟨b, o, none⟩)
    (hf : ∀ b o, F b o → F' b o ∧ w'.cell? ⟨b, o, none⟩ = w.cell? ⟨b, o, none⟩) {a : AV} {v : Value} (h : RP S F w a v) : RP S' F' w' a v := by
  induction h with
  | data a v h => exact .data a v (h.mono hs)
  | pelt cs b off f h1 hr ih => exact .pelt cs b off f (fun i y hy => ⟨(hf _ _ (h1 i y hy).1).1, (hf _ _ (h1 i y hy).1).2.trans (h1 i y hy).2.1, (h1 i y hy).2.2⟩) ih
  | fn g caps vs hl h ih => exact .fn g caps vs hl ih

theorem RP.pelt_iff {S F : Pl} {w : World} {cs : List AV} {v : Value} : RP S F w (.pelt cs) v ↔ ∃ b off, v = .pointer (some ⟨b, off, none⟩) ∧ Row F w (RP S F w) b off cs := by
  constructor
  · intro h
    cases h with
    | data _ _ h => cases h
    | pelt _ b off f hs hr => exact ⟨b, off, rfl, fun i y hy => ⟨(hs i y hy).1, f i, (hs i y hy).2.1, (hs i y hy).2.2, hr i y hy⟩⟩
  · rintro ⟨b, off, rfl, hrow⟩
    refine .pelt cs b off (fun i => (w.cell? ⟨b, off + i, none⟩).getD undef) (fun i y hy => ?_) (fun i y hy => ?_)
    · obtain ⟨h1, u, h2, h3, h4⟩ := hrow i y hy
      exact ⟨h1, by simp [h2], by simpa [h2] using h3⟩
    · obtain ⟨h1, u, h2, h3, h4⟩ := hrow i y hy
      simpa [h2] using h4

structure Env where
  S : Pl
  F : Pl
  L : Nat → Nat
  τ : Nat → Option (Nat × Nat × Nat)
  G : Nat → Nat
  bm : Nat → Nat

/-- Who owns the spare cells behind a slice. -/
def Env.owns (E : Env) (k g sz : Nat) (A : Option Addr) (n c : Nat) : Prop :=
  g ≤ E.L k ∧ (g = E.L k → c = n ∨ ∃ b off, A = some ⟨b, off, none⟩ ∧ E.τ k = some (b, off + n * sz, off + c * sz))

inductive RV (E : Env) (w : World) : AV → Value → Prop where
  | pure (a : AV) (v : Value) (h : RP E.S E.F w a v) : RV E w a v
  | own (sz : Nat) (xs : List AV) (k g : Nat) (A : Option Addr) (n c : Nat) (h : RD E.S w (.list sz xs .no) (.slice A n c)) (ho : E.owns k g sz A n c) : RV E w (.list sz xs (.key k g)) (.slice A n c)
  | ptr (k g off b : Nat) (hg : g ≤ E.G k) (hb : g = E.G k → b = E.bm k) : RV E w (.ptr k g off) (.pointer (some ⟨b, off, none⟩))
  | bsl (k g off n c b : Nat) (hg : g ≤ E.G k) (hb : g = E.G k → b = E.bm k) : RV E w (.bsl k g off n c) (.slice (some ⟨b, off, none⟩) n c)
  | agg (vs : List AV) (cs : Array Value) (hl : vs.length = cs.size) (h1 : ∀ v ∈ cs, v.oneCell' = true)
      (h : ∀ (i : Nat) c v, vs[i]? = some c → cs[i]? = some v → RV E w c v) : RV E w (.agg vs) (.agg cs)
  | fn (g : FuncId) (caps : List AV) (vs : Array Value) (hl : caps.length = vs.size)
      (h : ∀ (i : Nat) c v, caps[i]? = some c → vs[i]? = some v → RV E w c v) : RV E w (.fn g caps) (.func (.func g) #[] vs)

structure Env.Le (E : Env) (w : World) (E' : Env) (w' : World) : Prop where
  S : ∀ b o, E.S b o → E'.S b o ∧ w'.cell? ⟨b, o, none⟩ = w.cell? ⟨b, o, none⟩
  F : ∀ b o, E.F b o → E'.F b o ∧ w'.cell? ⟨b, o, none⟩ = w.cell? ⟨b, o, none⟩
  L : ∀ k, E.L k ≤ E'.L k ∧ (E.L k = E'.L k → E'.τ k = E.τ k)
  G : ∀ k, E.G k ≤ E'.G k ∧ (E.G k = E'.G k → E'.bm k = E.bm k)

theorem Env.Le.refl (E : Env) (w : World) : E.Le w E w := ⟨fun _ _ h => ⟨h, rfl⟩, fun _ _ h => ⟨h, rfl⟩, fun _ => ⟨Nat.le_refl _, fun _ => rfl⟩, fun _ => ⟨Nat.le_refl _, fun _ => rfl⟩⟩
theorem Env.Le.trans {E E' E'' : Env} {w w' w'' : World} (h : E.Le w E' w') (k : E'.Le w' E'' w'') : E.Le w E'' w'' :=
  ⟨fun b o x => ⟨(k.S b o (h.S b o x).1).1, (k.S b o (h.S b o x).1).2.trans (h.S b o x).2⟩, fun b o x => ⟨(k.F b o (h.F b o x).1).1, (k.F b o (h.F b o x).1).2.trans (h.F b o x).2⟩,
   fun i => ⟨Nat.le_trans (h.L i).1 (k.L i).1, fun e => by
     have a := (h.L i).1; have b := (k.L i).1
     exact ((k.L i).2 (by omega)).trans ((h.L i).2 (by omega))⟩,
   fun i => ⟨Nat.le_trans (h.G i).1 (k.G i).1, fun e => by
     have a := (h.G i).1; have b := (k.G i).1
     exact ((k.G i).2 (by omega)).trans ((h.G i).2 (by omega))⟩⟩

theorem RV.mono {E E' : Env} {w w' : World} (hle : E.Le w E' w') {a : AV} {v : Value} (h : RV E w a v) : RV E' w' a v := by
  induction h with
  | pure a v h => exact .pure a v (h.mono hle.S hle.F)
  | own sz xs k g A n c h ho =>
    refine .own sz xs k g A n c (h.mono hle.S) ⟨Nat.le_trans ho.1 (hle.L k).1, fun e => ?_⟩
    have h1 := (hle.L k).1
    have h2 := ho.1
    have e1 : E.L k = E'.L k := by omega
    rw [(hle.L k).2 e1]
    exact ho.2 (by omega)
  | ptr k g off b hg hb =>
    refine .ptr k g off b (Nat.le_trans hg (hle.G k).1) (fun e => ?_)
    have h1 := (hle.G k).1
    have e1 : E.G k = E'.G k := by omega
    rw [(hle.G k).2 e1]
    exact hb (by omega)
  | bsl k g off n c b hg hb =>
    refine .bsl k g off n c b (Nat.le_trans hg (hle.G k).1) (fun e => ?_)
    have h1 := (hle.G k).1
    have e1 : E.G k = E'.G k := by omega
    rw [(hle.G k).2 e1]
    exact hb (by omega)
  | agg vs cs hl h1 h ih => exact .agg vs cs hl h1 ih
  | fn g caps vs hl h ih => exact .fn g caps vs hl ih

theorem RV.val_iff {E : Env} {w : World} {u v : Value} : RV E w (.val u) v ↔ v = u := by
  constructor
  · intro h
    cases h with
    | pure _ _ h => cases h with | data _ _ h => cases h; rfl
  · rintro rfl; exact .pure _ _ (.data _ _ (.val _))

theorem RV.any {E : Env} {w : World} (v : Value) : RV E w .any v := .pure _ _ (.data _ _ (.any v))

theorem RV.cell {E : Env} {w : World} {a : AV} {v : Value} (ha : a.isCell = true) (h : RV E w a v) : v.oneCell' = true := by
  cases h with
  | pure _ _ h =>
    cases h with
    | data _ _ h => cases h <;> simp_all [AV.isCell, Value.oneCell']
    | pelt => rfl
    | fn => rfl
  | own => rfl
  | ptr => rfl
  | bsl => rfl
  | agg => simp [AV.isCell] at ha
  | fn => rfl

/-- A slice, whoever owns it, reads as its list. -/
theorem RV.list_no {E : Env} {w : World} {sz : Nat} {xs : List AV} {o : Own} {v : Value} (h : RV E w (.list sz xs o) v) : RD E.S w (.list sz xs .no) v := by
  cases h with
  | pure _ _ h => cases h with | data _ _ h => exact h.no
  | own _ _ k g A n c h ho => exact h

theorem RV.agg_iff {E : Env} {w : World} {vs : List AV} {v : Value} : RV E w (.agg vs) v ↔ ∃ cs : Array Value, v = .agg cs ∧ vs.length = cs.size ∧ (∀ v ∈ cs, v.oneCell' = true) ∧ ∀ (i : Nat) c v, vs[i]? = some c → cs[i]? = some v → RV E w c v := by
  constructor
  · intro h
    cases h with
    | pure _ _ h => cases h with | data _ _ h => cases h with | agg _ cs hl h1 h => exact ⟨cs, rfl, hl, h1, fun i c v hc hv => .pure _ _ (.data _ _ (h i c v hc hv))⟩
    | agg _ cs hl h1 h => exact ⟨cs, rfl, hl, h1, h⟩
  · rintro ⟨cs, rfl, hl, h1, h⟩; exact .agg vs cs hl h1 h

/-- The cells of a value, as its words say. -/
theorem RV.cells {E : Env} {w : World} {a : AV} {v : Value} (h : RV E w a v) (hc : a.cells.all AV.isCell = true) :
    v.cells.size = a.cells.length ∧ (∀ u ∈ v.cells, u.oneCell' = true) ∧ ∀ (i : Nat) y u, a.cells[i]? = some y → v.cells[i]? = some u → RV E w y u := by
  by_cases hagg : ∃ vs, a = .agg vs
  · obtain ⟨vs, rfl⟩ := hagg
    obtain ⟨cs, rfl, hl, h1, h2⟩ := RV.agg_iff.1 h
    exact ⟨hl.symm, h1, h2⟩
  · have e1 : a.cells = [a] := by cases a <;> first | rfl | exact absurd ⟨_, rfl⟩ hagg
    rw [e1] at hc ⊢
    simp only [List.all_cons, List.all_nil, Bool.and_true] at hc
    have h1 := h.cell hc
    have e2 : v.cells = #[v] := by cases v <;> first | rfl | simp [Value.oneCell'] at h1
    rw [e2]
    refine ⟨rfl, by simpa using h1, fun i y u hy hu => ?_⟩
    have hi : i = 0 := by
      have := (List.getElem?_eq_some_iff.1 hy).1
      simp at this; exact this
    subst hi
    simp at hy hu
    subst hy; subst hu
    exact h

end Go.Proofs.YtmnpjaglgalobaaGreatW.E

/-
  The state of a frame in abstract values, how it stands to memory, and what one operation makes of it. Laws over any program; no condition.
-/
namespace Go.Proofs.YtmnpjaglgalobaaGreatW.E
open Go Go.RowKit
set_option linter.unusedVariables false
set_option linter.unusedSimpArgs false

def upd {α : Type} (f : Nat → α) (k : Nat) (v : α) : Nat → α := fun i => if i = k then v else f i
theorem upd_same {α : Type} (f : Nat → α) (k : Nat) (v : α) : upd f k v k = v := if_pos rfl
theorem upd_ne {α : Type} (f : Nat → α) {k i : Nat} (v : α) (h : i ≠ k) : upd f k v i = f i := if_neg h
theorem upd_comm {α : Type} (f : Nat → α) {k j : Nat} (v u : α) (h : k ≠ j) : upd (upd f k v) j u = upd (upd f j u) k v := by
  funext i; unfold upd; split <;> split <;> first | rfl | omega

structure St where
  n : Nat
  d : Nat
  s : Nat → AV
  B : Nat → Nat × List AV
  L : Nat → Nat

/-- Memory when the frame was entered, and what of it was settled. -/
structure Entry where
  w : World
  S : Pl
  E1 : Env
  w1 : World

structure OK (base : Nat) (w0 : Entry) (E : Env) (B : Nat → Nat × List AV) (L : Nat → Nat) (w : World) : Prop where
  hbase : base ≤ w0.w.heap.size
  below : Below base w0.w w
  sOld : ∀ b o, E.S b o → b < base → w0.S b o
  sCell : ∀ b o, E.S b o → ∃ v, w.cell? ⟨b, o, none⟩ = some v
  fCell : ∀ b o, E.F b o → ∃ v, w.cell? ⟨b, o, none⟩ = some v
  fOld : ∀ b o, E.F b o → E.S b o ∨ b < base
  sF : ∀ b o, E.S b o → E.F b o
  L : ∀ k, E.L k = L k
  G : ∀ k, E.G k = (B k).1
  box : ∀ k, (B k).2 ≠ [] → base ≤ E.bm k ∧ (∀ o, ¬ E.S (E.bm k) o) ∧ ∃ t ccs, w.heap[E.bm k]? = some (.cells ccs t (0, 0)) ∧ ccs.size = (B k).2.length ∧
    ∀ (i : Nat) c v, (B k).2[i]? = some c → ccs[i]? = some v → v.oneCell' = true ∧ RV E w c v
  boxinj : ∀ k k', k ≠ k' → (B k).2 ≠ [] → (B k').2 ≠ [] → E.bm k ≠ E.bm k'
  spare : ∀ k b lo hi, E.τ k = some (b, lo, hi) → base ≤ b ∧ (∀ o, lo ≤ o → o < hi → ¬ E.S b o) ∧ ∃ ccs t, w.heap[b]? = some (.cells ccs t (0, 0)) ∧ hi ≤ ccs.size
  spareinj : ∀ k k' b lo hi b' lo' hi', k ≠ k' → E.τ k = some (b, lo, hi) → E.τ k' = some (b', lo', hi') → b ≠ b'
  sparebox : ∀ k k' b lo hi, E.τ k = some (b, lo, hi) → (B k').2 ≠ [] → E.bm k' ≠ b

theorem OK.size {base : Nat} {w0 : Entry} {E : Env} {B : Nat → Nat × List AV} {L : Nat → Nat} {w : World} (h : OK base w0 E B L w) : base ≤ w.heap.size := Nat.le_trans h.hbase h.below.size

/-- How a state stands to a frame and to memory. -/
structure Rel (base : Nat) (w0 : Entry) (st : St) (a : Act) (w : World) : Prop where
  ex : ∃ E, OK base w0 E st.B st.L w ∧ w0.E1.Le w0.w1 E w ∧ ∀ t, RV E w (st.s t) (a.tmps.getD t undef)
  size : a.tmps.size = st.n
  defs : a.defers = []

def ofConst0 : Value → AV
  | .slice none 0 0 => .list 0 [] .full
  | v => .val v
def ofConst : Value → AV
  | .agg cs => if cs.all (·.oneCell') then .agg (cs.toList.map ofConst0) else .val (.agg cs)
  | v => ofConst0 v

def evalA (st : St) : Operand → AV
  | .tmp t => st.s t
  | .const v => ofConst v
  | .global _ => .any
  | .func f => .fn f []

theorem RD.nil (S : Pl) (w : World) (sz : Nat) (A : Option Addr) : RD S w (.list sz [] .full) (.slice A 0 0) :=
  RD.list sz [] .full A 0 0 0 (fun _ => undef) (Nat.le_refl _) (by simp) (by simp) (by simp [flat]) (by simp [flat]) (.inr ⟨rfl, rfl⟩)

theorem RD.ofConst0 (S : Pl) (w : World) (v : Value) : RD S w (ofConst0 v) v := by
  unfold E.ofConst0
  split
  · exact RD.nil S w 0 none
  · exact .val _

theorem RD.ofConst (S : Pl) (w : World) (v : Value) : RD S w (ofConst v) v := by
  unfold E.ofConst
  split
  · rename_i cs
    split
    · rename_i h
      refine .agg _ _ (by simp) (fun v hv => Array.all_eq_true_iff_forall_mem.1 h v hv) (fun i c u hc hu => ?_)
      simp only [List.getElem?_map, Option.map_eq_some_iff, Array.getElem?_toList] at hc
      obtain ⟨x, hx, rfl⟩ := hc
      rw [hu] at hx
      cases hx
      exact RD.ofConst0 S w _
    · exact .val _
  · exact RD.ofConst0 S w v

theorem evalA_ok {E : Env} {w : World} {st : St} {a : Act} (h : ∀ t, RV E w (st.s t) (a.tmps.getD t undef)) (x : Operand) : RV E w (evalA st x) (a.eval x) := by
  cases x with
  | tmp t => exact h t
  | const v => exact .pure _ _ (.data _ _ (RD.ofConst _ _ v))
  | global g => exact RV.any _
  | func f => exact .pure _ _ (.fn f [] #[] rfl (by simp))

/-- A value, where the words say all of it. -/
def toV0 : AV → Option Value
  | .val v => some v
  | _ => none
def toV : AV → Option Value
  | .val v => some v
  | .agg vs => (vs.mapM toV0).map fun us => .agg us.toArray
  | _ => none

theorem RV.list_val {E : Env} {w : World} : ∀ (vs : List AV) (us : List Value), vs.mapM toV0 = some us → ∀ cs : List Value, vs.length = cs.length → (∀ (i : Nat) c v, vs[i]? = some c → cs[i]? = some v → RV E w c v) → cs = us
  | [], us, h, cs, hl, _ => by
    simp at h; subst h
    cases cs <;> simp_all
  | a :: vs, us, h, cs, hl, hr => by
    cases cs with
    | nil => simp at hl
    | cons c cs =>
      simp only [List.mapM_cons, Option.bind_eq_bind, Option.pure_def, Option.bind_eq_some_iff] at h
      obtain ⟨u, hu, us', hus, h9⟩ := h
      cases h9
      have hc := hr 0 a c rfl rfl
      have ha : a = .val u := by cases a <;> simp_all [toV0]
      subst ha
      rw [RV.val_iff] at hc
      subst hc
      have := RV.list_val vs us' hus cs (by simpa using hl) (fun i c v hc hv => hr (i + 1) c v (by simpa using hc) (by simpa using hv))
      rw [this]

theorem toV_ok {E : Env} {w : World} {a : AV} {u v : Value} (h : toV a = some u) (hr : RV E w a v) : v = u := by
  cases a <;> simp only [toV, Option.some.injEq, reduceCtorEq, Option.map_eq_some_iff] at h
  · subst h; exact RV.val_iff.1 hr
  · obtain ⟨us, hus, rfl⟩ := h
    obtain ⟨cs, rfl, hl, _, hr⟩ := RV.agg_iff.1 hr
    have := RV.list_val _ us hus cs.toList (by simpa using hl) (fun i c v hc hv => hr i c v hc (by simpa using hv))
    subst this
    rfl

/-- What a meaning comes to that asks only the program. -/
def pureRun {α : Type} (P : Program) : Sem α → Option α
  | .pure a => some a
  | .program k => pureRun P (k P)
  | _ => none

theorem pureRun_ok {α : Type} {P : Program} (s : Sem α) {a : α} (h : pureRun P s = some a) (w : World) : s.run P w = .ok a w := by
  induction s with
  | pure b => simp only [pureRun, Option.some.injEq] at h; subst h; rfl
  | program k ih => exact ih P (by simpa [pureRun] using h)
  | _ => simp [pureRun] at h

/-- A type as the words need it. -/
structure TInfo where
  agg : Bool
  sz : Nat
  bytes : Nat
  zero : List AV
  fields : List (Nat × Nat × Bool)
  elem : Option Nat

def isRow : TypeDesc → Bool
  | .struct _ | .array _ _ => true
  | _ => false

/-- The size of an element, of each cell that is a slice. -/
def cellSz (P : Program) : Nat → TypeId → List Nat
  | 0, t => List.replicate (((P.info? t).map (·.size)).getD 0) 0
  | d + 1, t => match P.underlying t with
    | some (.slice e) => [((P.info? e).map (·.size)).getD 0]
    | some (.struct fs) => fs.toList.flatMap fun f => cellSz P d f.type
    | some (.array n e) => (List.replicate n (cellSz P d e)).flatten
    | _ => List.replicate (((P.info? t).map (·.size)).getD 0) 0

def fixZ : Value → Nat → AV
  | .slice none 0 0, n => .list n [] .full
  | v, _ => .val v
theorem RD.fixZ (S : Pl) (w : World) (v : Value) (n : Nat) : RD S w (fixZ v n) v := by
  unfold E.fixZ
  split
  · exact RD.nil S w _ none
  · exact .val _

def mkInfo (P : Program) (t : TypeId) : Option TInfo :=
  match P.underlying t, P.info? t with
  | some d, some i =>
    match i.zero with
    | some z =>
      if z.cells.all (·.oneCell') && z.cells.size == i.size then
        some { agg := isRow d, sz := i.size, bytes := i.bytes, zero := z.cells.toList.zipIdx.map fun x => fixZ x.1 ((cellSz P 4 t).getD x.2 0),
               fields := (match d with
                 | .struct fs => fs.toList.map fun f => (f.offset, ((P.info? f.type).map (·.size)).getD 0, ((P.underlying f.type).map isRow).getD true)
                 | _ => []),
               elem := (match d with | .slice e => some e | _ => none) }
      else none
    | none => none
  | _, _ => none

/-- A table of types, each row as the program has it. -/
abbrev Tab := List (Nat × TInfo)
def Tab.get (T : Tab) (t : Nat) : Option TInfo := T.lookup t
def Tab.OK (P : Program) (T : Tab) : Prop := ∀ t i, T.get t = some i → mkInfo P t = some i
theorem Tab.OK.nil (P : Program) : Tab.OK P [] := fun t i h => by simp [Tab.get] at h
theorem Tab.OK.cons {P : Program} {T : Tab} {t : Nat} {i : TInfo} (h : mkInfo P t = some i) (k : Tab.OK P T) : Tab.OK P ((t, i) :: T) := fun u j hj => by
  simp only [Tab.get, List.lookup_cons] at hj
  split at hj
  · rename_i e
    rw [beq_iff_eq] at e
    subst e
    cases hj
    exact h
  · exact k u j hj

structure TOK (P : Program) (t : TypeId) (i : TInfo) : Prop where
  ex : ∃ d inf z, P.underlying t = some d ∧ P.info? t = some inf ∧ inf.zero = some z ∧ i.agg = isRow d ∧ i.sz = inf.size ∧ i.bytes = inf.bytes ∧ z.cells.size = inf.size ∧
    (∀ v ∈ z.cells, v.oneCell' = true) ∧ i.zero.length = z.cells.size ∧ ∀ (S : Pl) (w : World) (j : Nat) c v, i.zero[j]? = some c → z.cells[j]? = some v → RD S w c v
  fields : ∀ (j : Nat) x, i.fields[j]? = some x → ∃ fs f, P.underlying t = some (.struct fs) ∧ fs[j]? = some f ∧ x = (f.offset, ((P.info? f.type).map (·.size)).getD 0, ((P.underlying f.type).map isRow).getD true)
  elem : ∀ e, i.elem = some e → P.underlying t = some (.slice e)
  nf : ∀ fs, P.underlying t = some (.struct fs) → i.fields.length = fs.size

theorem mkInfo_ok {P : Program} {t : TypeId} {i : TInfo} (h : mkInfo P t = some i) : TOK P t i := by
  unfold mkInfo at h
  split at h
  · rename_i d inf hd hinf
    split at h
    · rename_i z hz
      split at h
      · rename_i hall
        simp only [Bool.and_eq_true, beq_iff_eq] at hall
        cases h
        refine ⟨⟨d, inf, z, hd, hinf, hz, rfl, rfl, rfl, hall.2, ?_, by simp, ?_⟩, ?_, ?_, ?_⟩
        · exact fun v hv => (Array.all_eq_true_iff_forall_mem.1 hall.1) v hv
        · intro S w j c v hc hv
          simp only [List.getElem?_map, List.getElem?_zipIdx, Option.map_eq_some_iff, Option.map_map, Array.getElem?_toList] at hc
          obtain ⟨x, hx, rfl⟩ := hc
          rw [hv] at hx
          cases hx
          exact RD.fixZ S w _ _
        · intro j x hx
          dsimp only at hx
          split at hx
          · rename_i fs
            simp only [List.getElem?_map, Option.map_eq_some_iff, Array.getElem?_toList] at hx
            obtain ⟨f, hf, rfl⟩ := hx
            exact ⟨fs, f, hd, hf, rfl⟩
          · simp at hx
        · intro e he
          dsimp only at he
          split at he
          · simp only [Option.some.injEq] at he; subst he; exact hd
          · simp at he
        · intro fs hfs
          rw [hd] at hfs
          cases hfs
          simp
      · cases h
    · cases h
  · cases h

/-- What one operation makes: the value of its slot; a box that is new or turned; keys that go up. -/
structure Eff where
  v : AV
  box : Option (Nat × Nat × List AV) := none
  bump : List Nat := []

def St.app (st : St) (dst : Option Nat) (e : Eff) : St :=
  { n := st.n, d := st.d,
    s := match dst with | some t => upd st.s t e.v | none => st.s,
    B := match e.box with | some (k, gc) => upd st.B k gc | none => st.B,
    L := e.bump.foldl (fun L k => upd L k (L k + 1)) st.L }

/-- One operation is carried out as told. -/
def Does (P : Program) (base : Nat) (w0 : Entry) (st : St) (o : Oper) (e : Eff) : Prop :=
  ∀ E (a : Act) w, OK base w0 E st.B st.L w → (∀ t, RV E w (st.s t) (a.tmps.getD t undef)) → a.tmps.size = st.n → a.defers = [] →
    ∀ K Q, (∀ v w' E', E.Le w E' w' → OK base w0 E' (st.app o.dst e).B (st.app o.dst e).L w' → RV E' w' e.v v → K (a.put o.dst v) w') → o.wp P a w K Q

theorem slots_put {E E' : Env} {w w' : World} {st : St} {a : Act} {dst : Option Nat} {e : Eff} {v : Value} (h : ∀ t, RV E w (st.s t) (a.tmps.getD t undef)) (hn : a.tmps.size = st.n)
    (hd : ∀ t, dst = some t → t < st.n) (hle : E.Le w E' w') (hv : RV E' w' e.v v) : ∀ t, RV E' w' ((st.app dst e).s t) ((a.put dst v).tmps.getD t undef) := by
  intro t
  cases dst with
  | none => exact (h t).mono hle
  | some d =>
    have hd' := hd d rfl
    simp only [St.app, Act.put]
    by_cases ht : t = d
    · subst ht
      rw [upd_same]
      have : (a.tmps.setIfInBounds t v).getD t undef = v := by simp [Array.getD, hn, hd']
      rw [this]; exact hv
    · rw [upd_ne _ _ ht]
      have : (a.tmps.setIfInBounds d v).getD t undef = a.tmps.getD t undef := by
        simp only [Array.getD_eq_getD_getElem?]
        rw [Array.getElem?_setIfInBounds_ne (by omega)]
      rw [this]
      exact (h t).mono hle

/-- So the frame behind the operation is as told. -/
theorem Does.rel {P : Program} {base : Nat} {w0 : Entry} {st : St} {o : Oper} {e : Eff} (hdo : Does P base w0 st o e) (hd : ∀ t, o.dst = some t → t < st.n) {a : Act} {w : World} (hrel : Rel base w0 st a w)
    {K : Act → World → Prop} {Q : Exit → Act → World → Prop} (hK : ∀ a' w', Rel base w0 (st.app o.dst e) a' w' → K a' w') : o.wp P a w K Q := by
  obtain ⟨E, hok, hle0, hs⟩ := hrel.ex
  refine hdo E a w hok hs hrel.size hrel.defs K Q (fun v w' E' hle hok' hv => hK _ _ ⟨⟨E', hok', hle0.trans hle, slots_put hs hrel.size hd hle hv⟩, ?_, ?_⟩)
  · cases o.dst <;> simp [Act.put, St.app, hrel.size]
  · cases o.dst <;> simp [Act.put, hrel.defs]

/-- An operation that yields a value and turns nothing. -/
theorem does_pure {P : Program} {base : Nat} {w0 : Entry} {st : St} {o : Oper} {v : AV} (h : ∀ E (a : Act) w, OK base w0 E st.B st.L w → (∀ t, RV E w (st.s t) (a.tmps.getD t undef)) →
    ∃ u, (execOp a.eval o).run P w = .ok (.value u) w ∧ RV E w v u) : Does P base w0 st o { v } := by
  intro E a w hok hs hn hd K Q hK
  obtain ⟨u, hu, hr⟩ := h E a w hok hs
  unfold Oper.wp
  rw [hu]
  exact hK u w E (Env.Le.refl _ _) hok hr

end Go.Proofs.YtmnpjaglgalobaaGreatW.E

/-
  What single operations make of a state in abstract values: moves, numbers, boxes, loads, stores, fields. Laws over any program; no condition.
-/
namespace Go.Proofs.YtmnpjaglgalobaaGreatW.E
open Go Go.RowKit
set_option linter.unusedVariables false
set_option linter.unusedSimpArgs false

section
variable {P : Program} {base : Nat} {w0 : Entry} {st : St} {o : Oper}

theorem does_move {x : Operand} (ho : o.op = .move x ∨ o.op = .assign x) : Does P base w0 st o { v := evalA st x } :=
  does_pure fun E a w hok hs => ⟨a.eval x, by rcases ho with ho | ho <;> simp [execOp, ho], evalA_ok hs x⟩

/-- A constant nil, as a slice of its type. -/
def anil (T : Tab) (t : TypeId) (st : St) : Operand → AV
  | .const (.slice none 0 0) => .list (((T.get t).bind fun i => i.elem.bind fun e => (T.get e).map (·.sz)).getD 0) [] .full
  | x => evalA st x
theorem anil_ok {E : Env} {w : World} {a : Act} {T : Tab} {t : TypeId} (h : ∀ t, RV E w (st.s t) (a.tmps.getD t undef)) (x : Operand) : RV E w (anil T t st x) (a.eval x) := by
  unfold anil
  split
  · exact .pure _ _ (.data _ _ (RD.nil _ _ _ _))
  · exact evalA_ok h x
theorem does_moveN {T : Tab} {x : Operand} (ho : o.op = .move x ∨ o.op = .assign x) : Does P base w0 st o { v := anil T o.type st x } :=
  does_pure fun E a w hok hs => ⟨a.eval x, by rcases ho with ho | ho <;> simp [execOp, ho], anil_ok hs x⟩

theorem does_pick {c x y : Operand} (ho : o.op = .pick c x y) {t : Bool} (hc : evalA st c = .val (.bool t)) : Does P base w0 st o { v := if t then evalA st x else evalA st y } :=
  does_pure fun E a w hok hs => by
    have h1 := evalA_ok hs c
    rw [hc, RV.val_iff] at h1
    refine ⟨if t then a.eval x else a.eval y, by simp [execOp, ho, h1, asBool], ?_⟩
    cases t
    · exact evalA_ok hs y
    · exact evalA_ok hs x

def abin (P : Program) (op : BinOp) (t : TypeId) (x y : Operand) (a b : Value) : Option Value := pureRun P (do eqGuard op t x y a b; binOp op t a b)
theorem does_bin {op : BinOp} {t u : TypeId} {x y : Operand} (ho : o.op = .binOp op t x y u) {a b v : Value} (ha : toV (evalA st x) = some a) (hb : toV (evalA st y) = some b)
    (h : abin P op t x y a b = some v) : Does P base w0 st o { v := .val v } :=
  does_pure fun E ac w hok hs => by
    have h1 := toV_ok ha (evalA_ok hs x)
    have h2 := toV_ok hb (evalA_ok hs y)
    refine ⟨v, ?_, .pure _ _ (.data _ _ (.val _))⟩
    have h3 := pureRun_ok _ h w
    simp only [execOp, ho, h1, h2, Sem.run_bind] at h3 ⊢
    rw [h3]; rfl

/-- A slice against nil. -/
def anilt (T : Tab) (st : St) (op : BinOp) (t : TypeId) (x y : Operand) : Option Bool :=
  match y with
  | .const (.slice none 0 0) => match (T.get t).bind (·.elem) with
    | some _ => match evalA st x with
      | .list _ (_ :: _) _ => match op with
        | .eql => some false
        | .neq => some true
        | _ => none
      | .val (.slice none _ _) => match op with
        | .eql => some true
        | .neq => some false
        | _ => none
      | .val (.slice (some _) _ _) => match op with
        | .eql => some false
        | .neq => some true
        | _ => none
      | _ => none
    | none => none
  | _ => none
theorem pure_eql_nil {t e : TypeId} (h : P.underlying t = some (.slice e)) (A : Option Addr) (n c : Nat) (w : World) : (Op.equal t (.slice A n c) (.slice none 0 0)).run P w = .ok A.isNone w := by
  show (Op.equalIn (9999 + 1) t (.slice A n c) (.slice none 0 0)).run P w = _
  unfold Op.equalIn
  rw [Sem.run_bind, run_underlying h]
  cases A <;> rfl
theorem does_nilt {T : Tab} (hT : T.OK P) {op : BinOp} {t u : TypeId} {x y : Operand} (ho : o.op = .binOp op t x y u) {b : Bool} (h : anilt T st op t x y = some b) : Does P base w0 st o { v := .val (.bool b) } :=
  does_pure fun E a w hok hs => by
    have key : ∃ A n c e, y = .const (.slice none 0 0) ∧ a.eval x = .slice A n c ∧ P.underlying t = some (.slice e) ∧ ((op = .eql ∧ b = A.isNone) ∨ (op = .neq ∧ b = !A.isNone)) := by
      have h1 := evalA_ok hs x
      unfold anilt at h
      split at h
      · split at h
        · rename_i e he
          obtain ⟨i, hi, he⟩ := Option.bind_eq_some_iff.1 he
          have hu := (mkInfo_ok (hT _ _ hi)).elem _ he
          split at h
          · rename_i sz z zs ow hx
            rw [hx] at h1
            obtain ⟨A, c, b0, off, hv, hc, hA, _⟩ := RD.list_iff.1 h1.list_no
            have hA' := hA (by simp)
            subst hA'
            split at h <;> cases h
            · exact ⟨_, _, _, _, rfl, hv, hu, .inl ⟨rfl, rfl⟩⟩
            · exact ⟨_, _, _, _, rfl, hv, hu, .inr ⟨rfl, rfl⟩⟩
          · rename_i n c hx
            rw [hx, RV.val_iff] at h1
            split at h <;> cases h
            · exact ⟨_, _, _, _, rfl, h1, hu, .inl ⟨rfl, rfl⟩⟩
            · exact ⟨_, _, _, _, rfl, h1, hu, .inr ⟨rfl, rfl⟩⟩
          · rename_i A n c hx
            rw [hx, RV.val_iff] at h1
            split at h <;> cases h
            · exact ⟨_, _, _, _, rfl, h1, hu, .inl ⟨rfl, rfl⟩⟩
            · exact ⟨_, _, _, _, rfl, h1, hu, .inr ⟨rfl, rfl⟩⟩
          · cases h
        · cases h
      · cases h
    obtain ⟨A, n, c, e, rfl, hx, hu, hb⟩ := key
    refine ⟨.bool b, ?_, .pure _ _ (.data _ _ (.val _))⟩
    have hy : a.eval (.const (.slice none 0 0)) = .slice none 0 0 := rfl
    have h3 := pure_eql_nil hu A n c w
    rcases hb with ⟨rfl, rfl⟩ | ⟨rfl, rfl⟩
    · have h2 : (do eqGuard .eql t x (.const (.slice none 0 0)) (.slice A n c) (.slice none 0 0); binOp .eql t (.slice A n c) (.slice none 0 0) : Sem Value) = (do pure (.bool (← Op.equal t (.slice A n c) (.slice none 0 0)))) := rfl
      have h4 := congrArg (fun s => s.run P w) h2
      simp only [Sem.run_bind, h3] at h4
      simp only [execOp, ho, hx, hy, Sem.run_bind] at h4 ⊢
      rw [h4]; rfl
    · have h2 : (do eqGuard .neq t x (.const (.slice none 0 0)) (.slice A n c) (.slice none 0 0); binOp .neq t (.slice A n c) (.slice none 0 0) : Sem Value) = (do pure (.bool (!(← Op.equal t (.slice A n c) (.slice none 0 0))))) := rfl
      have h4 := congrArg (fun s => s.run P w) h2
      simp only [Sem.run_bind, h3] at h4
      simp only [execOp, ho, hx, hy, Sem.run_bind] at h4 ⊢
      rw [h4]; rfl

/-- Bytes as a string. -/
def byt : AV → Option Int
  | .val (.int .u8 n) => some n
  | _ => none
def bcat (ns : List Int) : ByteArray := ns.foldl (fun r n => r.push (UInt8.ofNat n.toNat)) ByteArray.empty
def abstr (P : Program) (T : Tab) (st : St) (s d : TypeId) (x : Operand) : Option ByteArray :=
  match evalA st x with
  | .list _ xs _ => (T.get s).bind fun i => i.elem.bind fun e => match P.underlying e with
    | some (.int .u8) => match P.underlying d with
      | some .string => (xs.mapM byt).map bcat
      | _ => none
    | _ => none
  | _ => none
theorem mapM_byt : ∀ {xs : List AV} {ns : List Int}, xs.mapM byt = some ns → xs = ns.map fun n => .val (.int .u8 n)
  | [], ns, h => by simp at h; subst h; rfl
  | x :: xs, ns, h => by
    simp only [List.mapM_cons] at h
    obtain ⟨n, hn, h⟩ := Option.bind_eq_some_iff.1 h
    obtain ⟨ms, hm, h⟩ := Option.bind_eq_some_iff.1 h
    cases h
    rw [mapM_byt hm, List.map_cons]
    congr 1
    unfold byt at hn
    split at hn <;> cases hn
    rfl
theorem flat_u8 : ∀ ns : List Int, flat (ns.map fun n => .val (.int .u8 n)) = ns.map fun n => .val (.int .u8 n)
  | [] => rfl
  | n :: ns => by
    have ih := flat_u8 ns
    simp only [flat, List.map_cons, List.flatMap_cons] at ih ⊢
    rw [ih]; rfl
theorem does_b2s {T : Tab} (hT : T.OK P) {s d : TypeId} {x : Operand} (ho : o.op = .convert s d x) {b : ByteArray} (h : abstr P T st s d x = some b) : Does P base w0 st o { v := .val (.string b) } :=
  does_pure fun E a w hok hs => by
    have h1 := evalA_ok hs x
    unfold abstr at h
    split at h
    · rename_i sz xs ow hx
      obtain ⟨i, hi, h⟩ := Option.bind_eq_some_iff.1 h
      obtain ⟨e, he, h⟩ := Option.bind_eq_some_iff.1 h
      have hu := (mkInfo_ok (hT _ _ hi)).elem _ he
      split at h
      · rename_i hue
        split at h
        · rename_i hud
          obtain ⟨ns, hns, h⟩ := Option.map_eq_some_iff.1 h
          subst h
          have hxs := mapM_byt hns
          rw [hx] at h1
          obtain ⟨A, c, b0, off, hv, hc, hA, hz, hrow, _⟩ := RD.list_iff.1 h1.list_no
          refine ⟨.string (bcat ns), ?_, .pure _ _ (.data _ _ (.val _))⟩
          have hconv : (convert s d (.slice A xs.length c)).run P w = (Conv.bytesToString (.slice A xs.length c)).run P w := by
            unfold convert
            rw [Sem.run_bind, run_underlying hu]
            simp only [Result.andThen]
            rw [Sem.run_bind, run_underlying hud]
            simp only [Result.andThen]
            cases A <;> (show Sem.run P (_ >>= _) w = _; rw [Sem.run_bind, run_underlying hue]; rfl)
          simp only [execOp, ho, hv, hconv, Sem.run_bind]
          cases A with
          | none =>
            have : xs = [] := by
              cases xs with
              | nil => rfl
              | cons x xs => have := hA (by simp); cases this
            subst this
            have : ns = [] := by cases ns with
              | nil => rfl
              | cons n ns => cases hxs
            subst this
            rfl
          | some ad =>
            have hl : (loadCells ad xs.length).run P w = .ok (ns.map (Value.int .u8)).toArray w := by
              have := run_loadCells_list (P := P) (w := w) ad (ns.map (Value.int .u8)) (fun j v hj => by
                have hfl : flat xs = xs := by rw [hxs]; exact flat_u8 ns
                have hne : xs ≠ [] := by
                  rintro rfl
                  have : ns = [] := by cases ns with
                    | nil => rfl
                    | cons n ns => cases hxs
                  subst this
                  simp at hj
                have hA' := hA hne
                cases hA'
                rw [List.getElem?_map] at hj
                obtain ⟨n, hn, rfl⟩ := Option.map_eq_some_iff.1 hj
                obtain ⟨_, u, hu1, _, hu2⟩ := hrow j (.val (.int .u8 n)) (by rw [hfl, hxs, List.getElem?_map, hn]; rfl)
                cases hu2
                unfold Addr.add
                split
                · rename_i h0; subst h0; exact hu1
                · exact hu1)
              rw [hxs]
              simpa using this
            rw [run_bytesToString w ad xs.length c ns hl]
            rfl
        · cases h
      · cases h
    · cases h

def aun (P : Program) (op : UnOp) (a : Value) : Option Value := pureRun P (Op.unary op a)
theorem does_un {op : UnOp} {t : TypeId} {x : Operand} (ho : o.op = .unOp op t x) {a v : Value} (ha : toV (evalA st x) = some a) (h : aun P op a = some v) : Does P base w0 st o { v := .val v } :=
  does_pure fun E ac w hok hs => by
    have h1 := toV_ok ha (evalA_ok hs x)
    refine ⟨v, ?_, .pure _ _ (.data _ _ (.val _))⟩
    have h3 := pureRun_ok _ h w
    simp only [execOp, ho, h1, Sem.run_bind, h3]; rfl

def aconv (P : Program) (s d : TypeId) (a : Value) : Option Value := pureRun P (convert s d a)
theorem does_conv {s d : TypeId} {x : Operand} (ho : o.op = .convert s d x) {a v : Value} (ha : toV (evalA st x) = some a) (h : aconv P s d a = some v) : Does P base w0 st o { v := .val v } :=
  does_pure fun E ac w hok hs => by
    have h1 := toV_ok ha (evalA_ok hs x)
    refine ⟨v, ?_, .pure _ _ (.data _ _ (.val _))⟩
    have h3 := pureRun_ok _ h w
    simp only [execOp, ho, h1, Sem.run_bind, h3]; rfl

theorem does_makeFunc {f : FuncId} {caps : Array Operand} (ho : o.op = .makeFunc (.func f) #[] caps) : Does P base w0 st o { v := .fn f (caps.toList.map (evalA st)) } :=
  does_pure fun E a w hok hs => by
    refine ⟨.func (.func f) #[] (caps.map a.eval), by simp [execOp, ho, Instr.makeFunc], .fn _ _ _ (by simp) (fun i c v hc hv => ?_)⟩
    simp only [List.getElem?_map, Option.map_eq_some_iff, Array.getElem?_toList] at hc
    obtain ⟨x, hx, rfl⟩ := hc
    simp only [Array.getElem?_map, hx, Option.map_some, Option.some.injEq] at hv
    subst hv
    exact evalA_ok hs x

theorem RD.tup_inv {S : Pl} {w : World} {vs : List AV} {v : Value} (h : RD S w (.tup vs) v) : ∃ cs : Array Value, v = .tuple cs ∧ vs.length = cs.size ∧ ∀ (i : Nat) c v, vs[i]? = some c → cs[i]? = some v → RD S w c v := by
  cases h with | tup _ cs hl h => exact ⟨cs, rfl, hl, h⟩
theorem RV.tup_inv {E : Env} {w : World} {vs : List AV} {v : Value} (h : RV E w (.tup vs) v) : ∃ cs : Array Value, v = .tuple cs ∧ vs.length = cs.size ∧ ∀ (i : Nat) c v, vs[i]? = some c → cs[i]? = some v → RD E.S w c v := by
  cases h with | pure _ _ h => cases h with | data _ _ h => exact h.tup_inv

theorem does_extract {t : Operand} {i : Nat} (ho : o.op = .extract t i) {vs : List AV} (ht : evalA st t = .tup vs) {v : AV} (hv : vs[i]? = some v) : Does P base w0 st o { v } :=
  does_pure fun E a w hok hs => by
    have h1 := evalA_ok hs t
    rw [ht] at h1
    obtain ⟨cs, hcs, hl, h2⟩ := h1.tup_inv
    have hi : i < cs.size := by rw [← hl]; exact (List.getElem?_eq_some_iff.1 hv).1
    refine ⟨cs[i], ?_, .pure _ _ (.data _ _ (h2 i v _ hv (by simp [hi])))⟩
    simp [execOp, ho, hcs, Instr.extract, hi]

/-- The value of a variable whose cells are told. -/
def rdCells (i : TInfo) (cs : List AV) : Option AV :=
  if i.agg then (if i.sz ≤ cs.length then some (.agg (cs.take i.sz)) else none) else (match cs with | c :: _ => some c | [] => none)

theorem run_loadVar_cells {t : TypeId} {i : TInfo} (hT : TOK P t i) {w : World} {R : AV → Value → Prop} {b off : Nat} {cs : List AV} {v : AV} (h : rdCells i cs = some v)
    (hrow : ∀ (j : Nat) y, cs[j]? = some y → ∃ u, w.cell? ⟨b, off + j, none⟩ = some u ∧ u.oneCell' = true ∧ R y u) :
    ∃ u, (loadVar t ⟨b, off, none⟩).run P w = .ok u w ∧ ((∃ vs us, v = .agg vs ∧ u = .agg us ∧ vs.length = us.size ∧ (∀ x ∈ us, x.oneCell' = true) ∧ ∀ (i : Nat) c x, vs[i]? = some c → us[i]? = some x → R c x) ∨ R v u) := by
  obtain ⟨d, inf, z, hd, hinf, hz, hagg, hsz, _⟩ := hT.ex
  unfold rdCells at h
  split at h
  · rename_i ha
    split at h
    · rename_i hle
      cases h
      let f : Nat → Value := fun j => (w.cell? ⟨b, off + j, none⟩).getD undef
      have hf : ∀ j, j < i.sz → ∃ y, cs[j]? = some y ∧ w.cell? ⟨b, off + j, none⟩ = some (f j) ∧ (f j).oneCell' = true ∧ R y (f j) := fun j hj => by
        have hj' : j < cs.length := by omega
        obtain ⟨u, h1, h2, h3⟩ := hrow j cs[j] (by simp [hj'])
        refine ⟨cs[j], by simp [hj'], ?_, ?_, ?_⟩ <;> simp only [f, h1, Option.getD_some] <;> assumption
      refine ⟨.agg ((List.range i.sz).map f).toArray, ?_, .inl ⟨_, _, rfl, rfl, by simp; omega, ?_, ?_⟩⟩
      · have hl := run_loadCells (P := P) w ⟨b, off, none⟩ i.sz f (fun j hj => by rw [Addr.add_mid]; exact (hf j hj).choose_spec.2.1)
        have : (isAgg t).run P w = .ok true w := by
          unfold isAgg
          rw [Sem.run_bind, run_underlying hd w]
          cases d <;> simp_all [isRow]
        simp only [loadVar, Sem.run_bind, this, Result.andThen_ok, if_true, sizeOf, typeInfo, run_program, hinf, Sem.run_pure, ← hsz, hl]
      · intro x hx
        simp only [List.mem_toArray, List.mem_map, List.mem_range] at hx
        obtain ⟨j, hj, rfl⟩ := hx
        obtain ⟨y, _, _, h2, _⟩ := hf j hj
        exact h2
      · intro j c x hc hx
        simp only [List.getElem?_toArray, List.getElem?_map, Option.map_eq_some_iff] at hx
        obtain ⟨j', hj', rfl⟩ := hx
        have hj1 : j < i.sz := by have := (List.getElem?_eq_some_iff.1 hj').1; simpa using this
        rw [List.getElem?_range hj1] at hj'
        cases hj'
        obtain ⟨y, h1, h2, h3, h4⟩ := hf j hj1
        rw [List.getElem?_take_of_lt hj1, h1] at hc
        cases hc
        exact h4
    · cases h
  · rename_i ha
    cases cs with
    | nil => cases h
    | cons c cs =>
      cases h
      obtain ⟨u, h1, h2, h3⟩ := hrow 0 v rfl
      refine ⟨u, ?_, .inr h3⟩
      have : (isAgg t).run P w = .ok false w := by
        unfold isAgg
        rw [Sem.run_bind, run_underlying hd w]
        cases d <;> simp_all [isRow]
      simp only [Nat.add_zero] at h1
      simp [loadVar, Sem.run_bind, this, h1]
end

end Go.Proofs.YtmnpjaglgalobaaGreatW.E

/-
  What new blocks, stores and appends make of memory that a state in abstract values tells. Laws over any program; no condition.
-/
namespace Go.Proofs.YtmnpjaglgalobaaGreatW.E
open Go Go.RowKit
set_option linter.unusedVariables false
set_option linter.unusedSimpArgs false

section
variable {base : Nat} {w0 : Entry} {E : Env} {B : Nat → Nat × List AV} {L : Nat → Nat} {w : World}

theorem cell_lt {b o : Nat} {v : Value} (h : w.cell? ⟨b, o, none⟩ = some v) : b < w.heap.size := World.block_lt_of_cell? w _ h
theorem OK.sLt (hok : OK base w0 E B L w) {b o : Nat} (h : E.S b o) : b < w.heap.size := let ⟨_, hv⟩ := hok.sCell b o h; cell_lt hv
theorem OK.fLt (hok : OK base w0 E B L w) {b o : Nat} (h : E.F b o) : b < w.heap.size := let ⟨_, hv⟩ := hok.fCell b o h; cell_lt hv
theorem OK.bmLt (hok : OK base w0 E B L w) {k : Nat} (h : (B k).2 ≠ []) : E.bm k < w.heap.size := by
  obtain ⟨_, _, t, ccs, h1, _⟩ := hok.box k h
  exact (Array.getElem?_eq_some_iff.1 h1).1
theorem OK.spLt (hok : OK base w0 E B L w) {k b lo hi : Nat} (h : E.τ k = some (b, lo, hi)) : b < w.heap.size := by
  obtain ⟨_, _, ccs, t, h1, _⟩ := hok.spare k b lo hi h
  exact (Array.getElem?_eq_some_iff.1 h1).1

theorem alloc_cell {o : Obj} {b j : Nat} (h : b < w.heap.size) : (w.alloc o).cell? ⟨b, j, none⟩ = w.cell? ⟨b, j, none⟩ := World.cell?_alloc_lt w o _ h
theorem alloc_heap {o : Obj} {k : Nat} (h : k < w.heap.size) : (w.alloc o).heap[k]? = w.heap[k]? := Below.heap_alloc w o k h

/-- Draws turn nothing. -/
theorem OK.drawn (hok : OK base w0 E B L w) (n : Nat) : E.Le w E (w.drewN n) ∧ OK base w0 E B L (w.drewN n) := by
  have hle : E.Le w E (w.drewN n) := ⟨fun _ _ h => ⟨h, rfl⟩, fun _ _ h => ⟨h, rfl⟩, fun _ => ⟨Nat.le_refl _, fun _ => rfl⟩, fun _ => ⟨Nat.le_refl _, fun _ => rfl⟩⟩
  refine ⟨hle, hok.hbase, ⟨hok.below.os, hok.below.tape, hok.below.output, hok.below.size, hok.below.block⟩, hok.sOld, hok.sCell, hok.fCell, hok.fOld, hok.sF, hok.L, hok.G, fun k hk => ?_, hok.boxinj, hok.spare, hok.spareinj, hok.sparebox⟩
  obtain ⟨h1, h2, t, ccs, h3, h4, h5⟩ := hok.box k hk
  exact ⟨h1, h2, t, ccs, h3, h4, fun i c v hc hv => ⟨(h5 i c v hc hv).1, (h5 i c v hc hv).2.mono hle⟩⟩

/-- A new box under a key. -/
theorem OK.newBox (hok : OK base w0 E B L w) (key : Nat) (cs : List AV) (ccs : Array Value) (t : TypeId) (hl : ccs.size = cs.length)
    (h1 : ∀ (i : Nat) c v, cs[i]? = some c → ccs[i]? = some v → v.oneCell' = true ∧ RV E w c v) :
    E.Le w { E with G := upd E.G key ((B key).1 + 1), bm := upd E.bm key w.heap.size } (w.alloc (.cells ccs t)) ∧
    OK base w0 { E with G := upd E.G key ((B key).1 + 1), bm := upd E.bm key w.heap.size } (upd B key ((B key).1 + 1, cs)) L (w.alloc (.cells ccs t)) := by
  have hle : E.Le w { E with G := upd E.G key ((B key).1 + 1), bm := upd E.bm key w.heap.size } (w.alloc (.cells ccs t)) := by
    refine ⟨fun b o h => ⟨h, alloc_cell (hok.sLt h)⟩, fun b o h => ⟨h, alloc_cell (hok.fLt h)⟩, fun _ => ⟨Nat.le_refl _, fun _ => rfl⟩, fun k => ?_⟩
    have hG := hok.G k
    by_cases hk : k = key
    · subst hk
      simp only [upd_same]
      exact ⟨by omega, fun e => by omega⟩
    · show E.G k ≤ upd E.G key _ k ∧ (_ → upd E.bm key _ k = _)
      rw [upd_ne _ _ hk, upd_ne _ _ hk]
      exact ⟨Nat.le_refl _, fun _ => rfl⟩
  refine ⟨hle, hok.hbase, hok.below.alloc hok.size _, hok.sOld, fun b o h => ?_, fun b o h => ?_, hok.fOld, hok.sF, hok.L, fun k => ?_, fun k hk => ?_, fun k k' hne hk hk' => ?_, fun k b lo hi h => ?_, hok.spareinj, fun k k' b lo hi h hk' => ?_⟩
  · rw [alloc_cell (hok.sLt h)]; exact hok.sCell b o h
  · rw [alloc_cell (hok.fLt h)]; exact hok.fCell b o h
  · by_cases hk : k = key
    · subst hk; simp [upd_same]
    · simp only [upd_ne _ _ hk]; exact hok.G k
  · by_cases hkey : k = key
    · subst hkey
      simp only [upd_same]
      refine ⟨hok.size, fun o h => absurd (hok.sLt h) (Nat.lt_irrefl _), t, ccs, heap_alloc_new w _, hl, fun i c v hc hv => ⟨(h1 i c v hc hv).1, (h1 i c v hc hv).2.mono hle⟩⟩
    · simp only [upd_ne _ _ hkey] at hk ⊢
      obtain ⟨a1, a2, t', ccs', a3, a4, a5⟩ := hok.box k hk
      exact ⟨a1, a2, t', ccs', by rw [alloc_heap (hok.bmLt hk)]; exact a3, a4, fun i c v hc hv => ⟨(a5 i c v hc hv).1, (a5 i c v hc hv).2.mono hle⟩⟩
  · by_cases e1 : k = key
    · subst e1
      simp only [upd_same, upd_ne _ _ (Ne.symm hne)] at hk' ⊢
      have := hok.bmLt hk'
      omega
    · by_cases e2 : k' = key
      · subst e2
        simp only [upd_same, upd_ne _ _ e1] at hk ⊢
        have := hok.bmLt hk
        omega
      · simp only [upd_ne _ _ e1, upd_ne _ _ e2] at hk hk' ⊢
        exact hok.boxinj k k' hne hk hk'
  · obtain ⟨a1, a2, ccs', t', a3, a4⟩ := hok.spare k b lo hi h
    exact ⟨a1, a2, ccs', t', by rw [alloc_heap (hok.spLt h)]; exact a3, a4⟩
  · by_cases e2 : k' = key
    · subst e2
      simp only [upd_same]
      have := hok.spLt h
      omega
    · simp only [upd_ne _ _ e2] at hk' ⊢
      exact hok.sparebox k k' b lo hi h hk'

/-- A store into a box. -/
theorem OK.setBox (hok : OK base w0 E B L w) (key : Nat) (hne : (B key).2 ≠ []) (cs : List AV) (ccs : Array Value) (hlen : cs.length = (B key).2.length) (hl : ccs.size = cs.length)
    (h1 : ∀ (i : Nat) c v, cs[i]? = some c → ccs[i]? = some v → v.oneCell' = true ∧ RV E w c v) :
    E.Le w E (w.setRow (E.bm key) ccs) ∧ OK base w0 E (upd B key ((B key).1, cs)) L (w.setRow (E.bm key) ccs) := by
  obtain ⟨b1, b2, t, old, b3, b4, b5⟩ := hok.box key hne
  have sne : ∀ b o, E.S b o → b ≠ E.bm key := fun b o h e => b2 o (e ▸ h)
  have fne : ∀ b o, E.F b o → b ≠ E.bm key := fun b o h e => by
    rcases hok.fOld b o h with h | h
    · exact sne b o h e
    · omega
  have hle : E.Le w E (w.setRow (E.bm key) ccs) :=
    ⟨fun b o h => ⟨h, cell_setRow_other w _ _ _ (sne b o h)⟩, fun b o h => ⟨h, cell_setRow_other w _ _ _ (fne b o h)⟩, fun _ => ⟨Nat.le_refl _, fun _ => rfl⟩, fun _ => ⟨Nat.le_refl _, fun _ => rfl⟩⟩
  have cne : cs ≠ [] := fun e => hne (List.eq_nil_of_length_eq_zero (by rw [← hlen, e]; rfl))
  have bne : ∀ k, (upd B key ((B key).1, cs) k).2 ≠ [] → (B k).2 ≠ [] := fun k hk => by
    by_cases e : k = key
    · subst e; exact hne
    · simpa only [upd_ne _ _ e] using hk
  refine ⟨hle, hok.hbase, hok.below.trans ⟨rfl, rfl, rfl, by simp, fun k hk => setRow_other w _ k _ (by omega)⟩, hok.sOld, fun b o h => ?_, fun b o h => ?_, hok.fOld, hok.sF, hok.L, fun k => ?_, fun k hk => ?_, fun k k' h hk hk' => hok.boxinj k k' h (bne k hk) (bne k' hk'), fun k b lo hi h => ?_, hok.spareinj, fun k k' b lo hi h hk' => hok.sparebox k k' b lo hi h (bne k' hk')⟩
  · rw [(hle.S b o h).2]; exact hok.sCell b o h
  · rw [(hle.F b o h).2]; exact hok.fCell b o h
  · by_cases hk : k = key
    · subst hk; simp only [upd_same]; exact hok.G k
    · simp only [upd_ne _ _ hk]; exact hok.G k
  · by_cases hkey : k = key
    · subst hkey
      simp only [upd_same]
      exact ⟨b1, b2, t, ccs, setRow_heap w _ old _ t _ b3, hl, fun i c v hc hv => ⟨(h1 i c v hc hv).1, (h1 i c v hc hv).2.mono hle⟩⟩
    · simp only [upd_ne _ _ hkey] at hk ⊢
      obtain ⟨a1, a2, t', ccs', a3, a4, a5⟩ := hok.box k hk
      exact ⟨a1, a2, t', ccs', by rw [setRow_other w _ _ _ (hok.boxinj k key hkey hk hne)]; exact a3, a4, fun i c v hc hv => ⟨(a5 i c v hc hv).1, (a5 i c v hc hv).2.mono hle⟩⟩
  · obtain ⟨a1, a2, ccs', t', a3, a4⟩ := hok.spare k b lo hi h
    exact ⟨a1, a2, ccs', t', by rw [setRow_other w _ _ _ (Ne.symm (hok.sparebox k key b lo hi h hne))]; exact a3, a4⟩

/-- More of memory is settled, keys go up, spare cells change hands: no cell of the settled, no box is touched. -/
theorem OK.settle (hok : OK base w0 E B L w) {w' : World} {S' : Pl} {L' : Nat → Nat} {τ' : Nat → Option (Nat × Nat × Nat)}
    (hbel : Below base w w')
    (hS : ∀ b o, E.S b o → S' b o ∧ w'.cell? ⟨b, o, none⟩ = w.cell? ⟨b, o, none⟩)
    (hS' : ∀ b o, S' b o → ∃ v, w'.cell? ⟨b, o, none⟩ = some v)
    (hF : ∀ b o, E.F b o → b < base ∨ E.S b o)
    (hSo : ∀ b o, S' b o → E.S b o ∨ base ≤ b)
    (hL : ∀ k, L k ≤ L' k ∧ (L k = L' k → τ' k = E.τ k))
    (hbox : ∀ k, (B k).2 ≠ [] → w'.heap[E.bm k]? = w.heap[E.bm k]? ∧ ∀ o, ¬ S' (E.bm k) o)
    (hsp : ∀ k b lo hi, τ' k = some (b, lo, hi) → base ≤ b ∧ (∀ o, lo ≤ o → o < hi → ¬ S' b o) ∧ ∃ ccs t, w'.heap[b]? = some (.cells ccs t (0, 0)) ∧ hi ≤ ccs.size)
    (hinj : ∀ k k' b lo hi b' lo' hi', k ≠ k' → τ' k = some (b, lo, hi) → τ' k' = some (b', lo', hi') → b ≠ b')
    (hsb : ∀ k k' b lo hi, τ' k = some (b, lo, hi) → (B k').2 ≠ [] → E.bm k' ≠ b) :
    E.Le w { E with S := S', F := fun b o => E.F b o ∨ S' b o, L := L', τ := τ' } w' ∧ OK base w0 { E with S := S', F := fun b o => E.F b o ∨ S' b o, L := L', τ := τ' } B L' w' := by
  have hFc : ∀ b o, E.F b o → w'.cell? ⟨b, o, none⟩ = w.cell? ⟨b, o, none⟩ := fun b o h => by
    rcases hF b o h with h | h
    · exact World.cell?_of_block (w := w) (hbel.block b h)
    · exact (hS b o h).2
  have hle : E.Le w { E with S := S', F := fun b o => E.F b o ∨ S' b o, L := L', τ := τ' } w' :=
    ⟨hS, fun b o h => ⟨.inl h, hFc b o h⟩, fun k => by rw [hok.L]; exact hL k, fun _ => ⟨Nat.le_refl _, fun _ => rfl⟩⟩
  refine ⟨hle, hok.hbase, hok.below.trans hbel, fun b o h hb => (hSo b o h).elim (fun h => hok.sOld b o h hb) (fun h => by omega), hS', fun b o h => ?_, fun b o h => ?_, fun b o h => .inr h, fun _ => rfl, hok.G, fun k hk => ?_, hok.boxinj, hsp, hinj, hsb⟩
  · rcases h with h | h
    · rw [hFc b o h]; exact hok.fCell b o h
    · exact hS' b o h
  · rcases h with h | h
    · rcases hF b o h with h | h
      · exact .inr h
      · exact .inl (hS b o h).1
    · exact .inl h
  · obtain ⟨a1, a2, t', ccs', a3, a4, a5⟩ := hok.box k hk
    exact ⟨a1, (hbox k hk).2, t', ccs', by rw [(hbox k hk).1]; exact a3, a4, fun i c v hc hv => ⟨(a5 i c v hc hv).1, (a5 i c v hc hv).2.mono hle⟩⟩

theorem OK.fOld' (hok : OK base w0 E B L w) : ∀ b o, E.F b o → b < base ∨ E.S b o := fun b o h => (hok.fOld b o h).symm

/-- A new row: its first m cells are settled; the rest is the key d's, if one is named. -/
theorem OK.newRow (hok : OK base w0 E B L w) (ccs : Array Value) (t : TypeId) (m : Nat) (hm : m ≤ ccs.size) {L' : Nat → Nat} {τ' : Nat → Option (Nat × Nat × Nat)}
    (hL : ∀ k, L k ≤ L' k ∧ (L k = L' k → τ' k = E.τ k))
    (hτ : ∀ k x, τ' k = some x → E.τ k = some x ∨ (x = (w.heap.size, m, ccs.size)))
    (hu : ∀ k k' x y, τ' k = some x → τ' k' = some y → x.1 = w.heap.size → y.1 = w.heap.size → k = k') :
    E.Le w { E with S := fun b o => E.S b o ∨ (b = w.heap.size ∧ o < m), F := fun b o => E.F b o ∨ (E.S b o ∨ (b = w.heap.size ∧ o < m)), L := L', τ := τ' } (w.alloc (.cells ccs t)) ∧
    OK base w0 { E with S := fun b o => E.S b o ∨ (b = w.heap.size ∧ o < m), F := fun b o => E.F b o ∨ (E.S b o ∨ (b = w.heap.size ∧ o < m)), L := L', τ := τ' } B L' (w.alloc (.cells ccs t)) := by
  refine hok.settle (S' := fun b o => E.S b o ∨ (b = w.heap.size ∧ o < m)) ?_ ?_ ?_ hok.fOld' (fun b o h => h.imp id (fun h => by have := hok.size; omega)) hL ?_ ?_ ?_ ?_
  · exact (Below.refl base w).alloc hok.size _
  · exact fun b o h => ⟨.inl h, alloc_cell (hok.sLt h)⟩
  · rintro b o (h | ⟨rfl, h⟩)
    · rw [alloc_cell (hok.sLt h)]; exact hok.sCell b o h
    · exact ⟨ccs[o], by have h9 := heap_alloc_new w (.cells ccs t); unfold World.cell?; simp only [h9]; simp [show o < ccs.size by omega]⟩
  · refine fun k hk => ⟨alloc_heap (hok.bmLt hk), fun o h => ?_⟩
    rcases h with h | ⟨h, _⟩
    · exact (hok.box k hk).2.1 o h
    · have := hok.bmLt hk; omega
  · intro k b lo hi h
    rcases hτ k _ h with h | h
    · obtain ⟨a1, a2, ccs', t', a3, a4⟩ := hok.spare k b lo hi h
      have hlt := hok.spLt h
      exact ⟨a1, fun o h1 h2 h3 => h3.elim (a2 o h1 h2) (fun h4 => by omega), ccs', t', by rw [alloc_heap hlt]; exact a3, a4⟩
    · cases h
      exact ⟨hok.size, fun o h1 h2 h3 => h3.elim (fun h4 => absurd (hok.sLt h4) (Nat.lt_irrefl _)) (fun h4 => by omega), ccs, t, heap_alloc_new w _, Nat.le_refl _⟩
  · intro k k' b lo hi b' lo' hi' hne h h'
    rcases hτ k _ h with h1 | h1 <;> rcases hτ k' _ h' with h2 | h2
    · exact hok.spareinj k k' b lo hi b' lo' hi' hne h1 h2
    · have := hok.spLt h1; cases h2; omega
    · have := hok.spLt h2; cases h1; omega
    · exact fun e => hne (hu k k' _ _ h h' (by cases h1; rfl) (by cases h2; rfl))
  · intro k k' b lo hi h hk'
    rcases hτ k _ h with h | h
    · exact hok.sparebox k k' b lo hi h hk'
    · have := hok.bmLt hk'; cases h; omega

/-- An append in place: the first m spare cells of key k are written and settled; what is left is the key d's. -/
theorem OK.room (hok : OK base w0 E B L w) {k b lo hi : Nat} (hk : E.τ k = some (b, lo, hi)) (m : Nat) (hm : lo + m ≤ hi) (cur : Array Value) (t : TypeId) (hb : w.heap[b]? = some (.cells cur t (0, 0))) (cur' : Array Value)
    (hsz : cur'.size = cur.size) (hcur : ∀ o : Nat, o < lo ∨ lo + m ≤ o → cur'[o]? = cur[o]?) {L' : Nat → Nat} {τ' : Nat → Option (Nat × Nat × Nat)}
    (hL : ∀ k, L k ≤ L' k ∧ (L k = L' k → τ' k = E.τ k)) (hLk : L k ≠ L' k)
    (hτ : ∀ j x, τ' j = some x → (j ≠ k ∧ E.τ j = some x) ∨ x = (b, lo + m, hi))
    (hu : ∀ j j' x y, τ' j = some x → τ' j' = some y → x.1 = b → y.1 = b → j = j') :
    E.Le w { E with S := fun b' o => E.S b' o ∨ (b' = b ∧ lo ≤ o ∧ o < lo + m), F := fun b' o => E.F b' o ∨ (E.S b' o ∨ (b' = b ∧ lo ≤ o ∧ o < lo + m)), L := L', τ := τ' } (w.setRow b cur') ∧
    OK base w0 { E with S := fun b' o => E.S b' o ∨ (b' = b ∧ lo ≤ o ∧ o < lo + m), F := fun b' o => E.F b' o ∨ (E.S b' o ∨ (b' = b ∧ lo ≤ o ∧ o < lo + m)), L := L', τ := τ' } B L' (w.setRow b cur') := by
  obtain ⟨s1, s2, ccs0, t0, s3, s4⟩ := hok.spare k b lo hi hk
  rw [hb] at s3
  cases s3
  refine hok.settle (S' := fun b' o => E.S b' o ∨ (b' = b ∧ lo ≤ o ∧ o < lo + m)) ?_ ?_ ?_ hok.fOld' (fun b' o h => h.imp id (fun h => by omega)) hL ?_ ?_ ?_ ?_
  · exact ⟨rfl, rfl, rfl, by simp, fun j hj => setRow_other w _ j _ (by omega)⟩
  · refine fun b' o h => ⟨.inl h, ?_⟩
    by_cases e : b' = b
    · subst e
      rw [cell_setRow_same w b' o cur cur' t _ hb]
      have : w.cell? ⟨b', o, none⟩ = cur[o]? := by simp [World.cell?, hb]
      rw [this]
      refine hcur o ?_
      by_cases h1 : o < lo
      · exact .inl h1
      · by_cases h2 : lo + m ≤ o
        · exact .inr h2
        · exact absurd h (s2 o (by omega) (by omega))
    · exact cell_setRow_other w _ _ _ e
  · rintro b' o (h | ⟨rfl, h1, h2⟩)
    · by_cases e : b' = b
      · subst e
        rw [cell_setRow_same w b' o cur cur' t _ hb]
        obtain ⟨v, hv⟩ := hok.sCell b' o h
        have : o < cur.size := by simp [World.cell?, hb] at hv; exact (Array.getElem?_eq_some_iff.1 hv).1
        exact ⟨cur'[o], by simp [show o < cur'.size by omega]⟩
      · rw [cell_setRow_other w _ _ _ e]; exact hok.sCell b' o h
    · rw [cell_setRow_same w b' o cur cur' t _ hb]
      exact ⟨cur'[o], by simp [show o < cur'.size by omega]⟩
  · refine fun j hj => ⟨setRow_other w _ _ _ (hok.sparebox k j b lo hi hk hj), fun o h => ?_⟩
    rcases h with h | ⟨h, _⟩
    · exact (hok.box j hj).2.1 o h
    · exact hok.sparebox k j b lo hi hk hj h
  · intro j b' lo' hi' h
    rcases hτ j _ h with ⟨hne, h⟩ | h
    · have hbb := hok.spareinj j k b' lo' hi' b lo hi hne h hk
      obtain ⟨a1, a2, ccs', t', a3, a4⟩ := hok.spare j b' lo' hi' h
      exact ⟨a1, fun o h1 h2 h3 => h3.elim (a2 o h1 h2) (fun h4 => hbb h4.1), ccs', t', by rw [setRow_other w _ _ _ hbb]; exact a3, a4⟩
    · cases h
      exact ⟨s1, fun o h1 h2 h3 => h3.elim (s2 o (by omega) h2) (fun h4 => by omega), cur', t, setRow_heap w b cur cur' t _ hb, by omega⟩
  · intro j j' b1 lo1 hi1 b2 lo2 hi2 hne h h'
    rcases hτ j _ h with ⟨n1, h1⟩ | h1 <;> rcases hτ j' _ h' with ⟨n2, h2⟩ | h2
    · exact hok.spareinj j j' b1 lo1 hi1 b2 lo2 hi2 hne h1 h2
    · have := hok.spareinj j k b1 lo1 hi1 b lo hi n1 h1 hk; cases h2; exact this
    · have := hok.spareinj j' k b2 lo2 hi2 b lo hi n2 h2 hk; cases h1; exact Ne.symm this
    · exact fun e => hne (hu j j' _ _ h h' (by cases h1; rfl) (by cases h2; rfl))
  · intro j k' b' lo' hi' h hk'
    rcases hτ j _ h with ⟨_, h⟩ | h
    · exact hok.sparebox j k' b' lo' hi' h hk'
    · cases h; exact hok.sparebox k k' b lo hi hk hk'
end

end Go.Proofs.YtmnpjaglgalobaaGreatW.E

/-
  What single operations make of a state in abstract values: boxes, loads, stores, fields, elements, parts of slices. Laws over any program; no condition.
-/
namespace Go.Proofs.YtmnpjaglgalobaaGreatW.E
open Go Go.RowKit
set_option linter.unusedVariables false
set_option linter.unusedSimpArgs false

section flat
theorem flat_cons (x : AV) (xs : List AV) : flat (x :: xs) = x.cells ++ flat xs := by simp [flat]
theorem flat_append (xs ys : List AV) : flat (xs ++ ys) = flat xs ++ flat ys := by simp [flat]
theorem flat_len {sz : Nat} : ∀ (xs : List AV), (∀ x ∈ xs, x.cells.length = sz) → (flat xs).length = xs.length * sz
  | [], _ => by simp [flat]
  | x :: xs, h => by
    rw [flat_cons, List.length_append, flat_len xs (fun y hy => h y (List.mem_cons_of_mem _ hy)), h x List.mem_cons_self, List.length_cons, Nat.succ_mul, Nat.add_comm]
theorem flat_get {sz : Nat} : ∀ (xs : List AV), (∀ x ∈ xs, x.cells.length = sz) → ∀ (j : Nat) x, xs[j]? = some x → ∀ (i : Nat) c, x.cells[i]? = some c → (flat xs)[j * sz + i]? = some c
  | [], _, j, x, hx, i, c, hc => by simp at hx
  | y :: xs, h, 0, x, hx, i, c, hc => by
    simp at hx; subst hx
    rw [flat_cons, Nat.zero_mul, Nat.zero_add, List.getElem?_append_left (List.getElem?_eq_some_iff.1 hc).1]
    exact hc
  | y :: xs, h, j + 1, x, hx, i, c, hc => by
    have h0 := h y List.mem_cons_self
    rw [flat_cons, List.getElem?_append_right (by rw [h0, Nat.succ_mul]; omega), h0]
    have : (j + 1) * sz + i - sz = j * sz + i := by rw [Nat.succ_mul]; omega
    rw [this]
    exact flat_get xs (fun y hy => h y (List.mem_cons_of_mem _ hy)) j x (by simpa using hx) i c hc
theorem flat_drop {sz : Nat} : ∀ (n : Nat) (xs : List AV), (∀ x ∈ xs, x.cells.length = sz) → flat (xs.drop n) = (flat xs).drop (n * sz)
  | 0, xs, _ => by simp
  | n + 1, [], _ => by simp [flat]
  | n + 1, x :: xs, h => by
    have h0 := h x List.mem_cons_self
    rw [List.drop_succ_cons, flat_drop n xs (fun y hy => h y (List.mem_cons_of_mem _ hy)), flat_cons, List.drop_append, h0]
    have e1 : (n + 1) * sz - sz = n * sz := by rw [Nat.succ_mul]; omega
    have e2 : List.drop ((n + 1) * sz) x.cells = [] := List.drop_eq_nil_of_le (by rw [h0, Nat.succ_mul]; omega)
    rw [e1, e2, List.nil_append]
theorem flat_take {sz : Nat} : ∀ (n : Nat) (xs : List AV), (∀ x ∈ xs, x.cells.length = sz) → flat (xs.take n) = (flat xs).take (n * sz)
  | 0, xs, _ => by simp [flat]
  | n + 1, [], _ => by simp [flat]
  | n + 1, x :: xs, h => by
    have h0 := h x List.mem_cons_self
    rw [List.take_succ_cons, flat_cons, flat_take n xs (fun y hy => h y (List.mem_cons_of_mem _ hy)), flat_cons, List.take_append, h0]
    have e1 : (n + 1) * sz - sz = n * sz := by rw [Nat.succ_mul]; omega
    have e2 : List.take ((n + 1) * sz) x.cells = x.cells := List.take_of_length_le (by rw [h0, Nat.succ_mul]; omega)
    rw [e1, e2]
end flat

section
variable {P : Program} {base : Nat} {w0 : Entry} {st : St} {o : Oper}

/-- A pointer into a box that is there: its block, and its cells from there on. -/
theorem box_row {E : Env} {w : World} (hok : OK base w0 E st.B st.L w) {k g off : Nat} {v : Value} (hv : RV E w (.ptr k g off) v) (hg : (st.B k).1 = g) (hne : (st.B k).2 ≠ []) :
    v = .pointer (some ⟨E.bm k, off, none⟩) ∧ ∀ (j : Nat) y, ((st.B k).2.drop off)[j]? = some y → ∃ u, w.cell? ⟨E.bm k, off + j, none⟩ = some u ∧ u.oneCell' = true ∧ RV E w y u := by
  cases hv with
  | pure _ _ h => cases h with | data _ _ h => cases h
  | ptr _ _ _ b h1 h2 =>
    have hb : b = E.bm k := h2 (by rw [hok.G k]; exact hg.symm)
    subst hb
    refine ⟨rfl, fun j y hy => ?_⟩
    obtain ⟨_, _, t, ccs, h3, h4, h5⟩ := hok.box k hne
    rw [List.getElem?_drop] at hy
    have hlt : off + j < ccs.size := by rw [h4]; exact (List.getElem?_eq_some_iff.1 hy).1
    refine ⟨ccs[off + j], by simp [World.cell?, h3, hlt], ?_⟩
    exact h5 (off + j) y _ hy (by simp [hlt])

theorem does_load_ptr {t : TypeId} {x : Operand} (ho : o.op = .load t x) {k g off : Nat} (hx : evalA st x = .ptr k g off) (hg : (st.B k).1 = g) (hne : (st.B k).2 ≠ []) {i : TInfo} (hT : TOK P t i) {v : AV}
    (h : rdCells i ((st.B k).2.drop off) = some v) : Does P base w0 st o { v } :=
  does_pure fun E a w hok hs => by
    have h1 := evalA_ok hs x
    rw [hx] at h1
    obtain ⟨h2, h3⟩ := box_row hok h1 hg hne
    obtain ⟨u, hu, hr⟩ := run_loadVar_cells hT (R := RV E w) h h3
    refine ⟨u, ?_, ?_⟩
    · simp only [execOp, ho, h2, Instr.loadAt, Instr.sureAddr, Sem.run_bind, Sem.run_pure, Result.andThen_ok, hu]
    · rcases hr with ⟨vs, us, rfl, rfl, h4, h5, h6⟩ | hr
      · exact .agg vs us h4 h5 h6
      · exact hr

theorem RV.pelt_inv {E : Env} {w : World} {cs : List AV} {v : Value} (h : RV E w (.pelt cs) v) : ∃ b off, v = .pointer (some ⟨b, off, none⟩) ∧ Row E.F w (RP E.S E.F w) b off cs := by
  cases h with | pure _ _ h => exact RP.pelt_iff.1 h

theorem does_load_pelt {t : TypeId} {x : Operand} (ho : o.op = .load t x) {cs : List AV} (hx : evalA st x = .pelt cs) {i : TInfo} (hT : TOK P t i) {v : AV}
    (h : rdCells i cs = some v) : Does P base w0 st o { v } :=
  does_pure fun E a w hok hs => by
    have h1 := evalA_ok hs x
    rw [hx] at h1
    obtain ⟨b, off, h2, h3⟩ := h1.pelt_inv
    obtain ⟨u, hu, hr⟩ := run_loadVar_cells (w := w) (b := b) (off := off) hT (R := RV E w) h (fun j y hy => let ⟨_, u, a1, a2, a3⟩ := h3 j y hy; ⟨u, a1, a2, .pure _ _ a3⟩)
    refine ⟨u, ?_, ?_⟩
    · simp only [execOp, ho, h2, Instr.loadAt, Instr.sureAddr, Sem.run_bind, Sem.run_pure, Result.andThen_ok, hu]
    · rcases hr with ⟨vs, us, rfl, rfl, h4, h5, h6⟩ | hr
      · exact .agg vs us h4 h5 h6
      · exact hr

theorem does_box {t : TypeId} {x : Operand} (ho : o.op = .box t x) {key : Nat} (hc : (evalA st x).cells.all AV.isCell = true) :
    Does P base w0 st o { v := .ptr key ((st.B key).1 + 1) 0, box := some (key, (st.B key).1 + 1, (evalA st x).cells) } := by
  intro E a w hok hs hn hd K Q hK
  obtain ⟨h1, h2, h3⟩ := (evalA_ok hs x).cells hc
  obtain ⟨hle, hok'⟩ := hok.newBox key (evalA st x).cells (a.eval x).cells t h1 (fun i c v hc hv => ⟨h2 v (Array.mem_of_getElem? hv), h3 i c v hc hv⟩)
  have hrun : (execOp a.eval o).run P w = .ok (.value (.pointer (some ⟨w.heap.size, 0, none⟩))) (w.alloc (.cells (a.eval x).cells t)) := by
    simp only [execOp, ho, Instr.box, newVar, newRow, Sem.run_bind, run_newObj, Result.andThen_ok, Sem.run_pure]; rfl
  unfold Oper.wp
  rw [hrun]
  refine hK _ _ _ hle hok' (.ptr _ _ _ _ ?_ ?_)
  · simp [upd_same]
  · simp [upd_same]

theorem does_alloc {t : TypeId} (ho : o.op = .alloc t) {key : Nat} {i : TInfo} (hT : TOK P t i) :
    Does P base w0 st o { v := .ptr key ((st.B key).1 + 1) 0, box := some (key, (st.B key).1 + 1, i.zero) } := by
  intro E a w hok hs hn hd K Q hK
  obtain ⟨d, inf, z, _, hinf, hz, _, _, _, _, hone, hzlen, hzero⟩ := hT.ex
  obtain ⟨hle, hok'⟩ := hok.newBox key i.zero z.cells t hzlen.symm (fun j c v hc hv => ⟨hone v (Array.mem_of_getElem? hv), .pure _ _ (.data _ _ (hzero _ _ j c v hc hv))⟩)
  have hrun : (execOp a.eval o).run P w = .ok (.value (.pointer (some ⟨w.heap.size, 0, none⟩))) (w.alloc (.cells z.cells t)) := by
    simp only [execOp, ho, Instr.alloc, zeroValue, typeInfo, newVar, newRow, Sem.run_bind, run_program, hinf, hz, run_newObj, Result.andThen_ok, Sem.run_pure]; rfl
  unfold Oper.wp
  rw [hrun]
  refine hK _ _ _ hle hok' (.ptr _ _ _ _ ?_ ?_)
  · simp [upd_same]
  · simp [upd_same]

def splice {α : Type} (cs : List α) (off : Nat) (xs : List α) : List α := cs.take off ++ xs ++ cs.drop (off + xs.length)
theorem splice_get {α : Type} (cs xs : List α) (off : Nat) (h : off + xs.length ≤ cs.length) (i : Nat) : (splice cs off xs)[i]? = if off ≤ i ∧ i < off + xs.length then xs[i - off]? else cs[i]? := by
  unfold splice
  rw [List.append_assoc]
  by_cases h1 : i < off
  · rw [List.getElem?_append_left (by simp; omega), List.getElem?_take_of_lt h1, if_neg (by omega)]
  · rw [List.getElem?_append_right (by simp; omega)]
    have : (cs.take off).length = off := by simp; omega
    rw [this]
    by_cases h2 : i < off + xs.length
    · rw [List.getElem?_append_left (by omega), if_pos ⟨by omega, h2⟩]
    · rw [List.getElem?_append_right (by omega), List.getElem?_drop, if_neg (by omega)]
      congr 1
      omega
theorem splice_len {α : Type} (cs xs : List α) (off : Nat) (h : off + xs.length ≤ cs.length) : (splice cs off xs).length = cs.length := by
  simp [splice]; omega

theorem does_store {t : TypeId} {x y : Operand} (ho : o.op = .store t x y) {k g off : Nat} (hx : evalA st x = .ptr k g off) (hg : (st.B k).1 = g) (hne : (st.B k).2 ≠ []) {i : TInfo} (hT : TOK P t i)
    (hc : (evalA st y).cells.all AV.isCell = true) (hsz : (evalA st y).cells.length = i.sz) (hfit : off + (evalA st y).cells.length ≤ (st.B k).2.length) :
    Does P base w0 st o { v := .val undef, box := some (k, g, splice (st.B k).2 off (evalA st y).cells) } := by
  intro E a w hok hs hn hd K Q hK
  have h1 := evalA_ok hs x
  rw [hx] at h1
  obtain ⟨hp, _⟩ := box_row hok h1 hg hne
  obtain ⟨d, inf, z, _, hinf, hz, _, hsz', _⟩ := hT.ex
  obtain ⟨c1, c2, c3⟩ := (evalA_ok hs y).cells hc
  obtain ⟨b1, b2, bt, old, b3, b4, b5⟩ := hok.box k hne
  have hst := run_storeCells_at P (E.bm k) off bt (a.eval y).cells.toList 0 old w b3 (by simp; omega) (by simpa using c2)
  have hnew : ((old.toList.take (off + 0) ++ (a.eval y).cells.toList ++ old.toList.drop (off + 0 + (a.eval y).cells.toList.length)).toArray) = (splice old.toList off (a.eval y).cells.toList).toArray := by
    simp [splice]
  rw [hnew] at hst
  have hlen : off + (a.eval y).cells.toList.length ≤ old.toList.length := by simp; omega
  obtain ⟨hle, hok'⟩ := hok.setBox k hne (splice (st.B k).2 off (evalA st y).cells) (splice old.toList off (a.eval y).cells.toList).toArray (splice_len _ _ _ hfit)
    (by rw [splice_len _ _ _ hfit, List.size_toArray, splice_len _ _ _ hlen]; simp [b4]) (fun j c v hcj hvj => by
      rw [splice_get _ _ _ hfit] at hcj
      rw [List.getElem?_toArray, splice_get _ _ _ hlen] at hvj
      simp only [Array.length_toList, c1] at hvj
      split at hcj
      · rename_i hin
        rw [if_pos hin] at hvj
        rw [Array.getElem?_toList] at hvj
        exact ⟨c2 v (Array.mem_of_getElem? hvj), c3 _ c v hcj hvj⟩
      · rename_i hin
        rw [if_neg hin] at hvj
        rw [Array.getElem?_toList] at hvj
        exact b5 j c v hcj hvj)
  have hrun : (execOp a.eval o).run P w = .ok .skip (w.setRow (E.bm k) (splice old.toList off (a.eval y).cells.toList).toArray) := by
    simp only [execOp, ho, hp, Instr.storeAt, Instr.sureAddr, storeVar, sizeOf, typeInfo, Sem.run_bind, run_program, hinf, Result.andThen_ok, Sem.run_pure]
    rw [if_neg (by rw [c1, hsz, hsz']; simp)]
    simp only [Sem.run_pure, Sem.run_bind, Result.andThen_ok, hst]
  unfold Oper.wp
  rw [hrun]
  subst hg
  exact hK undef _ _ hle hok' (RV.val_iff.2 rfl)

/-- A field's offset, its cells, is it a row? -/
theorem fieldAt_run {s : TypeId} {f : Nat} {i : TInfo} (hT : TOK P s i) {off sz : Nat} {ag : Bool} (hf : i.fields[f]? = some (off, sz, ag)) (hsz : sz ≠ 0) (w : World) (b o' : Nat) :
    (Instr.fieldAt s (.pointer (some ⟨b, o', none⟩)) f).run P w = .ok (.pointer (some ⟨b, o' + off, none⟩)) w := by
  obtain ⟨fs, fd, h1, h2, h3⟩ := hT.fields f _ hf
  simp only [Prod.mk.injEq] at h3
  obtain ⟨rfl, h4, h5⟩ := h3
  cases hi : P.info? fd.type with
  | none => simp [hi] at h4; exact absurd h4 hsz
  | some inf =>
    have h6 : inf.size = sz := by simp [hi] at h4; exact h4.symm
    simp only [Instr.fieldAt, Sem.run_bind, run_underlying h1 w, Result.andThen_ok, h2, Instr.sureAddr, Sem.run_pure, fieldPlace, sizeOf, typeInfo, run_program, hi, h6]
    rw [Sem.run_ite, if_neg hsz]
    simp [Addr.add_mid]

theorem does_fieldAddr_ptr {s : TypeId} {x : Operand} {f : Nat} (ho : o.op = .fieldAddr s x f) {i : TInfo} (hT : TOK P s i) {off sz : Nat} {ag : Bool} (hf : i.fields[f]? = some (off, sz, ag)) (hsz : sz ≠ 0)
    {k g o' : Nat} (hx : evalA st x = .ptr k g o') : Does P base w0 st o { v := .ptr k g (o' + off) } :=
  does_pure fun E a w hok hs => by
    have h1 := evalA_ok hs x
    rw [hx] at h1
    cases hp : a.eval x with
    | pointer A =>
      rw [hp] at h1
      cases h1 with
      | pure _ _ h => cases h with | data _ _ h => cases h
      | ptr _ _ _ b h2 h3 =>
        refine ⟨.pointer (some ⟨b, o' + off, none⟩), ?_, .ptr _ _ _ b h2 h3⟩
        simp only [execOp, ho, hp, Sem.run_bind, fieldAt_run hT hf hsz, Result.andThen_ok, Sem.run_pure]
    | _ => rw [hp] at h1; cases h1 with | pure _ _ h => cases h with | data _ _ h => cases h

theorem does_fieldAddr_pelt {s : TypeId} {x : Operand} {f : Nat} (ho : o.op = .fieldAddr s x f) {i : TInfo} (hT : TOK P s i) {off sz : Nat} {ag : Bool} (hf : i.fields[f]? = some (off, sz, ag)) (hsz : sz ≠ 0)
    {cs : List AV} (hx : evalA st x = .pelt cs) : Does P base w0 st o { v := .pelt (cs.drop off) } :=
  does_pure fun E a w hok hs => by
    have h1 := evalA_ok hs x
    rw [hx] at h1
    obtain ⟨b, o', h2, h3⟩ := h1.pelt_inv
    refine ⟨.pointer (some ⟨b, o' + off, none⟩), ?_, .pure _ _ (RP.pelt_iff.2 ⟨b, o' + off, rfl, fun j y hy => ?_⟩)⟩
    · simp only [execOp, ho, h2, Sem.run_bind, fieldAt_run hT hf hsz, Result.andThen_ok, Sem.run_pure]
    · rw [List.getElem?_drop] at hy
      have := h3 (off + j) y hy
      rwa [Nat.add_assoc]

theorem does_field {s : TypeId} {x : Operand} {f : Nat} (ho : o.op = .field s x f) {i : TInfo} (hT : TOK P s i) {off sz : Nat} (hf : i.fields[f]? = some (off, sz, false)) 
    {cs : List AV} (hx : evalA st x = .agg cs) {v : AV} (hv : cs[off]? = some v) : Does P base w0 st o { v } :=
  does_pure fun E a w hok hs => by
    have h1 := evalA_ok hs x
    rw [hx] at h1
    obtain ⟨vs, h2, h3, h4, h5⟩ := RV.agg_iff.1 h1
    obtain ⟨fs, fd, h6, h7, h8⟩ := hT.fields f _ hf
    simp only [Prod.mk.injEq] at h8
    obtain ⟨rfl, h9, h10⟩ := h8
    have hlt : fd.offset < vs.size := by rw [← h3]; exact (List.getElem?_eq_some_iff.1 hv).1
    refine ⟨vs[fd.offset], ?_, h5 _ v _ hv (by simp [hlt])⟩
    cases hu : P.underlying fd.type with
    | none => simp [hu] at h10
    | some d =>
      have : (isAgg fd.type).run P w = .ok false w := by
        unfold isAgg
        rw [Sem.run_bind, run_underlying hu w]
        simp [hu] at h10
        cases d <;> simp_all [isRow]
      simp [execOp, ho, h2, Instr.field, Sem.run_bind, run_underlying h6 w, h7, part, this, asAgg, hlt]
end

end Go.Proofs.YtmnpjaglgalobaaGreatW.E

/-
  What single operations make of a state in abstract values: slices. Laws over any program; no condition.
-/
namespace Go.Proofs.YtmnpjaglgalobaaGreatW.E
open Go Go.RowKit
set_option linter.unusedVariables false
set_option linter.unusedSimpArgs false

section
variable {P : Program} {base : Nat} {w0 : Entry} {st : St} {o : Oper}

theorem TOK.size {t : TypeId} {i : TInfo} (hT : TOK P t i) (w : World) : (sizeOf t).run P w = .ok i.sz w := by
  obtain ⟨d, inf, z, _, hinf, hz, _, hsz, _⟩ := hT.ex
  simp [sizeOf, typeInfo, hinf, hsz]

/-- The address of an element. -/
theorem does_index {t e : TypeId} {x ix : Operand} (ho : o.op = .indexAddr t x ix) {i ei : TInfo} (hT : TOK P t i) (he : i.elem = some e) (hE : TOK P e ei)
    {xs : List AV} {ow : Own} (hx : evalA st x = .list ei.sz xs ow) {kd : IntKind} {j : Int} (hix : evalA st ix = .val (.int kd j)) (h0 : 0 ≤ j) {y : AV} (hy : xs[j.toNat]? = some y) :
    Does P base w0 st o { v := .pelt y.cells } :=
  does_pure fun E a w hok hs => by
    have h1 := evalA_ok hs x
    rw [hx] at h1
    have h2 := evalA_ok hs ix
    rw [hix, RV.val_iff] at h2
    obtain ⟨A, c, b, off, hv, hc, hA, hz, hrow, _⟩ := RD.list_iff.1 h1.list_no
    have hlt : j.toNat < xs.length := (List.getElem?_eq_some_iff.1 hy).1
    have hne : xs ≠ [] := fun h => by simp [h] at hlt
    have hAs := hA hne
    subst hAs
    refine ⟨.pointer (some ⟨b, off + j.toNat * ei.sz, none⟩), ?_, .pure _ _ (RP.pelt_iff.2 ⟨b, _, rfl, fun l c hl => ?_⟩)⟩
    · have hcond : 0 ≤ j ∧ j < (xs.length : Int) := ⟨h0, by omega⟩
      simp only [execOp, ho, hv, h2, Instr.indexAt, asIntOf, Sem.run_bind, Sem.run_pure, Result.andThen_ok, run_underlying (hT.elem e he) w]
      simp only [Sem.run_ite, hcond, and_self, if_true, Sem.run_bind, hE.size w, Result.andThen_ok, Sem.run_pure]
      simp [Addr.add_mid, hcond, hE.size w]
    · have hf := flat_get xs hz j.toNat y hy l c hl
      obtain ⟨h3, u, h4, h5, h6⟩ := hrow _ _ hf
      refine ⟨hok.sF _ _ (by rw [Nat.add_assoc]; exact h3), u, by rw [Nat.add_assoc]; exact h4, h5, .data _ _ h6⟩

/-- The bounds of a slice expression. -/
def bnd (st : St) (x : Option Operand) (d : Nat) : Option Nat :=
  match x with
  | none => some d
  | some x => match evalA st x with
    | .val (.int _ j) => if 0 ≤ j then some j.toNat else none
    | _ => none

theorem run_bound {E : Env} {w : World} {a : Act} (hs : ∀ t, RV E w (st.s t) (a.tmps.getD t undef)) {x : Operand} {d n : Nat} (h : bnd st (some x) d = some n) (y : Nat) (hy : n ≤ y) (code : BoundsCode) :
    (Instr.sliceBound (a.eval x) y code).run P w = .ok n w := by
  simp only [bnd] at h
  have h1 := evalA_ok hs x
  split at h
  · rename_i k j hx
    rw [hx, RV.val_iff] at h1
    split at h
    · rename_i h0
      cases h
      have : 0 ≤ j ∧ j ≤ (y : Int) := ⟨h0, by omega⟩
      simp [Instr.sliceBound, h1, asIntOf, this]
    · cases h
  · cases h

theorem does_slice {t e : TypeId} {x : Operand} {lo hi mx : Option Operand} (ho : o.op = .slice t x lo hi mx) {i ei : TInfo} (hT : TOK P t i) (he : i.elem = some e) (hE : TOK P e ei)
    {sz : Nat} {xs : List AV} {ow : Own} (hx : evalA st x = .list sz xs ow) (hsz : sz = ei.sz ∨ xs = []) {l h m : Nat} (hl : bnd st lo 0 = some l) (hh : bnd st hi xs.length = some h) (hm : bnd st mx xs.length = some m) (h1 : l ≤ h) (h2 : h ≤ m) (h3 : m ≤ xs.length)
    (hmx : mx.isSome = true → hi.isSome = true) :
    Does P base w0 st o { v := .list ei.sz ((xs.take h).drop l) (if mx.isSome ∧ h = m then .full else .no) } :=
  does_pure fun E a w hok hs => by
    have hr := evalA_ok hs x
    rw [hx] at hr
    obtain ⟨A, c, b, off, hv, hc, hA, hz0, hrow, _⟩ := RD.list_iff.1 hr.list_no
    have hz : ∀ y ∈ xs, y.cells.length = ei.sz := fun y hy => by
      rcases hsz with h | h
      · rw [← h]; exact hz0 y hy
      · rw [h] at hy; simp at hy
    have hlen : ((xs.take h).drop l).length = h - l := by simp; omega
    have hz' : ∀ y ∈ (xs.take h).drop l, y.cells.length = ei.sz := fun y hy => hz y (List.mem_of_mem_take (List.mem_of_mem_drop hy))
    have hflat : flat ((xs.take h).drop l) = ((flat xs).take (h * ei.sz)).drop (l * ei.sz) := by
      rw [flat_drop l _ (fun y hy => hz y (List.mem_of_mem_take hy)), flat_take h xs hz]
    have hrun : ∃ M, h ≤ M ∧ (mx.isSome = true → M = m) ∧ (Instr.sliceBounds true xs.length c (lo.map a.eval) (hi.map a.eval) (mx.map a.eval)).run P w = .ok (l, h, M) w := by
      cases mx with
      | none =>
        refine ⟨c, by omega, by simp, ?_⟩
        cases hi with
        | none =>
          simp [bnd] at hh; subst hh
          cases lo with
          | none => simp [bnd] at hl; subst hl; simp [Instr.sliceBounds]
          | some lo => simp [Instr.sliceBounds, run_bound hs hl _ h1]
        | some hi =>
          cases lo with
          | none => simp [bnd] at hl; subst hl; simp [Instr.sliceBounds, run_bound hs hh c (by omega)]
          | some lo => simp [Instr.sliceBounds, run_bound hs hl _ h1, run_bound hs hh c (by omega)]
      | some mx =>
        refine ⟨m, h2, fun _ => rfl, ?_⟩
        cases hi with
        | none => simp at hmx
        | some hi =>
          cases lo with
          | none => simp [bnd] at hl; subst hl; simp [Instr.sliceBounds, run_bound hs hh m h2, run_bound hs hm c (by omega)]
          | some lo => simp [Instr.sliceBounds, run_bound hs hl _ h1, run_bound hs hh m h2, run_bound hs hm c (by omega)]
    obtain ⟨M, hM1, hM2, hM⟩ := hrun
    refine ⟨.slice (if M = l then A else A.map (·.add (l * ei.sz))) (h - l) (M - l), ?_, .pure _ _ (.data _ _ (RD.list_iff.2 ⟨_, M - l, b, off + l * ei.sz, by rw [hlen], by omega, fun hne => ?_, hz', ?_, ?_⟩))⟩
    · simp only [execOp, ho, hv, Instr.sliceAt, Sem.run_bind, run_underlying (hT.elem e he) w, Result.andThen_ok, Instr.slice, hM, hE.size w, Sem.run_pure]
    · have : l < h := by
        rcases Nat.lt_or_ge l h with hlt | hge
        · exact hlt
        · exact absurd (List.eq_nil_of_length_eq_zero (by rw [hlen]; omega)) hne
      have hx0 : xs ≠ [] := fun e => by simp [e] at h3; omega
      rw [if_neg (by omega), hA hx0]
      simp [Addr.add_mid]
    · rw [hflat]
      intro j y hy
      rw [List.getElem?_drop] at hy
      have hlt : l * ei.sz + j < h * ei.sz := by
        have := (List.getElem?_eq_some_iff.1 hy).1
        simp at this; omega
      rw [List.getElem?_take_of_lt hlt] at hy
      have := hrow _ _ hy
      rwa [← Nat.add_assoc] at this
    · by_cases hfull : mx.isSome = true ∧ h = m
      · rw [if_pos hfull]
        refine .inr ⟨rfl, ?_⟩
        rw [hlen, hM2 hfull.1, hfull.2]
      · rw [if_neg hfull]; exact .inl rfl

theorem does_len {c : Call} (ho : o.op = .call c) (hc : c.callee = .builtin .len) {x : Operand} (hx : c.args = #[x]) {t e : TypeId} (ht : c.argTypes = #[t]) {i : TInfo} (hT : TOK P t i) (he : i.elem = some e)
    {sz : Nat} {xs : List AV} {ow : Own} (hv : evalA st x = .list sz xs ow) : Does P base w0 st o { v := .val (.int .i64 xs.length) } :=
  does_pure fun E a w hok hs => by
    have hr := evalA_ok hs x
    rw [hv] at hr
    obtain ⟨A, cp, b, off, hA, _⟩ := RD.list_iff.1 hr.list_no
    refine ⟨.int .i64 xs.length, ?_, RV.val_iff.2 rfl⟩
    simp [execOp, ho, resolve, hc, hx, ht, hA, invoke, builtin, Builtin.len_, run_underlying (hT.elem e he) w, goInt]

/-- The other built-in functions, of values that are told whole. -/
def abuiltin (P : Program) (b : Builtin) (argTypes : Array TypeId) (type : TypeId) (consts : Array Bool) (us : Array Value) : Option Value :=
  match pureRun P (builtin b argTypes type consts us) with
  | some (.value v) => some v
  | _ => none

theorem mapM_toV {E : Env} {w : World} {a : Act} (hs : ∀ t, RV E w (st.s t) (a.tmps.getD t undef)) : ∀ (xs : List Operand) (us : List Value), xs.mapM (fun x => toV (evalA st x)) = some us → xs.map a.eval = us
  | [], us, h => by simp at h; subst h; rfl
  | x :: xs, us, h => by
    simp only [List.mapM_cons, Option.bind_eq_bind, Option.pure_def, Option.bind_eq_some_iff] at h
    obtain ⟨u, hu, us', hus, h9⟩ := h
    cases h9
    rw [List.map_cons, mapM_toV hs xs us' hus, toV_ok hu (evalA_ok hs x)]

theorem does_builtin {c : Call} (ho : o.op = .call c) {b : Builtin} (hc : c.callee = .builtin b) {us : List Value} (hu : c.args.toList.mapM (fun x => toV (evalA st x)) = some us) {v : Value}
    (h : abuiltin P b c.argTypes o.type (c.args.map fun | .const _ => true | _ => false) us.toArray = some v) : Does P base w0 st o { v := .val v } :=
  does_pure fun E a w hok hs => by
    have h1 := mapM_toV hs _ _ hu
    have h2 : c.args.map a.eval = us.toArray := by rw [← h1]; apply Array.ext'; simp
    refine ⟨v, ?_, RV.val_iff.2 rfl⟩
    unfold abuiltin at h
    split at h
    · rename_i v' hv
      cases h
      have h3 := pureRun_ok _ hv w
      simp only [execOp, ho, resolve, hc, h2, invoke, Sem.run_bind, Sem.run_pure, Result.andThen_ok]
      exact h3
    · cases h

/-! ### Values out of parts -/
theorem spl_list (vc : List Value) : ∀ (j off : Nat) (cells : Array Value), off + j + vc.length ≤ cells.size →
    ((vc.zipIdx j).foldl (fun cs (p : Value × Nat) => cs.setIfInBounds (off + p.2) p.1) cells).toList = splice cells.toList (off + j) vc := by
  induction vc with
  | nil => intro j off cells h; simp [splice]
  | cons v vc ih =>
    intro j off cells h
    simp only [List.zipIdx_cons, List.foldl_cons]
    simp only [List.length_cons] at h
    have g0 : off + (j + 1) + vc.length ≤ (cells.setIfInBounds (off + j) v).size := by simp; omega
    rw [ih (j + 1) off _ g0]
    apply List.ext_getElem?
    intro i
    have g1 : off + (j + 1) + vc.length ≤ (cells.setIfInBounds (off + j) v).toList.length := by simp; omega
    have g2 : off + j + (v :: vc).length ≤ cells.toList.length := by simp; omega
    rw [splice_get _ _ _ g1, splice_get _ _ _ g2]
    simp only [List.length_cons, Array.getElem?_toList]
    by_cases h1 : i = off + j
    · subst h1
      rw [if_neg (by omega), if_pos (by omega)]
      simp [show off + j < cells.size by omega]
    · rw [Array.getElem?_setIfInBounds_ne (by omega)]
      by_cases h2 : off + j ≤ i ∧ i < off + j + (vc.length + 1)
      · rw [if_pos (by omega), if_pos h2, show i - (off + j) = (i - (off + (j + 1))) + 1 by omega]
        simp
      · rw [if_neg (by omega), if_neg h2]

def afill (place : Nat → Option (Nat × Nat)) (cells : List AV) : List (Nat × AV) → Option (List AV)
  | [] => some cells
  | (i, a) :: rest => match place i with
    | none => none
    | some (off, size) => if a.cells.length = size ∧ off + size ≤ cells.length ∧ a.cells.all AV.isCell = true then afill place (splice cells off a.cells) rest else none

theorem fill_ok {E : Env} {w : World} {place place' : Nat → Option (Nat × Nat)} (hp : ∀ i x, place i = some x → place' i = some x) {a : Act} : ∀ (parts : List (Nat × Operand)) (cells : List AV) (cs : Array Value) (out : List AV), (∀ t, RV E w (st.s t) (a.tmps.getD t undef)) →
    afill place cells (parts.map fun p => (p.1, evalA st p.2)) = some out → cells.length = cs.size → (∀ (i : Nat) c v, cells[i]? = some c → cs[i]? = some v → v.oneCell' = true ∧ RV E w c v) →
    ∃ os, Instr.fill place' cs (parts.map fun p => (p.1, a.eval p.2)) = some os ∧ out.length = os.size ∧ ∀ (i : Nat) c v, out[i]? = some c → os[i]? = some v → v.oneCell' = true ∧ RV E w c v
  | [], cells, cs, out, hs, h, hl, hr => by
    simp only [List.map_nil, afill, Option.some.injEq] at h
    subst h
    exact ⟨cs, rfl, hl, hr⟩
  | (i, x) :: parts, cells, cs, out, hs, h, hl, hr => by
    simp only [List.map_cons, afill] at h
    split at h
    · cases h
    · rename_i off size hpl
      split at h
      · rename_i hcond
        obtain ⟨h1, h2, h3⟩ := hcond
        obtain ⟨c1, c2, c3⟩ := (evalA_ok hs x).cells h3
        have hsp := spl_list (a.eval x).cells.toList 0 off cs (by simp; omega)
        have hfit1 : off + (evalA st x).cells.length ≤ cells.length := by omega
        have hfit2 : off + (a.eval x).cells.toList.length ≤ cs.toList.length := by simp; omega
        obtain ⟨os, h4, h5, h6⟩ := fill_ok hp parts (splice cells off (evalA st x).cells) (splice cs.toList off (a.eval x).cells.toList).toArray out hs h
          (by rw [splice_len _ _ _ hfit1, List.size_toArray, splice_len _ _ _ hfit2]; simp [hl]) (fun j c v hcj hvj => by
            rw [splice_get _ _ _ hfit1] at hcj
            rw [List.getElem?_toArray, splice_get _ _ _ hfit2] at hvj
            simp only [Array.length_toList, c1] at hvj
            split at hcj
            · rename_i hin
              rw [if_pos hin, Array.getElem?_toList] at hvj
              exact ⟨c2 v (Array.mem_of_getElem? hvj), c3 _ c v hcj hvj⟩
            · rename_i hin
              rw [if_neg hin, Array.getElem?_toList] at hvj
              exact hr j c v hcj hvj)
        refine ⟨os, ?_, h5, h6⟩
        simp only [List.map_cons, Instr.fill, hp i _ hpl]
        rw [if_neg (by simp only [Bool.or_eq_true, decide_eq_true_eq, ne_eq, not_or, gt_iff_lt, Nat.not_lt]; exact ⟨by rw [c1, h1]; simp, by omega⟩)]
        rw [← Array.foldl_toList, Array.toList_zipIdx]
        simp only [Nat.add_zero] at hsp
        have : (List.foldl (fun cs (x : Value × Nat) => match x with | (c, j) => cs.setIfInBounds (off + j) c) cs ((a.eval x).cells.toList.zipIdx 0)) = (splice cs.toList off (a.eval x).cells.toList).toArray := by
          apply Array.ext'
          rw [List.toList_toArray, ← hsp]
        rw [this]
        exact h4
      · cases h

theorem mapM_places : ∀ (fs : List Field), (∀ f ∈ fs, (P.info? f.type).isSome = true) → fs.mapM (fun f => (P.info? f.type).map fun i => (f.offset, i.size)) = some (fs.map fun f => (f.offset, ((P.info? f.type).map (·.size)).getD 0))
  | [], _ => by simp
  | f :: fs, h => by
    obtain ⟨i, hi⟩ := Option.isSome_iff_exists.1 (h f List.mem_cons_self)
    simp [List.mapM_cons, hi, mapM_places fs (fun g hg => h g (List.mem_cons_of_mem _ hg))]

theorem does_build {t : TypeId} {parts : Array (Nat × Operand)} (ho : o.op = .build t parts) {i : TInfo} (hT : TOK P t i) (hst : i.fields ≠ [])
    {out : List AV} (h : afill (fun j => (i.fields[j]?).map fun x => (x.1, x.2.1)) i.zero (parts.toList.map fun p => (p.1, evalA st p.2)) = some out) (hpos : i.fields.all (fun x => x.2.1 != 0) = true) :
    Does P base w0 st o { v := .agg out } :=
  does_pure fun E a w hok hs => by
    obtain ⟨d, inf, z, hd, hinf, hz, _, hsz, _, hzsz, hone, hzlen, hzero⟩ := hT.ex
    obtain ⟨x0, hx0⟩ : ∃ x, i.fields[0]? = some x := by cases hf : i.fields with | nil => exact absurd hf hst | cons x _ => exact ⟨x, rfl⟩
    obtain ⟨fs, f0, hfs, _, _⟩ := hT.fields 0 x0 hx0
    -- the places
    let pl : Array (Nat × Nat) := fs.map fun f => (f.offset, ((P.info? f.type).map (·.size)).getD 0)
    have hfield : ∀ (j : Nat) x, i.fields[j]? = some x → pl[j]? = some (x.1, x.2.1) := fun j x hx => by
      obtain ⟨fs', f, h1, h2, h3⟩ := hT.fields j x hx
      rw [hfs] at h1
      cases h1
      subst h3
      simp [pl, h2]
    have hfill := fill_ok (E := E) (w := w) (place := fun j => (i.fields[j]?).map fun x => (x.1, x.2.1)) (place' := fun j => pl[j]?) (fun j x hx => by
      obtain ⟨y, hy, rfl⟩ := Option.map_eq_some_iff.1 hx
      exact hfield j y hy) (a := a) parts.toList i.zero z.cells out hs h hzlen (fun j c v hc hv => ⟨hone v (Array.mem_of_getElem? hv), .pure _ _ (.data _ _ (hzero _ _ j c v hc hv))⟩)
    obtain ⟨os, h4, h5, h6⟩ := hfill
    refine ⟨.agg os, ?_, .agg _ _ h5 (fun v hv => ?_) (fun j c v hc hv => (h6 j c v hc hv).2)⟩
    · have hinfo : ∀ f ∈ fs.toList, (P.info? f.type).isSome = true := fun f hf => by
        obtain ⟨j, hj, rfl⟩ := List.mem_iff_getElem.1 hf
        have hj' : j < i.fields.length := by rw [hT.nf fs hfs]; simpa using hj
        obtain ⟨fs', f, h7, h8, h9⟩ := hT.fields j i.fields[j] (by simp [hj'])
        rw [hfs] at h7
        cases h7
        have h10 := List.all_eq_true.1 hpos i.fields[j] (List.getElem_mem hj')
        rw [h9] at h10
        have h11 : fs.toList[j] = f := by
          have := (Array.getElem?_eq_some_iff.1 h8).2
          simpa using this
        rw [h11]
        cases hi : P.info? f.type with
        | none => simp [hi] at h10
        | some _ => rfl
      have hbuilt : P.built t (parts.map fun (i, x) => (i, a.eval x)).toList = some os := by
        unfold Program.built
        simp only [hinf, hfs, hz, mapM_places _ hinfo]
        have e1 : ((fs.toList.map fun f => (f.offset, ((P.info? f.type).map (·.size)).getD 0)).toArray) = pl := by apply Array.ext'; simp [pl]
        have e2 : (parts.map fun (i, x) => (i, a.eval x)).toList = parts.toList.map fun p => (p.1, a.eval p.2) := by simp
        rw [e1, e2]
        exact h4
      simp [execOp, ho, run_build w t _ os hbuilt]
    · obtain ⟨j, hj, rfl⟩ := Array.mem_iff_getElem.1 hv
      have : j < out.length := by omega
      exact (h6 j out[j] _ (by simp [this]) (by simp [hj])).1
end

end Go.Proofs.YtmnpjaglgalobaaGreatW.E

/-
  What single operations make of a state in abstract values: new slices, appends. Laws over any program; no condition.
-/
namespace Go.Proofs.YtmnpjaglgalobaaGreatW.E
open Go Go.RowKit
set_option linter.unusedVariables false
set_option linter.unusedSimpArgs false

def AV.data0 : AV → AV
  | .list sz xs _ => .list sz xs .no
  | .val v => .val v
  | _ => .any
def AV.data : AV → AV
  | .agg vs => .agg (vs.map AV.data0)
  | a => a.data0

theorem RV.data0 {E : Env} {w : World} {a : AV} {v : Value} (h : RV E w a v) : RD E.S w a.data0 v := by
  cases a with
  | list sz xs o => exact h.list_no
  | val u => rw [RV.val_iff] at h; subst h; exact .val _
  | _ => exact .any v

theorem cells_data (a : AV) : a.data.cells = a.cells.map AV.data0 := by cases a <;> rfl

theorem RV.data {E : Env} {w : World} {a : AV} {v : Value} (h : RV E w a v) : RD E.S w a.data v := by
  cases a with
  | agg vs =>
    obtain ⟨cs, rfl, h1, h2, h3⟩ := RV.agg_iff.1 h
    refine .agg _ _ (by simp [h1]) h2 (fun i c v hc hv => ?_)
    simp only [List.getElem?_map, Option.map_eq_some_iff] at hc
    obtain ⟨x, hx, rfl⟩ := hc
    exact (h3 i x v hx hv).data0
  | list sz xs o => exact h.list_no
  | val u => rw [RV.val_iff] at h; subst h; exact .val _
  | _ => exact .any v

def bumpL (ks : List Nat) (L : Nat → Nat) : Nat → Nat := ks.foldl (fun L k => upd L k (L k + 1)) L
theorem bumpL_le : ∀ (ks : List Nat) (L : Nat → Nat) (j : Nat), L j ≤ bumpL ks L j ∧ (j ∈ ks → L j < bumpL ks L j)
  | [], L, j => by simp [bumpL]
  | k :: ks, L, j => by
    have ih := bumpL_le ks (upd L k (L k + 1)) j
    show L j ≤ bumpL ks (upd L k (L k + 1)) j ∧ (_ → L j < bumpL ks (upd L k (L k + 1)) j)
    by_cases e : j = k
    · subst e
      rw [upd_same] at ih
      exact ⟨by omega, fun _ => by omega⟩
    · rw [upd_ne _ _ e] at ih
      refine ⟨ih.1, fun h => ?_⟩
      rcases List.mem_cons.1 h with h | h
      · exact absurd h e
      · exact ih.2 h
theorem bumpL_ne : ∀ (ks : List Nat) (L : Nat → Nat) (j : Nat), j ∉ ks → bumpL ks L j = L j
  | [], L, j, _ => rfl
  | k :: ks, L, j, h => by
    simp only [List.mem_cons, not_or] at h
    show bumpL ks (upd L k (L k + 1)) j = L j
    rw [bumpL_ne ks _ j h.2, upd_ne _ _ h.1]

theorem row_vals {S : Pl} {w : World} {R : AV → Value → Prop} {b off : Nat} : ∀ {cs : List AV}, Row S w R b off cs →
    ∃ us : List Value, us.length = cs.length ∧ (∀ (j : Nat) u, us[j]? = some u → w.cell? ⟨b, off + j, none⟩ = some u) ∧ (∀ u ∈ us, u.oneCell' = true) ∧ ∀ (j : Nat) y u, cs[j]? = some y → us[j]? = some u → R y u := by
  intro cs h
  refine ⟨(List.range cs.length).map fun j => (w.cell? ⟨b, off + j, none⟩).getD undef, by simp, fun j u hu => ?_, fun u hu => ?_, fun j y u hy hu => ?_⟩
  · simp only [List.getElem?_map, Option.map_eq_some_iff] at hu
    obtain ⟨j', hj', rfl⟩ := hu
    have hj1 : j < cs.length := by have := (List.getElem?_eq_some_iff.1 hj').1; simpa using this
    rw [List.getElem?_range hj1] at hj'
    cases hj'
    obtain ⟨_, v, h2, _⟩ := h j cs[j] (by simp [hj1])
    simp [h2]
  · simp only [List.mem_map, List.mem_range] at hu
    obtain ⟨j, hj, rfl⟩ := hu
    obtain ⟨_, v, h2, h3, _⟩ := h j cs[j] (by simp [hj])
    simpa [h2] using h3
  · simp only [List.getElem?_map, Option.map_eq_some_iff] at hu
    obtain ⟨j', hj', rfl⟩ := hu
    have hj1 : j < cs.length := (List.getElem?_eq_some_iff.1 hy).1
    rw [List.getElem?_range hj1] at hj'
    cases hj'
    obtain ⟨_, v, h2, _, h4⟩ := h j y hy
    simpa [h2] using h4

section
variable {P : Program} {base : Nat} {w0 : Entry} {st : St} {o : Oper}

/-- The cells of a slice, read for an append. -/
theorem run_first {w : World} {sz n c : Nat} {A : Option Addr} {b off : Nat} (hA : n ≠ 0 → A = some ⟨b, off, none⟩) {us : List Value} (hl : us.length = n * sz) (h : ∀ (j : Nat) u, us[j]? = some u → w.cell? ⟨b, off + j, none⟩ = some u) :
    (Builtin.firstCells sz n (.slice A n c)).run P w = .ok us.toArray w := by
  by_cases hn : n = 0
  · subst hn
    have : us = [] := List.eq_nil_of_length_eq_zero (by simpa using hl)
    subst this
    cases A with
    | none => exact run_firstCells_none (P := P) w sz 0 0 c
    | some a => exact run_firstCells_some (P := P) w sz 0 a 0 c [] (by simp) (by simp)
  · rw [hA hn]
    exact run_firstCells_some (P := P) w sz n ⟨b, off, none⟩ n c us hl (fun j v hv => by rw [Addr.add_mid]; exact h j v hv)

theorem afill_row {sz : Nat} : ∀ (xs : List AV) (k : Nat) (pre post : List AV), pre.length = k * sz → post.length = xs.length * sz → (∀ x ∈ xs, x.cells.length = sz ∧ x.cells.all AV.isCell = true) →
    afill (fun i => some (i * sz, sz)) (pre ++ post) ((xs.zipIdx k).map fun p => (p.2, p.1)) = some (pre ++ flat xs)
  | [], k, pre, post, h1, h2, h3 => by
    have : post = [] := List.eq_nil_of_length_eq_zero (by simpa using h2)
    simp [afill, flat, this]
  | x :: xs, k, pre, post, h1, h2, h3 => by
    obtain ⟨h4, h5⟩ := h3 x List.mem_cons_self
    simp only [List.zipIdx_cons, List.map_cons, afill]
    rw [List.length_cons, Nat.succ_mul] at h2
    rw [if_pos ⟨h4, by simp; omega, h5⟩]
    have e1 : splice (pre ++ post) (k * sz) x.cells = (pre ++ x.cells) ++ post.drop sz := by
      unfold splice
      rw [List.take_append, List.drop_append, h1, h4]
      have e2 : List.drop (k * sz + sz) pre = [] := List.drop_eq_nil_of_le (by omega)
      have e3 : List.take (k * sz) pre = pre := List.take_of_length_le (by omega)
      rw [e2, e3]
      simp
    rw [e1, afill_row xs (k + 1) (pre ++ x.cells) (post.drop sz) (by simp [h1, h4, Nat.succ_mul]) (by simp; omega) (fun y hy => h3 y (List.mem_cons_of_mem _ hy)), flat_cons, List.append_assoc]

theorem zip_of_range {α : Type} : ∀ (ps : List (Nat × α)) (k : Nat), ps.map (·.1) = List.range' k ps.length → ps = ((ps.map (·.2)).zipIdx k).map fun p => (p.2, p.1)
  | [], _, _ => rfl
  | (i, x) :: ps, k, h => by
    simp only [List.map_cons, List.length_cons, List.range'_succ, List.cons.injEq] at h
    obtain ⟨rfl, h⟩ := h
    simp only [List.map_cons, List.zipIdx_cons, List.cons.injEq, true_and]
    exact zip_of_range ps _ h

theorem does_buildSlice {t e : TypeId} {n : Nat} {parts : Array (Nat × Operand)} (ho : o.op = .buildSlice t n parts) {i ei : TInfo} (hT : TOK P t i) (he : i.elem = some e) (hE : TOK P e ei)
    (hidx : parts.toList.map (·.1) = List.range' 0 n) (hc : ∀ p ∈ parts.toList, (evalA st p.2).cells.length = ei.sz ∧ (evalA st p.2).cells.all AV.isCell = true) (hn : n * ei.sz ≤ 16777216) :
    Does P base w0 st o { v := .list ei.sz (parts.toList.map fun p => (evalA st p.2).data) .full } := by
  intro E a w hok hs hsz0 hd K Q hK
  obtain ⟨d, inf, z, hdd, hinf, hz, hagg, hsz, hby, hzsz, hone, hzlen, hzero⟩ := hE.ex
  have hlen : parts.toList.length = n := by have := congrArg List.length hidx; simpa using this
  -- the zeros
  let zs : Array Value := if n * ei.sz = 0 then #[] else z.cells
  let cs0 : Array Value := (Array.range (n * ei.sz)).map (zs[· % zs.size]!)
  have hfill := afill_row (sz := ei.sz) (parts.toList.map fun p => evalA st p.2) 0 [] (List.replicate (n * ei.sz) AV.any) (by simp) (by simp [hlen]) (fun x hx => by
    obtain ⟨p, hp, rfl⟩ := List.mem_map.1 hx
    exact hc p hp)
  have hparts : (parts.toList.map fun p => (p.1, evalA st p.2)) = (((parts.toList.map fun p => evalA st p.2).zipIdx 0).map fun p => (p.2, p.1)) := by
    have h1 := zip_of_range (parts.toList.map fun p => (p.1, evalA st p.2)) 0 (by simp only [List.map_map, List.length_map, hlen]; exact hidx)
    simpa only [List.map_map, Function.comp_def] using h1
  simp only [List.nil_append] at hfill
  obtain ⟨os, h4, h5, h6⟩ := fill_ok (E := E) (w := w) (place := fun i => some (i * ei.sz, ei.sz)) (place' := fun i => some (i * ei.sz, ei.sz)) (fun _ _ h => h) (a := a) parts.toList (List.replicate (n * ei.sz) AV.any) cs0
    (flat (parts.toList.map fun p => evalA st p.2)) hs (by rw [hparts]; exact hfill) (by simp [cs0]) (fun j c v hcj hvj => by
      have hj : j < n * ei.sz := by have := (List.getElem?_eq_some_iff.1 hcj).1; simpa using this
      rw [List.getElem?_replicate, if_pos hj] at hcj
      cases hcj
      refine ⟨?_, RV.any v⟩
      have hne : n * ei.sz ≠ 0 := by omega
      have hzpos : 0 < z.cells.size := by rw [hzsz, ← hsz]; exact Nat.pos_of_ne_zero (fun e => hne (by rw [e, Nat.mul_zero]))
      simp only [cs0, zs, if_neg hne, Array.getElem?_map, Option.map_eq_some_iff] at hvj
      obtain ⟨q, hq, rfl⟩ := hvj
      have hlt : q % z.cells.size < z.cells.size := Nat.mod_lt _ hzpos
      rw [getElem!_pos z.cells _ hlt]
      exact hone _ (Array.getElem_mem hlt))
  have hfl : (flat (parts.toList.map fun p => evalA st p.2)).length = n * ei.sz := by
    rw [flat_len _ (fun x hx => by obtain ⟨p, hp, rfl⟩ := List.mem_map.1 hx; exact (hc p hp).1)]; simp [hlen]
  have hosz : os.size = n * ei.sz := by omega
  have hrun : (execOp a.eval o).run P w = .ok (.value (.slice (some ⟨w.heap.size, 0, none⟩) n n)) (w.alloc (.cells os e)) := by
    have h4' : Instr.fill (fun i => some (i * ei.sz, ei.sz)) ((Array.range (n * ei.sz)).map (zs[· % zs.size]!)) (parts.map fun (i, x) => (i, a.eval x)).toList = some os := by
      have e2 : (parts.map fun (i, x) => (i, a.eval x)).toList = parts.toList.map fun p => (p.1, a.eval p.2) := by simp
      rw [e2]; exact h4
    simp only [execOp, ho, Instr.buildSlice, Sem.run_bind, run_underlying (hT.elem e he) w, Result.andThen_ok, hE.size w]
    rw [if_neg (by omega)]
    by_cases h0 : n * ei.sz = 0
    · have e3 : zs = #[] := if_pos h0
      rw [e3] at h4'
      rw [if_pos h0]
      simp only [Sem.run_bind, Sem.run_pure, Result.andThen_ok, h4', newRow, run_newObj]
      rfl
    · have e3 : zs = z.cells := if_neg h0
      rw [e3] at h4'
      rw [if_neg h0]
      simp only [Sem.run_bind, Sem.run_pure, Result.andThen_ok, zeroValue, typeInfo, run_program, hinf, hz, h4', newRow, run_newObj]
      rfl
  obtain ⟨hle, hok'⟩ := hok.newRow os e (n * ei.sz) (by omega) (L' := st.L) (τ' := E.τ) (fun _ => ⟨Nat.le_refl _, fun _ => rfl⟩) (fun _ _ h => .inl h) (fun k k' x y h h' e1 e2 => by
    have := hok.spLt (k := k) (b := x.1) (lo := x.2.1) (hi := x.2.2) (by rw [h])
    omega)
  unfold Oper.wp
  rw [hrun]
  refine hK _ _ _ hle hok' (.pure _ _ (.data _ _ (RD.list_iff.2 ⟨some ⟨w.heap.size, 0, none⟩, n, w.heap.size, 0, ?_, ?_, fun _ => rfl, ?_, ?_, .inr ⟨rfl, ?_⟩⟩)))
  · simp [hlen]
  · simp [hlen]
  · intro x hx
    obtain ⟨p, hp, rfl⟩ := List.mem_map.1 hx
    rw [cells_data, List.length_map]
    exact (hc p hp).1
  · intro j y hy
    have hflat : flat (parts.toList.map fun p => (evalA st p.2).data) = (flat (parts.toList.map fun p => evalA st p.2)).map AV.data0 := by
      simp only [flat, List.flatMap_map, List.map_flatMap]
      congr 1
      funext p
      exact cells_data _
    rw [hflat, List.getElem?_map, Option.map_eq_some_iff] at hy
    obtain ⟨y', hy', rfl⟩ := hy
    have hj : j < os.size := by rw [hosz, ← hfl]; exact (List.getElem?_eq_some_iff.1 hy').1
    obtain ⟨h7, h8⟩ := h6 j y' os[j] hy' (by simp [hj])
    refine ⟨.inr ⟨rfl, by omega⟩, os[j], ?_, h7, (h8.data0).mono hle.S⟩
    have h9 := heap_alloc_new w (.cells os e)
    unfold World.cell?
    simp only [h9, Nat.zero_add]
    simp [hj]
  · simp [hlen]

/-- The spare cells go from key k (if one is named) to key d. -/
def hand (τ : Nat → Option (Nat × Nat × Nat)) (k : Option Nat) (d : Nat) (x : Option (Nat × Nat × Nat)) : Nat → Option (Nat × Nat × Nat) :=
  fun j => if j = d then x else if some j = k then none else τ j

def Own.keyOf : Own → Option Nat
  | .key k _ => some k
  | _ => none

theorem run_append_grows {w : World} {t ty e : TypeId} {i : TypeInfo} {z : Value} (ht : P.underlying t = some (.slice e)) (hi : P.info? e = some i) (hz : i.zero = some z) {A X : Option Addr} {n c m cx : Nat} {olds news : List Value}
    (ho : (Builtin.firstCells i.size n (.slice A n c)).run P w.drew = .ok olds.toArray w.drew) (hn : (Builtin.firstCells i.size m (.slice X m cx)).run P w.drew = .ok news.toArray w.drew)
    (hg : c < n + m) (h63 : ((n + m : Nat) : Int) ≤ 9223372036854775807) (hfit : Builtin.nextslicecap (n + m) c * i.bytes ≤ 281474976710656) :
    (Builtin.append_ #[t, t] ty #[.slice A n c, .slice X m cx]).run P w =
      .ok (.slice (some ⟨w.heap.size, 0, none⟩) (n + m) (grownCap w (n + m) c e))
        (w.drew.alloc (.cells (olds.toArray ++ news.toArray ++ Builtin.zeroCells z.cells (grownCap w (n + m) c e - (n + m))) e)) := by
  have hn1 : ¬ (n + m ≤ c) := by omega
  have h63' : ¬ (9223372036854775807 < ((n : Int) + (m : Int))) := by omega
  have h48' : ¬ (281474976710656 < Builtin.nextslicecap (n + m) c * i.bytes) := by omega
  simp [Builtin.append_, run_underlying ht, sizeOf, typeInfo, zeroValue, hi, hz, Builtin.lenOf, hn1, h63', h48', Question.forced, ho, hn, newRow, grownCap]
  congr 2
  apply Array.ext'
  simp [List.append_assoc]

theorem run_append_room' {w : World} {t ty e : TypeId} {i : TypeInfo} (ht : P.underlying t = some (.slice e)) (hi : P.info? e = some i) {A X : Option Addr} {n c m cx : Nat} {news : List Value} {w' : World}
    (hn : (Builtin.firstCells i.size m (.slice X m cx)).run P w = .ok news.toArray w) (hg : n + m ≤ c)
    (hst : ∀ a, A = some a → (storeCells (a.add (n * i.size)) news).run P w = .ok () w') (hno : A = none → w' = w) :
    (Builtin.append_ #[t, t] ty #[.slice A n c, .slice X m cx]).run P w = .ok (.slice A (n + m) c) w' := by
  cases A with
  | none => simp [Builtin.append_, run_underlying ht, sizeOf, typeInfo, hi, Builtin.lenOf, hg, hn, hno rfl]
  | some a =>
    have := hst a rfl
    simp [Builtin.append_, run_underlying ht, sizeOf, typeInfo, hi, Builtin.lenOf, hg, hn, this]
end

end Go.Proofs.YtmnpjaglgalobaaGreatW.E

/-
  What an append makes of a state in abstract values. Laws over any program; no condition.
-/
namespace Go.Proofs.YtmnpjaglgalobaaGreatW.E
open Go Go.RowKit
set_option linter.unusedVariables false
set_option linter.unusedSimpArgs false

section
variable {P : Program} {base : Nat} {w0 : Entry} {st : St} {o : Oper}

theorem hand_L {E : Env} {L : Nat → Nat} (ks : List Nat) {k : Option Nat} {d : Nat} (hd : d ∈ ks) (hk : ∀ j, k = some j → j ∈ ks) (x : Option (Nat × Nat × Nat)) :
    ∀ j, L j ≤ bumpL ks L j ∧ (L j = bumpL ks L j → hand E.τ k d x j = E.τ j) := fun j => by
  refine ⟨(bumpL_le ks L j).1, fun e => ?_⟩
  by_cases h : j ∈ ks
  · have := (bumpL_le ks L j).2 h; omega
  · unfold hand
    rw [if_neg (fun h' => h (by rw [h']; exact hd)), if_neg (fun h' => h (hk j h'.symm))]

/-- The row behind an append. -/
theorem row_join {S S' : Pl} {w w' : World} (hs : ∀ b o, S b o → S' b o ∧ w'.cell? ⟨b, o, none⟩ = w.cell? ⟨b, o, none⟩) {xs ys : List AV} {olds news : List Value} (h1 : olds.length = (flat xs).length) (h2 : news.length = (flat ys).length)
    (h3 : ∀ (j : Nat) y u, (flat xs)[j]? = some y → olds[j]? = some u → RD S w y u) (h4 : ∀ (j : Nat) y u, (flat ys)[j]? = some y → news[j]? = some u → RD S w y u)
    (h5 : ∀ u ∈ olds, u.oneCell' = true) (h6 : ∀ u ∈ news, u.oneCell' = true) {b off : Nat}
    (h7 : ∀ (j : Nat) u, (olds ++ news)[j]? = some u → S' b (off + j) ∧ w'.cell? ⟨b, off + j, none⟩ = some u) : Row S' w' (RD S' w') b off (flat (xs ++ ys)) := by
  intro j y hy
  rw [flat_append] at hy
  by_cases hj : j < (flat xs).length
  · rw [List.getElem?_append_left hj] at hy
    have hj' : j < olds.length := by omega
    have hu : olds[j]? = some olds[j] := by simp [hj']
    obtain ⟨a1, a2⟩ := h7 j olds[j] (by rw [List.getElem?_append_left hj']; exact hu)
    exact ⟨a1, _, a2, h5 _ (List.getElem_mem hj'), (h3 j y _ hy hu).mono hs⟩
  · rw [List.getElem?_append_right (by omega)] at hy
    have hj2 : j - (flat xs).length < news.length := by rw [h2]; exact (List.getElem?_eq_some_iff.1 hy).1
    have hu : news[j - (flat xs).length]? = some news[j - (flat xs).length] := by simp [hj2]
    obtain ⟨a1, a2⟩ := h7 j news[j - (flat xs).length] (by rw [List.getElem?_append_right (by omega), h1]; exact hu)
    exact ⟨a1, _, a2, h6 _ (List.getElem_mem hj2), (h4 _ y _ hy hu).mono hs⟩

theorem RV.own_mk {E : Env} {w : World} {sz : Nat} {xs : List AV} {k g n c b off : Nat} (hn : n = xs.length) (hc : n ≤ c) (hz : ∀ x ∈ xs, x.cells.length = sz) (hrow : Row E.S w (RD E.S w) b off (flat xs))
    (ho : E.owns k g sz (some ⟨b, off, none⟩) n c) : RV E w (.list sz xs (.key k g)) (.slice (some ⟨b, off, none⟩) n c) := by
  subst hn
  exact .own _ _ _ _ _ _ _ (RD.list_iff.2 ⟨_, c, b, off, rfl, hc, fun _ => rfl, hz, hrow, .inl rfl⟩) ho

set_option maxHeartbeats 1000000 in
theorem does_append {c : Call} (ho : o.op = .call c) (hc : c.callee = .builtin .append) {x y : Operand} (hx : c.args = #[x, y]) {t e : TypeId} (ht : c.argTypes = #[t, t]) {i ei : TInfo} (hT : TOK P t i) (he : i.elem = some e) (hE : TOK P e ei)
    {sx sy : Nat} {xs ys : List AV} {ow oy : Own} (hxv : evalA st x = .list sx xs ow) (hyv : evalA st y = .list sy ys oy) (hsx : sx = ei.sz ∨ xs = []) (hsy : sy = ei.sz ∨ ys = [])
    {d : Nat} {ks : List Nat} (how : (ow = .full ∧ ks = [d]) ∨ ∃ k, ow = .key k (st.L k) ∧ ks = [k, d] ∧ sx = ei.sz)
    (hfit : (xs.length + ys.length) * ei.bytes ≤ 140737488355328) (hby : 0 < ei.bytes) :
    Does P base w0 st o { v := .list ei.sz (xs ++ ys) (.key d (bumpL ks st.L d)), bump := ks } := by
  intro E a w hok hs hn0 hd0 K Q hK
  obtain ⟨dd, inf, z, hdd, hinf, hz, hagg, hsz, hbys, hzsz, hone, hzlen, hzero⟩ := hE.ex
  have hrx := evalA_ok hs x
  rw [hxv] at hrx
  have hry := evalA_ok hs y
  rw [hyv] at hry
  obtain ⟨A, cp, b, off, hA, hcp, hA1, hzx, hrowx, _⟩ := RD.list_iff.1 hrx.list_no
  obtain ⟨X, cx, b', off', hX, hcx, hX1, hzy, hrowy, _⟩ := RD.list_iff.1 hry.list_no
  have hzx' : ∀ q ∈ xs, q.cells.length = ei.sz := fun q hq => by
    rcases hsx with h | h
    · rw [← h]; exact hzx q hq
    · rw [h] at hq; simp at hq
  have hzy' : ∀ q ∈ ys, q.cells.length = ei.sz := fun q hq => by
    rcases hsy with h | h
    · rw [← h]; exact hzy q hq
    · rw [h] at hq; simp at hq
  obtain ⟨olds, ol1, ol2, ol3, ol4⟩ := row_vals hrowx
  obtain ⟨news, nl1, nl2, nl3, nl4⟩ := row_vals hrowy
  have ol1' : olds.length = xs.length * ei.sz := ol1.trans (flat_len xs hzx')
  have nl1' : news.length = ys.length * ei.sz := nl1.trans (flat_len ys hzy')
  have hne : ∀ {q : List AV}, q.length ≠ 0 → q ≠ [] := fun h e => h (by rw [e]; rfl)
  have hfX : ∀ w1 : World, (∀ (j : Nat) u, news[j]? = some u → w1.cell? ⟨b', off' + j, none⟩ = some u) → (Builtin.firstCells inf.size ys.length (.slice X ys.length cx)).run P w1 = .ok news.toArray w1 := fun w1 h =>
    run_first (P := P) (fun h => hX1 (hne h)) (by rw [nl1', hsz]) h
  have hfA : ∀ w1 : World, (∀ (j : Nat) u, olds[j]? = some u → w1.cell? ⟨b, off + j, none⟩ = some u) → (Builtin.firstCells inf.size xs.length (.slice A xs.length cp)).run P w1 = .ok olds.toArray w1 := fun w1 h =>
    run_first (P := P) (fun h => hA1 (hne h)) (by rw [ol1', hsz]) h
  have hbump : (bumpL ks st.L d) = (st.app o.dst { v := .list ei.sz (xs ++ ys) (.key d (bumpL ks st.L d)), bump := ks }).L d := rfl
  have hdk : d ∈ ks := by rcases how with ⟨_, h⟩ | ⟨k, _, h, _⟩ <;> simp [h]
  -- the key that owns what is appended to
  obtain ⟨kk, hkk, hcur⟩ : ∃ kk : Option Nat, (∀ j, kk = some j → j ∈ ks) ∧ (cp = xs.length ∨ ∃ k b1 off1, kk = some k ∧ A = some ⟨b1, off1, none⟩ ∧ E.τ k = some (b1, off1 + xs.length * ei.sz, off1 + cp * ei.sz)) := by
    rcases how with ⟨h1, h2⟩ | ⟨k, h1, h2, h2'⟩
    · refine ⟨none, by simp, .inl ?_⟩
      subst h1
      cases hrx with
      | pure _ _ h =>
        cases h with
        | data _ _ h =>
          obtain ⟨A2, c2, _, _, e1, _, _, _, _, h6⟩ := RD.list_iff.1 h
          rw [hA] at e1
          cases e1
          rcases h6 with h6 | h6
          · cases h6
          · exact h6.2
    · refine ⟨some k, fun j hj => by cases hj; simp [h2], ?_⟩
      subst h1
      rw [← h2']
      rw [hA] at hrx
      cases hrx with
      | pure _ _ h =>
        cases h with
        | data _ _ h =>
          obtain ⟨_, _, _, _, _, _, _, _, _, h6⟩ := RD.list_iff.1 h
          rcases h6 with h6 | ⟨h6, _⟩ <;> cases h6
      | own _ _ _ _ _ _ _ h ho =>
        rcases ho.2 (hok.L k).symm with h1 | ⟨b1, off1, h1, h2⟩
        · exact .inl h1
        · exact .inr ⟨k, b1, off1, rfl, h1, h2⟩
  have hall : ∀ q ∈ xs ++ ys, q.cells.length = ei.sz := fun q hq => (List.mem_append.1 hq).elim (hzx' q) (hzy' q)
  have hflen : (flat (xs ++ ys)).length = (xs.length + ys.length) * ei.sz := by rw [flat_len _ hall, List.length_append]
  have hmax : xs.length + ys.length ≤ 140737488355328 := Nat.le_trans (Nat.le_mul_of_pos_right _ hby) hfit
  have hargs : ∀ w', (Builtin.append_ #[t, t] o.type #[.slice A xs.length cp, .slice X ys.length cx]).run P w = w' → ∀ v w2, w' = .ok v w2 → (execOp a.eval o).run P w = .ok (.value v) w2 := fun w' h v w2 h' => by
    subst h'
    simp [execOp, ho, resolve, hc, hx, ht, hA, hX, invoke, builtin, h]
  have hkd : ∀ (j j' : Nat) (x y q : Nat × Nat × Nat), (∀ j x, E.τ j = some x → x.1 ≠ q.1 ∨ some j = kk) → hand E.τ kk d (some q) j = some x → hand E.τ kk d (some q) j' = some y → x.1 = q.1 → y.1 = q.1 → j = j' := by
    intro j j' x y q hq h h' e1 e2
    unfold hand at h h'
    have one : ∀ i x, (if i = d then some q else if some i = kk then none else E.τ i) = some x → x.1 = q.1 → i = d := fun i x h e => by
      by_cases h1 : i = d
      · exact h1
      · rw [if_neg h1] at h
        by_cases h2 : some i = kk
        · rw [if_pos h2] at h; cases h
        · rw [if_neg h2] at h
          rcases hq i x h with h3 | h3
          · exact absurd e h3
          · exact absurd h3 h2
    rw [one j x h e1, one j' y h' e2]
  by_cases hroom : xs.length + ys.length ≤ cp
  · rcases hcur with hfull | ⟨k, b1, off1, hk1, hA2, hτ⟩
    · -- the slice is full: nothing is appended
      have hys : ys = [] := List.eq_nil_of_length_eq_zero (by omega)
      subst hys
      have hnews : news = [] := List.eq_nil_of_length_eq_zero (by rw [nl1']; simp)
      have hrun := run_append_room' (P := P) (ty := o.type) (A := A) (w' := w) (hT.elem e he) hinf (hfX w nl2) hroom (fun a' _ => by rw [hnews]; rfl) (fun _ => rfl)
      have hold : ∀ j x, hand E.τ kk d none j = some x → E.τ j = some x := fun j x h => by
        unfold hand at h
        split at h
        · cases h
        · split at h
          · cases h
          · exact h
      obtain ⟨hle, hok'⟩ := hok.settle (w' := w) (S' := E.S) (L' := bumpL ks st.L) (τ' := hand E.τ kk d none) (Below.refl _ _) (fun b o h => ⟨h, rfl⟩) hok.sCell hok.fOld' (fun _ _ h => .inl h) (hand_L ks hdk hkk _)
        (fun k hk => ⟨rfl, (hok.box k hk).2.1⟩) (fun k b lo hi h => hok.spare k b lo hi (hold _ _ h)) (fun k k' b lo hi b' lo' hi' hne h h' => hok.spareinj k k' _ _ _ _ _ _ hne (hold _ _ h) (hold _ _ h'))
        (fun k k' b lo hi h hk' => hok.sparebox k k' b lo hi (hold _ _ h) hk')
      unfold Oper.wp
      rw [hargs _ hrun _ _ rfl]
      refine hK _ _ _ hle hok' ?_
      simp only [List.append_nil, List.length_nil, Nat.add_zero]
      exact .own _ _ _ _ _ _ _ (RD.list_iff.2 ⟨A, cp, b, off, rfl, hcp, hA1, hzx', hrowx.imp (fun b o h => ⟨h, rfl⟩) (fun _ _ _ _ h => h), .inl rfl⟩) ⟨Nat.le_refl _, fun _ => .inl hfull⟩
    · -- in place
      subst hA2
      obtain ⟨s1, s2, cur, tt, s3, s4⟩ := hok.spare k _ _ _ hτ
      have hbo : ∀ (j : Nat) u, olds[j]? = some u → E.S b1 (off1 + j) ∧ w.cell? ⟨b1, off1 + j, none⟩ = some u := fun j u hu => by
        have hj : j < olds.length := (List.getElem?_eq_some_iff.1 hu).1
        have hx0 : xs ≠ [] := fun e => by rw [e] at ol1'; simp only [List.length_nil, Nat.zero_mul] at ol1'; omega
        have hj' : j < (flat xs).length := by omega
        have := hA1 hx0
        cases this
        exact ⟨(hrowx j (flat xs)[j] (by simp [hj'])).1, ol2 j u hu⟩
      have hmul : xs.length * ei.sz + ys.length * ei.sz ≤ cp * ei.sz := by rw [← Nat.add_mul]; exact Nat.mul_le_mul_right _ hroom
      have hst := run_storeCells_at P b1 (off1 + xs.length * ei.sz) tt news 0 cur w s3 (by omega) nl3
      have hnew : ((cur.toList.take (off1 + xs.length * ei.sz + 0) ++ news ++ cur.toList.drop (off1 + xs.length * ei.sz + 0 + news.length)).toArray) = (splice cur.toList (off1 + xs.length * ei.sz) news).toArray := by simp [splice]
      rw [hnew] at hst
      have hfitl : off1 + xs.length * ei.sz + news.length ≤ cur.toList.length := by simp; omega
      have hrun := run_append_room' (P := P) (ty := o.type) (A := some ⟨b1, off1, none⟩) (n := xs.length) (w' := w.setRow b1 (splice cur.toList (off1 + xs.length * ei.sz) news).toArray) (hT.elem e he) hinf (hfX w nl2) hroom
        (fun a' ha' => by cases ha'; rw [Addr.add_mid, ← hsz]; exact hst) (fun h => by cases h)
      obtain ⟨hle, hok'⟩ := hok.room hτ (ys.length * ei.sz) (by omega) cur tt s3 (splice cur.toList (off1 + xs.length * ei.sz) news).toArray (by rw [List.size_toArray, splice_len _ _ _ hfitl]; simp) (fun j hj => by
          rw [List.getElem?_toArray, splice_get _ _ _ hfitl, if_neg (by omega), Array.getElem?_toList])
        (L' := bumpL ks st.L) (τ' := hand E.τ kk d (some (b1, off1 + xs.length * ei.sz + ys.length * ei.sz, off1 + cp * ei.sz))) (hand_L ks hdk hkk _) (by have := (bumpL_le ks st.L k).2 (hkk k hk1); omega)
        (fun j q hq => by
          unfold hand at hq
          split at hq
          · cases hq; exact .inr rfl
          · split at hq
            · cases hq
            · rename_i h1 h2
              exact .inl ⟨fun e => h2 (by rw [e, hk1]), hq⟩)
        (fun j j' q q' h h' e1 e2 => hkd j j' q q' _ (fun i x hi => by
          by_cases e : i = k
          · exact .inr (by rw [e, hk1])
          · exact .inl (hok.spareinj i k _ _ _ _ _ _ e (by rw [hi]) hτ)) h h' e1 e2)
      unfold Oper.wp
      rw [hargs _ hrun _ _ rfl]
      refine hK _ _ _ hle hok' ?_
      refine RV.own_mk (by simp) hroom hall (row_join hle.S ol1 nl1 ol4 nl4 ol3 nl3 (fun j u hu => ?_)) ⟨Nat.le_refl _, fun _ => .inr ⟨b1, off1, rfl, ?_⟩⟩
      · by_cases hj : j < olds.length
        · rw [List.getElem?_append_left hj] at hu
          obtain ⟨h1, h2⟩ := hbo j u hu
          exact ⟨(hle.S _ _ h1).1, (hle.S _ _ h1).2.trans h2⟩
        · rw [List.getElem?_append_right (by omega)] at hu
          have hj2 : j - olds.length < news.length := (List.getElem?_eq_some_iff.1 hu).1
          refine ⟨.inr ⟨rfl, by omega, by omega⟩, ?_⟩
          rw [cell_setRow_same w b1 (off1 + j) cur _ tt _ s3, List.getElem?_toArray, splice_get _ _ _ hfitl, if_pos ⟨by omega, by omega⟩]
          rw [← hu]
          congr 1
          omega
      · simp only [hand, if_true, Nat.add_mul]
        simp [Nat.add_assoc]
  · -- a new row
    have hz' : z.cells.size = inf.size := hzsz
    have hcap := grownCap_ge w (xs.length + ys.length) cp e
    have hrun := run_append_grows (P := P) (ty := o.type) (w := w) (hT.elem e he) hinf hz (hfA w.drew ol2) (hfX w.drew nl2) (by omega) (by omega) (growslice_fits (by omega) (by rw [← hbys]; exact hfit))
    obtain ⟨hle1, hok1⟩ := hok.drawn 1
    have hdr : w.drewN 1 = w.drew := rfl
    rw [hdr] at hle1 hok1
    have hcs : (olds.toArray ++ news.toArray ++ Builtin.zeroCells z.cells (grownCap w (xs.length + ys.length) cp e - (xs.length + ys.length))).size = grownCap w (xs.length + ys.length) cp e * ei.sz := by
      simp only [Array.size_append, List.size_toArray, size_zeroCells, hz', ← hsz, ol1', nl1', ← Nat.add_mul]
      congr 1
      omega
    obtain ⟨hle2, hok2⟩ := hok1.newRow (olds.toArray ++ news.toArray ++ Builtin.zeroCells z.cells (grownCap w (xs.length + ys.length) cp e - (xs.length + ys.length))) e ((xs.length + ys.length) * ei.sz)
      (by rw [hcs]; exact Nat.mul_le_mul_right _ hcap) (L' := bumpL ks st.L) (τ' := hand E.τ kk d (some (w.heap.size, (xs.length + ys.length) * ei.sz, grownCap w (xs.length + ys.length) cp e * ei.sz))) (hand_L ks hdk hkk _)
      (fun j q hq => by
        unfold hand at hq
        split at hq
        · cases hq; rw [hcs]; exact .inr rfl
        · split at hq
          · cases hq
          · exact .inl hq)
      (fun j j' q q' h h' e1 e2 => hkd j j' q q' _ (fun i x hi => by
        have := hok.spLt (k := i) (b := x.1) (lo := x.2.1) (hi := x.2.2) (by rw [hi])
        exact .inl (by show x.1 ≠ w.heap.size; omega)) h h' e1 e2)
    have hle := hle1.trans hle2
    unfold Oper.wp
    rw [hargs _ hrun _ _ rfl]
    refine hK _ _ _ hle hok2 ?_
    refine RV.own_mk (by simp) hcap hall (row_join hle.S ol1 nl1 ol4 nl4 ol3 nl3 (fun j u hu => ?_)) ⟨Nat.le_refl _, fun _ => .inr ⟨w.heap.size, 0, rfl, ?_⟩⟩
    · have hj : j < (olds ++ news).length := (List.getElem?_eq_some_iff.1 hu).1
      have hj' : j < (xs.length + ys.length) * ei.sz := by rw [List.length_append, ol1', nl1', ← Nat.add_mul] at hj; exact hj
      refine ⟨.inr ⟨rfl, by omega⟩, ?_⟩
      have h9 := heap_alloc_new w.drew (.cells (olds.toArray ++ news.toArray ++ Builtin.zeroCells z.cells (grownCap w (xs.length + ys.length) cp e - (xs.length + ys.length))) e)
      have h10 : w.drew.heap.size = w.heap.size := rfl
      unfold World.cell?
      rw [h10] at h9
      simp only [h9, Nat.zero_add]
      have e3 : olds.toArray ++ news.toArray = (olds ++ news).toArray := by simp
      have : (olds.toArray ++ news.toArray ++ Builtin.zeroCells z.cells (grownCap w (xs.length + ys.length) cp e - (xs.length + ys.length)))[j]? = some u := by
        rw [e3, Array.getElem?_append_left (by simpa using hj), List.getElem?_toArray]; exact hu
      simpa using this
    · simp only [hand, if_true, Nat.zero_add]
end

end Go.Proofs.YtmnpjaglgalobaaGreatW.E

/-
  Calls, in abstract values: what a function makes of values that it may only read; and how its body shows it. Laws over any program; no condition.
-/
namespace Go.Proofs.YtmnpjaglgalobaaGreatW.E
open Go Go.RowKit
set_option linter.unusedVariables false
set_option linter.unusedSimpArgs false

def CellsOf (w : World) : Pl := fun b o => ∃ v, w.cell? ⟨b, o, none⟩ = some v

/-- Values as they are handed on: what is owned is not; boxes may only be read. -/
def frz (B : Nat → Nat × List AV) : Nat → AV → AV
  | _, .val v => .val v
  | _, .list sz xs o => .list sz xs (match o with | .full => .full | _ => .no)
  | _, .agg vs => .agg (vs.map AV.data0)
  | _, .pelt cs => .pelt cs
  | _, .tup vs => .tup vs
  | 0, _ => .any
  | n + 1, .ptr k g off => if (B k).1 = g ∧ (B k).2 ≠ [] then .pelt (((B k).2.drop off).map (frz B n)) else .any
  | n + 1, .fn f caps => .fn f (caps.map (frz B n))
  | _ + 1, .any => .any
  | _ + 1, .bsl _ _ _ _ _ => .any

section
variable {P : Program} {base : Nat} {w0 : Entry} {st : St} {o : Oper}

theorem frz_ok {E : Env} {B : Nat → Nat × List AV} {L : Nat → Nat} {w : World} (hok : OK base w0 E B L w) : ∀ (n : Nat) (a : AV) (v : Value), RV E w a v → RP E.S (CellsOf w) w (frz B n a) v := by
  have hF : ∀ b o, E.F b o → CellsOf w b o ∧ w.cell? ⟨b, o, none⟩ = w.cell? ⟨b, o, none⟩ := fun b o h => ⟨hok.fCell b o h, rfl⟩
  have hS : ∀ b o, E.S b o → E.S b o ∧ w.cell? ⟨b, o, none⟩ = w.cell? ⟨b, o, none⟩ := fun b o h => ⟨h, rfl⟩
  intro n
  induction n with
  | zero =>
    intro a v h
    cases a with
    | val u => rw [RV.val_iff] at h; subst h; exact .data _ _ (.val _)
    | list sz xs o =>
      cases o with
      | full => cases h with | pure _ _ h => exact h.mono hS hF
      | _ => exact .data _ _ h.list_no
    | agg vs => exact .data _ _ h.data
    | tup vs => cases h with | pure _ _ h => exact h.mono hS hF
    | pelt cs => cases h with | pure _ _ h => exact h.mono hS hF
    | _ => exact .data _ _ (.any v)
  | succ n ih =>
    intro a v h
    cases a with
    | val u => rw [RV.val_iff] at h; subst h; exact .data _ _ (.val _)
    | list sz xs o =>
      cases o with
      | full => cases h with | pure _ _ h => exact h.mono hS hF
      | _ => exact .data _ _ h.list_no
    | agg vs => exact .data _ _ h.data
    | tup vs => cases h with | pure _ _ h => exact h.mono hS hF
    | pelt cs => cases h with | pure _ _ h => exact h.mono hS hF
    | any => exact .data _ _ (.any v)
    | bsl => exact .data _ _ (.any v)
    | ptr k g off =>
      simp only [frz]
      split
      · rename_i hc
        cases h with
        | pure _ _ h => cases h with | data _ _ h => cases h
        | ptr _ _ _ b h1 h2 =>
          have hb : b = E.bm k := h2 (by rw [hok.G k]; exact hc.1.symm)
          subst hb
          obtain ⟨_, _, t, ccs, h3, h4, h5⟩ := hok.box k hc.2
          refine RP.pelt_iff.2 ⟨_, _, rfl, fun i y hy => ?_⟩
          simp only [List.getElem?_map, List.getElem?_drop, Option.map_eq_some_iff] at hy
          obtain ⟨y', hy', rfl⟩ := hy
          have hlt : off + i < ccs.size := by rw [h4]; exact (List.getElem?_eq_some_iff.1 hy').1
          obtain ⟨h6, h7⟩ := h5 (off + i) y' ccs[off + i] hy' (by simp [hlt])
          have hcell : w.cell? ⟨E.bm k, off + i, none⟩ = some ccs[off + i] := by simp [World.cell?, h3, hlt]
          exact ⟨⟨_, hcell⟩, _, hcell, h6, ih _ _ h7⟩
      · exact .data _ _ (.any _)
    | fn f caps =>
      simp only [frz]
      have key : ∃ vs : Array Value, v = .func (.func f) #[] vs ∧ caps.length = vs.size ∧ ∀ (i : Nat) c u, caps[i]? = some c → vs[i]? = some u → RV E w c u := by
        cases h with
        | pure _ _ h =>
          cases h with
          | data _ _ h => cases h
          | fn _ _ vs hl h => exact ⟨vs, rfl, hl, fun i c u hc hu => .pure _ _ (h i c u hc hu)⟩
        | fn _ _ vs hl h => exact ⟨vs, rfl, hl, h⟩
      obtain ⟨vs, rfl, hl, hr⟩ := key
      refine .fn _ _ _ (by simp [hl]) (fun i c u hc hu => ?_)
      simp only [List.getElem?_map, Option.map_eq_some_iff] at hc
      obtain ⟨c', hc', rfl⟩ := hc
      exact ih _ _ (hr i c' u hc' hu)

/-- A list that the function hands over for good: its spare cells are new, and nobody else's. -/
abbrev fresh : Own := .key 0 0

def ResV (S' N : Pl) (base : Nat) (w' : World) (r : AV) (v : Value) : Prop :=
  RD S' w' r v ∨ ∃ sz xs A n c, r = .list sz xs fresh ∧ v = .slice A n c ∧ RD S' w' (.list sz xs .no) v ∧
    (c = n ∨ ∃ b off t ccs, A = some ⟨b, off, none⟩ ∧ base ≤ b ∧ w'.heap[b]? = some (.cells ccs t (0, 0)) ∧ off + c * sz ≤ ccs.size ∧ ∀ o, off + n * sz ≤ o → o < off + c * sz → ¬ N b o)

def callable (P : Program) (f : FuncId) : Bool :=
  match P.funcs[f]? with
  | some fn => fn.name != "runtime.NumGoroutine" && fn.body.isSome
  | none => false

/-- Called with values that read so, the function returns one that reads so; what was there is as it was. -/
def ACall (P : Program) (f : FuncId) (args : List AV) (r : AV) : Prop :=
  callable P f = true ∧ ∀ (S : Pl) (w : World) (vs : Array Value), (∀ b o, S b o → CellsOf w b o) → args.length = vs.size → (∀ (i : Nat) a v, args[i]? = some a → vs[i]? = some v → RP S (CellsOf w) w a v) →
    Calls P f vs w fun e w' => ∃ v, e = .returned v ∧ Below w.heap.size w w' ∧ ∃ N : Pl, (∀ b o, N b o → w.heap.size ≤ b ∧ CellsOf w' b o) ∧ ResV (fun b o => S b o ∨ N b o) N w.heap.size w' r v

def calleeOf (st : St) (c : Call) : Option (FuncId × List AV) :=
  match c.callee with
  | .value f => match evalA st f with
    | .fn g caps => some (g, caps)
    | _ => none
  | _ => none

def argsOf (st : St) (c : Call) (caps : List AV) : List AV := (c.args.toList.map (evalA st) ++ caps).map (frz st.B 3)

def callEff (st : St) (dst : Option Nat) (r : AV) : Eff :=
  match r, dst with
  | .list sz xs (.key _ _), some d => { v := .list sz xs (.key (st.d + d) (st.L (st.d + d) + 1)), bump := [st.d + d] }
  | .list sz xs (.key _ _), none => { v := .list sz xs .no }
  | r, _ => { v := r }

theorem RV.fn_inv {E : Env} {w : World} {f : FuncId} {caps : List AV} {v : Value} (h : RV E w (.fn f caps) v) : ∃ vs : Array Value, v = .func (.func f) #[] vs ∧ caps.length = vs.size ∧ ∀ (i : Nat) c u, caps[i]? = some c → vs[i]? = some u → RV E w c u := by
  cases h with
  | pure _ _ h =>
    cases h with
    | data _ _ h => cases h
    | fn _ _ vs hl h => exact ⟨vs, rfl, hl, fun i c u hc hu => .pure _ _ (h i c u hc hu)⟩
  | fn _ _ vs hl h => exact ⟨vs, rfl, hl, h⟩

/-- The call of a Go function's value: it is entered. -/
theorem run_call {E : Env} {w : World} {a : Act} (hs : ∀ t, RV E w (st.s t) (a.tmps.getD t undef)) {c : Call} (ho : o.op = .call c) {g : FuncId} {caps : List AV} (hc : calleeOf st c = some (g, caps)) (hg : callable P g = true) :
    ∃ vs : Array Value, (execOp a.eval o).run P w = .ok (.enter g vs) w ∧ (c.args.toList.map (evalA st) ++ caps).length = vs.size ∧ ∀ (i : Nat) x u, (c.args.toList.map (evalA st) ++ caps)[i]? = some x → vs[i]? = some u → RV E w x u := by
  unfold calleeOf at hc
  split at hc
  · rename_i f hf
    split at hc
    · rename_i g' caps' hev
      simp only [Option.some.injEq, Prod.mk.injEq] at hc
      obtain ⟨rfl, rfl⟩ := hc
      have h1 := evalA_ok hs f
      rw [hev] at h1
      obtain ⟨cv, h2, h3, h4⟩ := h1.fn_inv
      refine ⟨c.args.map a.eval ++ cv, ?_, by simp [h3], fun i x u hx hu => ?_⟩
      · unfold callable at hg
        split at hg
        · rename_i fn hfn
          simp only [Bool.and_eq_true, bne_iff_ne, ne_eq] at hg
          have hb : fn.body.isNone = false := by cases hbb : fn.body <;> simp_all
          simp only [execOp, ho, resolve, hf, h2, Deferred.ofValue, Sem.run_bind, Sem.run_pure, Result.andThen_ok, invoke, callFunc, run_program, hfn]
          rw [Array.empty_append]
          simp [hg.1, hb]
        · cases hg
      · by_cases hi : i < c.args.size
        · rw [List.getElem?_append_left (by simpa using hi)] at hx
          rw [Array.getElem?_append_left (by simpa using hi)] at hu
          simp only [List.getElem?_map, Option.map_eq_some_iff, Array.getElem?_toList] at hx
          obtain ⟨y, hy, rfl⟩ := hx
          simp only [Array.getElem?_map, hy, Option.map_some, Option.some.injEq] at hu
          subst hu
          exact evalA_ok hs y
        · rw [List.getElem?_append_right (by simp; omega)] at hx
          rw [Array.getElem?_append_right (by simp; omega)] at hu
          simp only [List.length_map, Array.length_toList] at hx
          simp only [Array.size_map] at hu
          exact h4 _ x u hx hu
    · cases hc
  · cases hc

/-- A call of a function of which it is told what it makes of values that it may only read. -/
theorem does_call {c : Call} (ho : o.op = .call c) {g : FuncId} {caps : List AV} (hc : calleeOf st c = some (g, caps)) {r : AV} (hcall : ACall P g (argsOf st c caps) r) : Does P base w0 st o (callEff st o.dst r) := by
  intro E a w hok hs hn0 hd0 K Q hK
  obtain ⟨vs, hrun, hlen, hvs⟩ := run_call (P := P) hs ho hc hcall.1
  unfold Oper.wp
  rw [hrun]
  show Calls P g vs w _
  refine (hcall.2 E.S w vs hok.sCell (by simpa [argsOf] using hlen) (fun i x u hx hu => ?_)).mono ?_
  · simp only [argsOf, List.getElem?_map, Option.map_eq_some_iff] at hx
    obtain ⟨y, hy, rfl⟩ := hx
    exact frz_ok hok 3 y u (hvs i y u hy hu)
  · rintro e w' ⟨v, rfl, hbel, N, hN, hres⟩
    show K (a.put o.dst v) w'
    have hbel' : Below base w w' := hbel.mono hok.size
    have hsame : ∀ b o, b < w.heap.size → w'.cell? ⟨b, o, none⟩ = w.cell? ⟨b, o, none⟩ := fun b o h => World.cell?_of_block (w := w) (hbel.block b h)
    -- what is settled, and who owns what
    have main : ∀ (L' : Nat → Nat) (τ' : Nat → Option (Nat × Nat × Nat)), (∀ k, st.L k ≤ L' k ∧ (st.L k = L' k → τ' k = E.τ k)) →
        (∀ k b lo hi, τ' k = some (b, lo, hi) → E.τ k = some (b, lo, hi) ∨ (w.heap.size ≤ b ∧ (∀ o, lo ≤ o → o < hi → ¬ N b o) ∧ ∃ ccs t, w'.heap[b]? = some (.cells ccs t (0, 0)) ∧ hi ≤ ccs.size)) →
        (∀ k k' x y, τ' k = some x → τ' k' = some y → w.heap.size ≤ x.1 → w.heap.size ≤ y.1 → k = k') →
        E.Le w { E with S := fun b o => E.S b o ∨ N b o, F := fun b o => E.F b o ∨ (E.S b o ∨ N b o), L := L', τ := τ' } w' ∧ OK base w0 { E with S := fun b o => E.S b o ∨ N b o, F := fun b o => E.F b o ∨ (E.S b o ∨ N b o), L := L', τ := τ' } st.B L' w' := by
      intro L' τ' hL hτ hu
      refine hok.settle (S' := fun b o => E.S b o ∨ N b o) hbel' (fun b o h => ⟨.inl h, hsame b o (hok.sLt h)⟩) ?_ hok.fOld' (fun b o h => h.imp id (fun h => by have := (hN b o h).1; have := hok.size; omega)) hL ?_ ?_ ?_ ?_
      · rintro b o (h | h)
        · rw [hsame b o (hok.sLt h)]; exact hok.sCell b o h
        · exact (hN b o h).2
      · refine fun k hk => ⟨hbel.block _ (hok.bmLt hk), fun o h => ?_⟩
        rcases h with h | h
        · exact (hok.box k hk).2.1 o h
        · have := (hN _ _ h).1; have := hok.bmLt hk; omega
      · intro k b lo hi h
        rcases hτ k b lo hi h with h | ⟨h1, h2, ccs, t, h3, h4⟩
        · obtain ⟨a1, a2, ccs', t', a3, a4⟩ := hok.spare k b lo hi h
          have hlt := hok.spLt h
          exact ⟨a1, fun o h1 h2 h3 => h3.elim (a2 o h1 h2) (fun h4 => by have := (hN _ _ h4).1; omega), ccs', t', by rw [hbel.block b hlt]; exact a3, a4⟩
        · exact ⟨Nat.le_trans hok.size h1, fun o h5 h6 h7 => h7.elim (fun h8 => by have := hok.sLt h8; omega) (h2 o h5 h6), ccs, t, h3, h4⟩
      · intro k k' b lo hi b' lo' hi' hne h h'
        rcases hτ k _ _ _ h with h1 | h1 <;> rcases hτ k' _ _ _ h' with h2 | h2
        · exact hok.spareinj k k' b lo hi b' lo' hi' hne h1 h2
        · have := hok.spLt h1; have := h2.1; omega
        · have := hok.spLt h2; have := h1.1; omega
        · exact fun e => hne (hu k k' _ _ h h' h1.1 h2.1)
      · intro k k' b lo hi h hk'
        rcases hτ k _ _ _ h with h | h
        · exact hok.sparebox k k' b lo hi h hk'
        · have := hok.bmLt hk'; have := h.1; omega
    have hold := main st.L E.τ (fun _ => ⟨Nat.le_refl _, fun _ => rfl⟩) (fun k b lo hi h => .inl h) (fun k k' x y h h' h1 h2 => by have := hok.spLt (k := k) (b := x.1) (lo := x.2.1) (hi := x.2.2) (by rw [h]); omega)
    rcases hres with hres | ⟨sz, xs, A, n, cp, rfl, rfl, hres, hsp⟩
    · have he : callEff st o.dst r = { v := r } := by
        unfold callEff
        split
        · rename_i sz xs k g d
          cases hres with | list _ _ _ _ _ _ _ _ _ _ _ _ _ ho => rcases ho with ho | ⟨ho, _⟩ <;> cases ho
        · rename_i sz xs k g
          cases hres with | list _ _ _ _ _ _ _ _ _ _ _ _ _ ho => rcases ho with ho | ⟨ho, _⟩ <;> cases ho
        · rfl
      rw [he] at hK
      exact hK v w' _ hold.1 hold.2 (.pure _ _ (.data _ _ hres))
    · cases hdst : o.dst with
      | none =>
        rw [hdst] at hK
        rw [← hdst] at hK ⊢
        have he : callEff st o.dst (.list sz xs fresh) = { v := .list sz xs .no } := by rw [hdst]; rfl
        rw [hdst] at hK ⊢
        have he2 : callEff st none (.list sz xs fresh) = { v := .list sz xs .no } := rfl
        rw [he2] at hK
        exact hK _ w' _ hold.1 hold.2 (.pure _ _ (.data _ _ hres))
      | some d =>
        rw [hdst] at hK
        have he : callEff st (some d) (.list sz xs fresh) = { v := .list sz xs (.key (st.d + d) (st.L (st.d + d) + 1)), bump := [st.d + d] } := rfl
        rw [he] at hK
        rcases hsp with hfull | ⟨b, off, t, ccs, hA, hb, hh, hfit, hno⟩
        · have h9 := main (upd st.L (st.d + d) (st.L (st.d + d) + 1)) (upd E.τ (st.d + d) none) (fun k => by
            by_cases e : k = st.d + d
            · subst e; rw [upd_same]; exact ⟨by omega, fun h => by omega⟩
            · rw [upd_ne _ _ e, upd_ne _ _ e]; exact ⟨Nat.le_refl _, fun _ => rfl⟩) (fun k b lo hi h => by
            by_cases e : k = st.d + d
            · subst e; rw [upd_same] at h; cases h
            · rw [upd_ne _ _ e] at h; exact .inl h) (fun k k' x y h h' h1 h2 => by
            by_cases e : k = st.d + d
            · subst e; rw [upd_same] at h; cases h
            · rw [upd_ne _ _ e] at h
              have := hok.spLt (k := k) (b := x.1) (lo := x.2.1) (hi := x.2.2) (by rw [h]); omega)
          refine hK _ w' _ h9.1 h9.2 (.own _ _ _ _ _ _ _ hres ⟨?_, fun _ => .inl hfull⟩)
          simp [upd_same]
        · have h9 := main (upd st.L (st.d + d) (st.L (st.d + d) + 1)) (upd E.τ (st.d + d) (some (b, off + n * sz, off + cp * sz))) (fun k => by
            by_cases e : k = st.d + d
            · subst e; rw [upd_same]; exact ⟨by omega, fun h => by omega⟩
            · rw [upd_ne _ _ e, upd_ne _ _ e]; exact ⟨Nat.le_refl _, fun _ => rfl⟩) (fun k b' lo hi h => by
            by_cases e : k = st.d + d
            · subst e; rw [upd_same] at h; cases h; exact .inr ⟨hb, hno, ccs, t, hh, hfit⟩
            · rw [upd_ne _ _ e] at h; exact .inl h) (fun k k' x y h h' h1 h2 => by
            have one : ∀ k x, upd E.τ (st.d + d) (some (b, off + n * sz, off + cp * sz)) k = some x → w.heap.size ≤ x.1 → k = st.d + d := fun k x h h1 => by
              by_cases e : k = st.d + d
              · exact e
              · rw [upd_ne _ _ e] at h
                have := hok.spLt (k := k) (b := x.1) (lo := x.2.1) (hi := x.2.2) (by rw [h]); omega
            rw [one k x h h1, one k' y h' h2])
          refine hK _ w' _ h9.1 h9.2 (.own _ _ _ _ _ _ _ hres ⟨?_, fun _ => .inr ⟨b, off, hA, ?_⟩⟩)
          · simp [upd_same]
          · simp [upd_same]
end

end Go.Proofs.YtmnpjaglgalobaaGreatW.E
