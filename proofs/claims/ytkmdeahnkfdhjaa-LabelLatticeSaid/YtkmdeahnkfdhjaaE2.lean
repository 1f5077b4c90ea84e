/-
  The state of a frame in abstract values, how it stands to memory, and what one operation makes of it. Laws over any program; no condition.
-/
import Derived.Test.YtkmdeahnkfdhjaaE1
namespace Go.Proofs.YtkmdeahnkfdhjaaW.E
open Go Go.RowKit
set_option linter.unusedVariables false
set_option linter.unusedSimpArgs false

def upd {α : Type} (f : Nat → α) (k : Nat) (v : α) : Nat → α := fun i => if i = k then v else f i
theorem upd_same {α : Type} (f : Nat → α) (k : Nat) (v : α) : upd f k v k = v := if_pos rfl
theorem upd_ne {α : Type} (f : Nat → α) {k i : Nat} (v : α) (h : i ≠ k) : upd f k v i = f i := if_neg h
theorem upd_comm {α : Type} (f : Nat → α) {k j : Nat} (v u : α) (h : k ≠ j) : upd (upd f k v) j u = upd (upd f j u) k v := by
  funext i; unfold upd; split <;> split <;> first | rfl | omega

structure St where
  n : Nat
  d : Nat
  s : Nat → AV
  B : Nat → Nat × List AV
  L : Nat → Nat

/-- Memory when the frame was entered, and what of it was settled. -/
structure Entry where
  w : World
  S : Pl
  E1 : Env
  w1 : World

structure OK (base : Nat) (w0 : Entry) (E : Env) (B : Nat → Nat × List AV) (L : Nat → Nat) (w : World) : Prop where
  hbase : base ≤ w0.w.heap.size
  below : Below base w0.w w
  sOld : ∀ b o, E.S b o → b < base → w0.S b o
  sCell : ∀ b o, E.S b o → ∃ v, w.cell? ⟨b, o, none⟩ = some v
  fCell : ∀ b o, E.F b o → ∃ v, w.cell? ⟨b, o, none⟩ = some v
  fOld : ∀ b o, E.F b o → E.S b o ∨ b < base
  sF : ∀ b o, E.S b o → E.F b o
  L : ∀ k, E.L k = L k
  G : ∀ k, E.G k = (B k).1
  box : ∀ k, (B k).2 ≠ [] → base ≤ E.bm k ∧ (∀ o, ¬ E.S (E.bm k) o) ∧ ∃ t ccs, w.heap[E.bm k]? = some (.cells ccs t (0, 0)) ∧ ccs.size = (B k).2.length ∧
    ∀ (i : Nat) c v, (B k).2[i]? = some c → ccs[i]? = some v → v.oneCell' = true ∧ RV E w c v
  boxinj : ∀ k k', k ≠ k' → (B k).2 ≠ [] → (B k').2 ≠ [] → E.bm k ≠ E.bm k'
  spare : ∀ k b lo hi, E.τ k = some (b, lo, hi) → base ≤ b ∧ (∀ o, lo ≤ o → o < hi → ¬ E.S b o) ∧ ∃ ccs t, w.heap[b]? = some (.cells ccs t (0, 0)) ∧ hi ≤ ccs.size
  spareinj : ∀ k k' b lo hi b' lo' hi', k ≠ k' → E.τ k = some (b, lo, hi) → E.τ k' = some (b', lo', hi') → b ≠ b'
  sparebox : ∀ k k' b lo hi, E.τ k = some (b, lo, hi) → (B k').2 ≠ [] → E.bm k' ≠ b

theorem OK.size {base : Nat} {w0 : Entry} {E : Env} {B : Nat → Nat × List AV} {L : Nat → Nat} {w : World} (h : OK base w0 E B L w) : base ≤ w.heap.size := Nat.le_trans h.hbase h.below.size

/-- How a state stands to a frame and to memory. -/
structure Rel (base : Nat) (w0 : Entry) (st : St) (a : Act) (w : World) : Prop where
  ex : ∃ E, OK base w0 E st.B st.L w ∧ w0.E1.Le w0.w1 E w ∧ ∀ t, RV E w (st.s t) (a.tmps.getD t undef)
  size : a.tmps.size = st.n
  defs : a.defers = []

def ofConst0 : Value → AV
  | .slice none 0 0 => .list 0 [] .full
  | v => .val v
def ofConst : Value → AV
  | .agg cs => if cs.all (·.oneCell') then .agg (cs.toList.map ofConst0) else .val (.agg cs)
  | v => ofConst0 v

def evalA (st : St) : Operand → AV
  | .tmp t => st.s t
  | .const v => ofConst v
  | .global _ => .any
  | .func f => .fn f []

theorem RD.nil (S : Pl) (w : World) (sz : Nat) (A : Option Addr) : RD S w (.list sz [] .full) (.slice A 0 0) :=
  RD.list sz [] .full A 0 0 0 (fun _ => undef) (Nat.le_refl _) (by simp) (by simp) (by simp [flat]) (by simp [flat]) (.inr ⟨rfl, rfl⟩)

theorem RD.ofConst0 (S : Pl) (w : World) (v : Value) : RD S w (ofConst0 v) v := by
  unfold E.ofConst0
  split
  · exact RD.nil S w 0 none
  · exact .val _

theorem RD.ofConst (S : Pl) (w : World) (v : Value) : RD S w (ofConst v) v := by
  unfold E.ofConst
  split
  · rename_i cs
    split
    · rename_i h
      refine .agg _ _ (by simp) (fun v hv => Array.all_eq_true_iff_forall_mem.1 h v hv) (fun i c u hc hu => ?_)
      simp only [List.getElem?_map, Option.map_eq_some_iff, Array.getElem?_toList] at hc
      obtain ⟨x, hx, rfl⟩ := hc
      rw [hu] at hx
      cases hx
      exact RD.ofConst0 S w _
    · exact .val _
  · exact RD.ofConst0 S w v

theorem evalA_ok {E : Env} {w : World} {st : St} {a : Act} (h : ∀ t, RV E w (st.s t) (a.tmps.getD t undef)) (x : Operand) : RV E w (evalA st x) (a.eval x) := by
  cases x with
  | tmp t => exact h t
  | const v => exact .pure _ _ (.data _ _ (RD.ofConst _ _ v))
  | global g => exact RV.any _
  | func f => exact .pure _ _ (.fn f [] #[] rfl (by simp))

/-- A value, where the words say all of it. -/
def toV0 : AV → Option Value
  | .val v => some v
  | _ => none
def toV : AV → Option Value
  | .val v => some v
  | .agg vs => (vs.mapM toV0).map fun us => .agg us.toArray
  | _ => none

theorem RV.list_val {E : Env} {w : World} : ∀ (vs : List AV) (us : List Value), vs.mapM toV0 = some us → ∀ cs : List Value, vs.length = cs.length → (∀ (i : Nat) c v, vs[i]? = some c → cs[i]? = some v → RV E w c v) → cs = us
  | [], us, h, cs, hl, _ => by
    simp at h; subst h
    cases cs <;> simp_all
  | a :: vs, us, h, cs, hl, hr => by
    cases cs with
    | nil => simp at hl
    | cons c cs =>
      simp only [List.mapM_cons, Option.bind_eq_bind, Option.pure_def, Option.bind_eq_some_iff] at h
      obtain ⟨u, hu, us', hus, h9⟩ := h
      cases h9
      have hc := hr 0 a c rfl rfl
      have ha : a = .val u := by cases a <;> simp_all [toV0]
      subst ha
      rw [RV.val_iff] at hc
      subst hc
      have := RV.list_val vs us' hus cs (by simpa using hl) (fun i c v hc hv => hr (i + 1) c v (by simpa using hc) (by simpa using hv))
      rw [this]

theorem toV_ok {E : Env} {w : World} {a : AV} {u v : Value} (h : toV a = some u) (hr : RV E w a v) : v = u := by
  cases a <;> simp only [toV, Option.some.injEq, reduceCtorEq, Option.map_eq_some_iff] at h
  · subst h; exact RV.val_iff.1 hr
  · obtain ⟨us, hus, rfl⟩ := h
    obtain ⟨cs, rfl, hl, _, hr⟩ := RV.agg_iff.1 hr
    have := RV.list_val _ us hus cs.toList (by simpa using hl) (fun i c v hc hv => hr i c v hc (by simpa using hv))
    subst this
    rfl

/-- What a meaning comes to that asks only the program. -/
def pureRun {α : Type} (P : Program) : Sem α → Option α
  | .pure a => some a
  | .program k => pureRun P (k P)
  | _ => none

theorem pureRun_ok {α : Type} {P : Program} (s : Sem α) {a : α} (h : pureRun P s = some a) (w : World) : s.run P w = .ok a w := by
  induction s with
  | pure b => simp only [pureRun, Option.some.injEq] at h; subst h; rfl
  | program k ih => exact ih P (by simpa [pureRun] using h)
  | _ => simp [pureRun] at h

/-- A type as the words need it. -/
structure TInfo where
  agg : Bool
  sz : Nat
  bytes : Nat
  zero : List AV
  fields : List (Nat × Nat × Bool)
  elem : Option Nat

def isRow : TypeDesc → Bool
  | .struct _ | .array _ _ => true
  | _ => false

/-- The size of an element, of each cell that is a slice. -/
def cellSz (P : Program) : Nat → TypeId → List Nat
  | 0, t => List.replicate (((P.info? t).map (·.size)).getD 0) 0
  | d + 1, t => match P.underlying t with
    | some (.slice e) => [((P.info? e).map (·.size)).getD 0]
    | some (.struct fs) => fs.toList.flatMap fun f => cellSz P d f.type
    | some (.array n e) => (List.replicate n (cellSz P d e)).flatten
    | _ => List.replicate (((P.info? t).map (·.size)).getD 0) 0

def fixZ : Value → Nat → AV
  | .slice none 0 0, n => .list n [] .full
  | v, _ => .val v
theorem RD.fixZ (S : Pl) (w : World) (v : Value) (n : Nat) : RD S w (fixZ v n) v := by
  unfold E.fixZ
  split
  · exact RD.nil S w _ none
  · exact .val _

def mkInfo (P : Program) (t : TypeId) : Option TInfo :=
  match P.underlying t, P.info? t with
  | some d, some i =>
    match i.zero with
    | some z =>
      if z.cells.all (·.oneCell') && z.cells.size == i.size then
        some { agg := isRow d, sz := i.size, bytes := i.bytes, zero := z.cells.toList.zipIdx.map fun x => fixZ x.1 ((cellSz P 4 t).getD x.2 0),
               fields := (match d with
                 | .struct fs => fs.toList.map fun f => (f.offset, ((P.info? f.type).map (·.size)).getD 0, ((P.underlying f.type).map isRow).getD true)
                 | _ => []),
               elem := (match d with | .slice e => some e | _ => none) }
      else none
    | none => none
  | _, _ => none

/-- A table of types, each row as the program has it. -/
abbrev Tab := List (Nat × TInfo)
def Tab.get (T : Tab) (t : Nat) : Option TInfo := T.lookup t
def Tab.OK (P : Program) (T : Tab) : Prop := ∀ t i, T.get t = some i → mkInfo P t = some i
theorem Tab.OK.nil (P : Program) : Tab.OK P [] := fun t i h => by simp [Tab.get] at h
theorem Tab.OK.cons {P : Program} {T : Tab} {t : Nat} {i : TInfo} (h : mkInfo P t = some i) (k : Tab.OK P T) : Tab.OK P ((t, i) :: T) := fun u j hj => by
  simp only [Tab.get, List.lookup_cons] at hj
  split at hj
  · rename_i e
    rw [beq_iff_eq] at e
    subst e
    cases hj
    exact h
  · exact k u j hj

structure TOK (P : Program) (t : TypeId) (i : TInfo) : Prop where
  ex : ∃ d inf z, P.underlying t = some d ∧ P.info? t = some inf ∧ inf.zero = some z ∧ i.agg = isRow d ∧ i.sz = inf.size ∧ i.bytes = inf.bytes ∧ z.cells.size = inf.size ∧
    (∀ v ∈ z.cells, v.oneCell' = true) ∧ i.zero.length = z.cells.size ∧ ∀ (S : Pl) (w : World) (j : Nat) c v, i.zero[j]? = some c → z.cells[j]? = some v → RD S w c v
  fields : ∀ (j : Nat) x, i.fields[j]? = some x → ∃ fs f, P.underlying t = some (.struct fs) ∧ fs[j]? = some f ∧ x = (f.offset, ((P.info? f.type).map (·.size)).getD 0, ((P.underlying f.type).map isRow).getD true)
  elem : ∀ e, i.elem = some e → P.underlying t = some (.slice e)
  nf : ∀ fs, P.underlying t = some (.struct fs) → i.fields.length = fs.size

theorem mkInfo_ok {P : Program} {t : TypeId} {i : TInfo} (h : mkInfo P t = some i) : TOK P t i := by
  unfold mkInfo at h
  split at h
  · rename_i d inf hd hinf
    split at h
    · rename_i z hz
      split at h
      · rename_i hall
        simp only [Bool.and_eq_true, beq_iff_eq] at hall
        cases h
        refine ⟨⟨d, inf, z, hd, hinf, hz, rfl, rfl, rfl, hall.2, ?_, by simp, ?_⟩, ?_, ?_, ?_⟩
        · exact fun v hv => (Array.all_eq_true_iff_forall_mem.1 hall.1) v hv
        · intro S w j c v hc hv
          simp only [List.getElem?_map, List.getElem?_zipIdx, Option.map_eq_some_iff, Option.map_map, Array.getElem?_toList] at hc
          obtain ⟨x, hx, rfl⟩ := hc
          rw [hv] at hx
          cases hx
          exact RD.fixZ S w _ _
        · intro j x hx
          dsimp only at hx
          split at hx
          · rename_i fs
            simp only [List.getElem?_map, Option.map_eq_some_iff, Array.getElem?_toList] at hx
            obtain ⟨f, hf, rfl⟩ := hx
            exact ⟨fs, f, hd, hf, rfl⟩
          · simp at hx
        · intro e he
          dsimp only at he
          split at he
          · simp only [Option.some.injEq] at he; subst he; exact hd
          · simp at he
        · intro fs hfs
          rw [hd] at hfs
          cases hfs
          simp
      · cases h
    · cases h
  · cases h

/-- What one operation makes: the value of its slot; a box that is new or turned; keys that go up. -/
structure Eff where
  v : AV
  box : Option (Nat × Nat × List AV) := none
  bump : List Nat := []

def St.app (st : St) (dst : Option Nat) (e : Eff) : St :=
  { n := st.n, d := st.d,
    s := match dst with | some t => upd st.s t e.v | none => st.s,
    B := match e.box with | some (k, gc) => upd st.B k gc | none => st.B,
    L := e.bump.foldl (fun L k => upd L k (L k + 1)) st.L }

/-- One operation is carried out as told. -/
def Does (P : Program) (base : Nat) (w0 : Entry) (st : St) (o : Oper) (e : Eff) : Prop :=
  ∀ E (a : Act) w, OK base w0 E st.B st.L w → (∀ t, RV E w (st.s t) (a.tmps.getD t undef)) → a.tmps.size = st.n → a.defers = [] →
    ∀ K Q, (∀ v w' E', E.Le w E' w' → OK base w0 E' (st.app o.dst e).B (st.app o.dst e).L w' → RV E' w' e.v v → K (a.put o.dst v) w') → o.wp P a w K Q

theorem slots_put {E E' : Env} {w w' : World} {st : St} {a : Act} {dst : Option Nat} {e : Eff} {v : Value} (h : ∀ t, RV E w (st.s t) (a.tmps.getD t undef)) (hn : a.tmps.size = st.n)
    (hd : ∀ t, dst = some t → t < st.n) (hle : E.Le w E' w') (hv : RV E' w' e.v v) : ∀ t, RV E' w' ((st.app dst e).s t) ((a.put dst v).tmps.getD t undef) := by
  intro t
  cases dst with
  | none => exact (h t).mono hle
  | some d =>
    have hd' := hd d rfl
    simp only [St.app, Act.put]
    by_cases ht : t = d
    · subst ht
      rw [upd_same]
      have : (a.tmps.setIfInBounds t v).getD t undef = v := by simp [Array.getD, hn, hd']
      rw [this]; exact hv
    · rw [upd_ne _ _ ht]
      have : (a.tmps.setIfInBounds d v).getD t undef = a.tmps.getD t undef := by
        simp only [Array.getD_eq_getD_getElem?]
        rw [Array.getElem?_setIfInBounds_ne (by omega)]
      rw [this]
      exact (h t).mono hle

/-- So the frame behind the operation is as told. -/
theorem Does.rel {P : Program} {base : Nat} {w0 : Entry} {st : St} {o : Oper} {e : Eff} (hdo : Does P base w0 st o e) (hd : ∀ t, o.dst = some t → t < st.n) {a : Act} {w : World} (hrel : Rel base w0 st a w)
    {K : Act → World → Prop} {Q : Exit → Act → World → Prop} (hK : ∀ a' w', Rel base w0 (st.app o.dst e) a' w' → K a' w') : o.wp P a w K Q := by
  obtain ⟨E, hok, hle0, hs⟩ := hrel.ex
  refine hdo E a w hok hs hrel.size hrel.defs K Q (fun v w' E' hle hok' hv => hK _ _ ⟨⟨E', hok', hle0.trans hle, slots_put hs hrel.size hd hle hv⟩, ?_, ?_⟩)
  · cases o.dst <;> simp [Act.put, St.app, hrel.size]
  · cases o.dst <;> simp [Act.put, hrel.defs]

/-- An operation that yields a value and turns nothing. -/
theorem does_pure {P : Program} {base : Nat} {w0 : Entry} {st : St} {o : Oper} {v : AV} (h : ∀ E (a : Act) w, OK base w0 E st.B st.L w → (∀ t, RV E w (st.s t) (a.tmps.getD t undef)) →
    ∃ u, (execOp a.eval o).run P w = .ok (.value u) w ∧ RV E w v u) : Does P base w0 st o { v } := by
  intro E a w hok hs hn hd K Q hK
  obtain ⟨u, hu, hr⟩ := h E a w hok hs
  unfold Oper.wp
  rw [hu]
  exact hK u w E (Env.Le.refl _ _) hok hr

end Go.Proofs.YtkmdeahnkfdhjaaW.E
