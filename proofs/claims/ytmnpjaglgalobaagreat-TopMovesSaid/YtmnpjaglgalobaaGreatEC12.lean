/-
  Rows of memory that a write does not meet frozen. Laws over any program; no condition.
-/
import Derived.Test.YtmnpjaglgalobaaGreatE15
import Derived.Test.YtmnpjaglgalobaaGreatE24
import Derived.MapKept
import Derived.Maps.RangeRun
import Derived.Orders
import Derived.Laws.MakeOwn
namespace Go.Proofs.YtmnpjaglgalobaaGreatW.C
open Go Go.RowKit
set_option linter.unusedVariables false
set_option linter.unusedSimpArgs false

/-- A row whose cells are these; what is frozen of it lies behind them. -/
def CellsAt (w : World) (b : Nat) (ccs : Array Value) (t : TypeId) : Prop := ∃ fz : Nat × Nat, w.heap[b]? = some (.cells ccs t fz) ∧ (fz = (0, 0) ∨ ccs.size ≤ fz.1)
theorem CellsAt.lt {w : World} {b : Nat} {ccs : Array Value} {t : TypeId} (h : CellsAt w b ccs t) : b < w.heap.size := by
  obtain ⟨fz, h, _⟩ := h; exact (Array.getElem?_eq_some_iff.1 h).1
theorem CellsAt.mono {w w' : World} {b : Nat} {ccs : Array Value} {t : TypeId} (h : CellsAt w b ccs t) (hw : w'.heap[b]? = w.heap[b]?) : CellsAt w' b ccs t := by
  obtain ⟨fz, h, h2⟩ := h; exact ⟨fz, by rw [hw]; exact h, h2⟩
theorem CellsAt.new (w : World) (ccs : Array Value) (t : TypeId) : CellsAt (w.alloc (.cells ccs t)) w.heap.size ccs t := ⟨(0, 0), heap_alloc_new w _, .inl rfl⟩
theorem CellsAt.set {w : World} {b : Nat} {ccs ccs' : Array Value} {t : TypeId} (h : CellsAt w b ccs t) (hs : ccs'.size = ccs.size) : CellsAt (w.setRow b ccs') b ccs' t := by
  obtain ⟨fz, h, h2⟩ := h
  exact ⟨fz, setRow_heap w b ccs _ t _ h, by rw [hs]; exact h2⟩
theorem CellsAt.cell {w : World} {b : Nat} {ccs : Array Value} {t : TypeId} (h : CellsAt w b ccs t) {i : Nat} (hi : i < ccs.size) : w.cell? ⟨b, i, none⟩ = some ccs[i] := by
  obtain ⟨fz, h, h2⟩ := h
  simp [World.cell?, h, hi]
theorem CellsAt.eq {w : World} {b : Nat} {ccs ccs' : Array Value} {t t' : TypeId} (h : CellsAt w b ccs t) (h' : CellsAt w b ccs' t') : ccs = ccs' := by
  obtain ⟨fz, h, _⟩ := h
  obtain ⟨fz', h', _⟩ := h'
  rw [h] at h'; cases h'; rfl

theorem run_storeCells_atG (P : Program) (g o : Nat) (t : TypeId) : ∀ (vs : List Value) (i : Nat) (cur : Array Value) (w : World), CellsAt w g cur t → o + i + vs.length ≤ cur.size → (∀ v ∈ vs, v.oneCell' = true) →
    (storeCells ⟨g, o, none⟩ vs i).run P w = .ok () (w.setRow g (cur.toList.take (o + i) ++ vs ++ cur.toList.drop (o + i + vs.length)).toArray)
  | [], i, cur, w, hg, _, _ => by
    obtain ⟨fz, hg, _⟩ := hg
    simp only [storeCells, List.append_nil, List.length_nil, Nat.add_zero, List.take_append_drop, Array.toArray_toList]
    rw [setRow_self w g cur t fz hg]
    rfl
  | v :: rest, i, cur, w, hg, hl, h1 => by
    have hc := hg
    obtain ⟨fz, hg, hfz⟩ := hg
    have hi : o + i < cur.size := by simp at hl; omega
    have hadd : (⟨g, o, none⟩ : Addr).add i = ⟨g, o + i, none⟩ := by unfold Addr.add; split <;> simp_all
    have hcell : w.cell? ⟨g, o + i, none⟩ = some cur[o + i] := by simp [World.cell?, hg, hi]
    have hfro : w.frozen? ⟨g, o + i, none⟩ = false := by
      obtain ⟨lo, hi'⟩ := fz
      simp only [World.frozen?, hg, Bool.and_eq_false_iff, decide_eq_false_iff_not]
      rcases hfz with hfz | hfz
      · simp only [Prod.mk.injEq] at hfz
        right; omega
      · left; simp only at hfz; omega
    have hst : (store ((⟨g, o, none⟩ : Addr).add i) v).run P w = .ok () (w.setRow g (cur.setIfInBounds (o + i) v)) := by
      rw [hadd, run_store P w _ v _ (h1 v (by simp)), hcell]
      simp [hfro, setCell_eq_setRow w g (o + i) cur t fz v hg]
    have ih := run_storeCells_atG P g o t rest (i + 1) (cur.setIfInBounds (o + i) v) (w.setRow g (cur.setIfInBounds (o + i) v)) (hc.set (by simp)) (by simp at hl ⊢; omega) (fun x hx => h1 x (by simp [hx]))
    simp only [storeCells, Sem.run_bind, hst, Result.andThen_ok, ih, setRow_setRow]
    congr 3
    have e := list_seg_step cur.toList (o + i) v rest (by simp at hl ⊢; omega)
    simpa [Array.toList_setIfInBounds, Nat.add_assoc] using e

/-- The mark behind a row's end. -/
theorem CellsAt.freeze {w : World} {b : Nat} {ccs : Array Value} {t : TypeId} (h : CellsAt w b ccs t) : CellsAt (w.freeze ⟨b, ccs.size, none⟩ 1) b ccs t := by
  obtain ⟨⟨lo, hi⟩, h, h2⟩ := h
  have hlt : b < w.heap.size := (Array.getElem?_eq_some_iff.1 h).1
  have hv : w.heap[b] = .cells ccs t (lo, hi) := (Array.getElem?_eq_some_iff.1 h).2
  unfold World.freeze
  rw [if_neg (by omega)]
  refine ⟨if lo == hi then (ccs.size, ccs.size + 1) else (min lo ccs.size, max hi (ccs.size + 1)), ?_, ?_⟩
  · simp only
    rw [Array.getElem?_eq_getElem (by simpa using hlt), Array.getElem_modify]
    simp [hv]
  · right
    split
    · exact Nat.le_refl _
    · rename_i hne
      rcases h2 with h2 | h2
      · simp only [Prod.mk.injEq] at h2
        simp [h2] at hne
      · simp only at h2 ⊢; omega
theorem freeze_other {w : World} {b j : Nat} (n : Nat) (h : j ≠ b) : (w.freeze ⟨b, n, none⟩ 1).heap[j]? = w.heap[j]? := by
  unfold World.freeze
  rw [if_neg (by omega)]
  simp [Array.getElem?_modify, Ne.symm h]
theorem freeze_size (w : World) (a : Addr) (n : Nat) : (w.freeze a n).heap.size = w.heap.size ∧ (w.freeze a n).os = w.os ∧ (w.freeze a n).tape = w.tape ∧ (w.freeze a n).output = w.output := by
  unfold World.freeze
  split <;> simp
end Go.Proofs.YtmnpjaglgalobaaGreatW.C

/-
  A canonical executor: values, boxes, how they stand to memory. Laws over any program; no condition.
-/
namespace Go.Proofs.YtmnpjaglgalobaaGreatW.C
open Go Go.RowKit
open Go.Proofs.YtmnpjaglgalobaaGreatW.E (upd upd_same upd_ne TInfo TOK Tab mkInfo_ok splice splice_get splice_len Entry alloc_heap fieldAt_run bcat)
set_option linter.unusedVariables false
set_option linter.unusedSimpArgs false

inductive CV where
  | val (v : Value)
  | any
  | agg (vs : List CV)
  | tup (vs : List CV)
  | ptr (k off : Nat)
  | sl (sz k off n : Nat) (c : Option Nat)
  | sle
  | fn (f : FuncId) (first caps : List CV)
  | mp (k : Nat)
  | res (k : IntKind) (m r : Nat)

instance : Inhabited CV := ⟨.any⟩

/-- What is not known but the same all along: a number (its digits are bytes); a list of bytes that was there ahead. -/
structure Src where
  N : Nat
  blk : Nat
  off : Nat
  n : Nat
def Src.byte (s : Src) (j : Nat) : Nat := s.N / 256 ^ j % 256
def Src.wide (s : Src) (j : Nat) : Nat := s.N / 256 ^ j % 65536
/-- A byte that is known, or one of the number's. -/
def Src.it (s : Src) (d : Nat) : Int := if d < 256 then (d : Int) else (s.byte (d - 256) : Int)
def encL : List Nat → Nat
  | [] => 0
  | d :: l => encL l * 65536 + (d + 1)
theorem encL_inj : ∀ {l l' : List Nat}, (∀ d ∈ l, d < 65535) → (∀ d ∈ l', d < 65535) → encL l = encL l' → l = l'
  | [], [], _, _, _ => rfl
  | [], d :: l, _, _, h => by simp only [encL] at h; omega
  | d :: l, [], _, _, h => by simp only [encL] at h; omega
  | d :: l, d' :: l', h1, h2, h => by
    have a1 := h1 d List.mem_cons_self
    have a2 := h2 d' List.mem_cons_self
    simp only [encL] at h
    have e1 : d = d' := by omega
    subst e1
    rw [encL_inj (fun x hx => h1 x (List.mem_cons_of_mem _ hx)) (fun x hx => h2 x (List.mem_cons_of_mem _ hx)) (by omega : encL l = encL l')]
/-- What is told of a value by (m, r): below 1000, a number's residue; 1000, a byte; 1001, two bytes; 1002, the upper one of them, with nothing below; 1003, a string; 1004, the list; 1005, a long list; 1006, a long list's length. -/
def ResOK (s : Src) (k : IntKind) (m r : Nat) (v : Value) : Prop :=
  if m < 1000 then ∃ z : Nat, v = .int k (z : Int) ∧ z % m = r ∧ z < 256
  else if m = 1000 then v = .int k (s.byte r : Int)
  else if m = 1001 then v = .int k (s.wide r : Int)
  else if m = 1002 then v = .int k ((s.byte (r + 1) * 256 : Nat) : Int)
  else if m = 1003 then ∃ l : List Nat, encL l = r ∧ (∀ d ∈ l, d < 65535) ∧ v = .string (bcat (l.map s.it))
  else if m = 1004 then ∃ c, v = .slice (some ⟨s.blk, s.off, none⟩) s.n c ∧ r = s.n ∧ s.n ≤ c
  else if m = 1005 then ∃ A n c, v = .slice (some A) n c ∧ 20 < n
  else if m = 1006 then ∃ z : Nat, v = .int k (z : Int) ∧ 20 < z
  else False
theorem ResOK.cell {s : Src} {k : IntKind} {m r : Nat} {v : Value} (h : ResOK s k m r v) : v.oneCell' = true := by
  unfold ResOK at h
  repeat' split at h
  · obtain ⟨z, rfl, _⟩ := h; rfl
  · subst h; rfl
  · subst h; rfl
  · subst h; rfl
  · obtain ⟨l, _, _, rfl⟩ := h; rfl
  · obtain ⟨c, rfl, _⟩ := h; rfl
  · obtain ⟨A, n, c, rfl, _⟩ := h; rfl
  · obtain ⟨z, rfl, _⟩ := h; rfl
  · cases h

theorem resOK_lt {s : Src} {k : IntKind} {m r z : Nat} (hm : m < 1000) (h : z % m = r) (h2 : z < 256) : ResOK s k m r (.int k (z : Int)) := by
  unfold ResOK
  rw [if_pos hm]
  exact ⟨z, rfl, h, h2⟩
/-- Where the boxes lie, and how many cells their blocks have; what is not known. -/
structure Env where
  bm : Nat → Option Nat
  Z : Nat → Nat
  src : Src := ⟨0, 0, 0, 0⟩

inductive RV (E : Env) : CV → Value → Prop where
  | val (v : Value) : RV E (.val v) v
  | any (v : Value) : RV E .any v
  | agg (vs : List CV) (cs : Array Value) (hl : vs.length = cs.size) (h1 : ∀ v ∈ cs, v.oneCell' = true)
      (h : ∀ (i : Nat) c v, vs[i]? = some c → cs[i]? = some v → RV E c v) : RV E (.agg vs) (.agg cs)
  | tup (vs : List CV) (cs : Array Value) (hl : vs.length = cs.size)
      (h : ∀ (i : Nat) c v, vs[i]? = some c → cs[i]? = some v → RV E c v) : RV E (.tup vs) (.tuple cs)
  | ptr (k off b : Nat) (h : E.bm k = some b) : RV E (.ptr k off) (.pointer (some ⟨b, off, none⟩))
  | sl (sz k off n : Nat) (c : Option Nat) (b c' : Nat) (h : E.bm k = some b) (hn : n ≤ c') (hc : ∀ x, c = some x → x = c') (hz : off + c' * sz ≤ E.Z k) (hf : c = none → off + c' * sz = E.Z k) : RV E (.sl sz k off n c) (.slice (some ⟨b, off, none⟩) n c')
  | sle (A : Addr) (c : Nat) : RV E .sle (.slice (some A) 0 c)
  | fn (f : FuncId) (first caps : List CV) (us vs : Array Value) (hl0 : first.length = us.size) (hl : caps.length = vs.size)
      (h0 : ∀ (i : Nat) c v, first[i]? = some c → us[i]? = some v → RV E c v) (h : ∀ (i : Nat) c v, caps[i]? = some c → vs[i]? = some v → RV E c v) : RV E (.fn f first caps) (.func (.func f) us vs)
  | mp (k b : Nat) (h : E.bm k = some b) : RV E (.mp k) (.map (some b))
  | res (k : IntKind) (m r : Nat) (v : Value) (h : ResOK E.src k m r v) : RV E (.res k m r) v

def Env.Le (E E' : Env) : Prop := (∀ k b, E.bm k = some b → E'.bm k = some b ∧ E'.Z k = E.Z k) ∧ E'.src = E.src
theorem Env.Le.refl (E : Env) : E.Le E := ⟨fun _ _ h => ⟨h, rfl⟩, rfl⟩
theorem Env.Le.trans {E E' E'' : Env} (h : E.Le E') (k : E'.Le E'') : E.Le E'' := ⟨fun x b hb => by
  obtain ⟨h1, h2⟩ := h.1 x b hb
  obtain ⟨h3, h4⟩ := k.1 x b h1
  exact ⟨h3, h4.trans h2⟩, k.2.trans h.2⟩

theorem RV.mono {E E' : Env} (hle : E.Le E') {a : CV} {v : Value} (h : RV E a v) : RV E' a v := by
  induction h with
  | val v => exact .val v
  | any v => exact .any v
  | agg vs cs hl h1 h ih => exact .agg vs cs hl h1 ih
  | tup vs cs hl h ih => exact .tup vs cs hl ih
  | ptr k off b h => exact .ptr k off b (hle.1 k b h).1
  | sl sz k off n c b c' h hn hc hz hf => exact .sl sz k off n c b c' (hle.1 k b h).1 hn hc (by rw [(hle.1 k b h).2]; exact hz) (fun e => by rw [(hle.1 k b h).2]; exact hf e)
  | sle A c => exact .sle A c
  | fn f first caps us vs hl0 hl h0 h ih0 ih => exact .fn f first caps us vs hl0 hl ih0 ih
  | mp k b h => exact .mp k b (hle.1 k b h).1
  | res k m r v h => exact .res k m r v (by rw [hle.2]; exact h)

theorem RV.val_iff {E : Env} {u v : Value} : RV E (.val u) v ↔ v = u :=
  ⟨fun h => by cases h; rfl, fun h => by subst h; exact .val _⟩
theorem RV.agg_iff {E : Env} {vs : List CV} {v : Value} : RV E (.agg vs) v ↔ ∃ cs : Array Value, v = .agg cs ∧ vs.length = cs.size ∧ (∀ v ∈ cs, v.oneCell' = true) ∧ ∀ (i : Nat) c v, vs[i]? = some c → cs[i]? = some v → RV E c v := by
  constructor
  · intro h
    cases h with | agg _ cs hl h1 h => exact ⟨cs, rfl, hl, h1, h⟩
  · rintro ⟨cs, rfl, hl, h1, h⟩; exact .agg vs cs hl h1 h

def CV.cells : CV → List CV
  | .agg vs => vs
  | x => [x]
def CV.isCell : CV → Bool
  | .val v => v.oneCell'
  | .ptr _ _ => true
  | .sl _ _ _ _ _ => true
  | .sle => true
  | .fn _ _ _ => true
  | .mp _ => true
  | .res _ _ _ => true
  | _ => false
theorem RV.cell {E : Env} {a : CV} {v : Value} (ha : a.isCell = true) (h : RV E a v) : v.oneCell' = true := by
  cases h with
  | res k m r v h => exact h.cell
  | _ => simp_all [CV.isCell, Value.oneCell']
theorem RV.cells {E : Env} {a : CV} {v : Value} (h : RV E a v) (hc : a.cells.all CV.isCell = true) :
    v.cells.size = a.cells.length ∧ (∀ u ∈ v.cells, u.oneCell' = true) ∧ ∀ (i : Nat) y u, a.cells[i]? = some y → v.cells[i]? = some u → RV E y u := by
  by_cases hagg : ∃ vs, a = .agg vs
  · obtain ⟨vs, rfl⟩ := hagg
    obtain ⟨cs, rfl, hl, h1, h2⟩ := RV.agg_iff.1 h
    exact ⟨hl.symm, h1, h2⟩
  · have e1 : a.cells = [a] := by cases a <;> first | rfl | exact absurd ⟨_, rfl⟩ hagg
    rw [e1] at hc ⊢
    simp only [List.all_cons, List.all_nil, Bool.and_true] at hc
    have h1 := h.cell hc
    have e2 : v.cells = #[v] := by cases v <;> first | rfl | simp [Value.oneCell'] at h1
    rw [e2]
    refine ⟨rfl, by simpa using h1, fun i y u hy hu => ?_⟩
    have hi : i = 0 := by
      have := (List.getElem?_eq_some_iff.1 hy).1
      simp at this; exact this
    subst hi
    simp at hy hu
    subst hy; subst hu
    exact h

/-- What lies under a key: nothing yet; nothing any more; cells; a map. -/
inductive Ent where
  | un
  | dead
  | row (cs : List CV)
  | mpb (es : List (Value × CV × Nat)) (clock : Nat)
  | itr (m since : Nat) (seen : List Nat) (last : Nat)
instance : Inhabited Ent := ⟨.un⟩
def Ent.live : Ent → Bool
  | .row _ => true
  | .mpb _ _ => true
  | .itr .. => true
  | _ => false

def BoxAt (E : Env) (w : World) (b z : Nat) : Ent → Prop
  | .row cs => ∃ t ccs, CellsAt w b ccs t ∧ ccs.size = z ∧ cs.length ≤ z ∧ ∀ (i : Nat) c v, cs[i]? = some c → ccs[i]? = some v → v.oneCell' = true ∧ RV E c v
  | .mpb es cl => ∃ arr, w.heap[b]? = some (.map arr cl) ∧ arr.size = es.length ∧ ∀ (i : Nat) e x, es[i]? = some e → arr[i]? = some x → x.key = e.1 ∧ x.born = e.2.2 ∧ RV E e.2.1 x.val
  | .itr m since seen last => ∃ bm, E.bm m = some bm ∧ w.heap[b]? = some (.mapIter (some bm) since seen.toArray last)
  | _ => True

/-- What was there and is not owned stays. -/
structure Keep (base : Nat → Prop) (w w' : World) : Prop where
  os : w'.os = w.os
  tape : w'.tape = w.tape
  output : w'.output = w.output
  size : w.heap.size ≤ w'.heap.size
  block : ∀ k, k < w.heap.size → ¬ base k → w'.heap[k]? = w.heap[k]?
theorem Keep.refl (base : Nat → Prop) (w : World) : Keep base w w := ⟨rfl, rfl, rfl, Nat.le_refl _, fun _ _ _ => rfl⟩
theorem Keep.trans {base : Nat → Prop} {a b c : World} (h : Keep base a b) (k : Keep base b c) : Keep base a c :=
  ⟨k.os.trans h.os, k.tape.trans h.tape, k.output.trans h.output, Nat.le_trans h.size k.size, fun i hi hn => (k.block i (Nat.lt_of_lt_of_le hi h.size) hn).trans (h.block i hi hn)⟩
theorem Keep.alloc (base : Nat → Prop) (w : World) (o : Obj) : Keep base w (w.alloc o) :=
  ⟨rfl, rfl, rfl, (by show w.heap.size ≤ (w.heap.push o).size; simp), fun k hk _ => alloc_heap hk⟩
theorem Keep.below {w w' : World} (h : Keep (fun _ => False) w w') : Below w.heap.size w w' := ⟨h.os, h.tape, h.output, h.size, fun k hk => h.block k hk id⟩

/-- The list lies in what was there, not owned. -/
def SrcOK (base : Nat → Prop) (w0 : World) (s : Src) : Prop := s.n = 0 ∨ (s.blk < w0.heap.size ∧ ¬ base s.blk ∧ ∀ i, i < s.n → w0.cell? ⟨s.blk, s.off + i, none⟩ = some (.int .u8 (s.byte i : Int)))
theorem SrcOK.cell {base : Nat → Prop} {w0 w : World} {s : Src} (h : SrcOK base w0 s) (hk : Keep base w0 w) (i : Nat) (hi : i < s.n) : w.cell? ⟨s.blk, s.off + i, none⟩ = some (.int .u8 (s.byte i : Int)) := by
  rcases h with h | ⟨h1, h2, h3⟩
  · omega
  · rw [← h3 i hi]
    unfold World.cell?
    rw [hk.block _ h1 h2]
/-- From within what is owned later. -/
theorem SrcOK.inner {base Own : Nat → Prop} {w0 w : World} {s : Src} (h : SrcOK base w0 s) (hk : Keep base w0 w) (ho : ∀ b, Own b → base b ∨ w0.heap.size ≤ b) : SrcOK Own w s := by
  rcases h with h | ⟨h1, h2, h3⟩
  · exact .inl h
  · exact .inr ⟨Nat.lt_of_lt_of_le h1 hk.size, fun h4 => by rcases ho _ h4 with h5 | h5; exact h2 h5; omega, fun i hi => SrcOK.cell (.inr ⟨h1, h2, h3⟩) hk i hi⟩

structure OK (base : Nat → Prop) (w0 : World) (E : Env) (B : Nat → Ent) (w : World) : Prop where
  below : Keep base w0 w
  un : ∀ k, B k = .un → E.bm k = none
  box : ∀ k, (B k).live = true → ∃ b, E.bm k = some b ∧ (base b ∨ w0.heap.size ≤ b) ∧ BoxAt E w b (E.Z k) (B k)
  inj : ∀ k k' b, k ≠ k' → (B k).live = true → (B k').live = true → E.bm k = some b → E.bm k' ≠ some b
  src : SrcOK base w0 E.src

theorem BoxAt.mono {E E' : Env} {w w' : World} {b z : Nat} {x : Ent} (h : BoxAt E w b z x) (hle : E.Le E') (hw : w'.heap[b]? = w.heap[b]?) : BoxAt E' w' b z x := by
  cases x with
  | row cs =>
    obtain ⟨t, ccs, h1, h2, h3, h4⟩ := h
    exact ⟨t, ccs, h1.mono hw, h2, h3, fun i c v hc hv => ⟨(h4 i c v hc hv).1, (h4 i c v hc hv).2.mono hle⟩⟩
  | mpb es cl =>
    obtain ⟨arr, h1, h2, h3⟩ := h
    exact ⟨arr, by rw [hw]; exact h1, h2, fun i e x he hx => ⟨(h3 i e x he hx).1, (h3 i e x he hx).2.1, (h3 i e x he hx).2.2.mono hle⟩⟩
  | itr m since seen last =>
    obtain ⟨bm, h1, h2⟩ := h
    exact ⟨bm, (hle.1 _ _ h1).1, by rw [hw]; exact h2⟩
  | _ => trivial
theorem BoxAt.lt {E : Env} {w : World} {b z : Nat} {x : Ent} (h : BoxAt E w b z x) (hl : x.live = true) : b < w.heap.size := by
  cases x with
  | row cs => obtain ⟨t, ccs, h1, _⟩ := h; exact h1.lt
  | mpb es cl => obtain ⟨arr, h1, _⟩ := h; exact (Array.getElem?_eq_some_iff.1 h1).1
  | itr m since seen last => obtain ⟨bm, _, h1⟩ := h; exact (Array.getElem?_eq_some_iff.1 h1).1
  | _ => cases hl

section
variable {base : Nat → Prop} {w0 : World} {E : Env} {B : Nat → Ent} {w : World}

/-- The state of memory goes on, where no box is touched. -/
theorem OK.keep (hok : OK base w0 E B w) {w' : World} (hb : Keep base w w') (h : ∀ k b, (B k).live = true → E.bm k = some b → w'.heap[b]? = w.heap[b]?) : OK base w0 E B w' := by
  refine ⟨hok.below.trans hb, hok.un, fun k hk => ?_, hok.inj, hok.src⟩
  obtain ⟨b, h1, h2, h3⟩ := hok.box k hk
  exact ⟨b, h1, h2, h3.mono (Env.Le.refl E) (h k b hk h1)⟩
theorem OK.drawn (hok : OK base w0 E B w) (n : Nat) : OK base w0 E B (w.drewN n) :=
  hok.keep ⟨rfl, rfl, rfl, Nat.le_refl _, fun _ _ _ => rfl⟩ fun _ _ _ _ => rfl

/-- The mark behind a row's end. -/
theorem OK.frz (hok : OK base w0 E B w) {k b : Nat} {cs : List CV} (hk : B k = .row cs) (hb : E.bm k = some b) : OK base w0 E B (w.freeze ⟨b, E.Z k, none⟩ 1) := by
  obtain ⟨b', h1, h2, h3⟩ := hok.box k (by rw [hk]; rfl)
  rw [hb] at h1; cases h1
  obtain ⟨f1, f2, f3, f4⟩ := freeze_size w ⟨b, E.Z k, none⟩ 1
  refine ⟨⟨by rw [f2]; exact hok.below.os, by rw [f3]; exact hok.below.tape, by rw [f4]; exact hok.below.output, by rw [f1]; exact hok.below.size, fun j hj hn => (freeze_other _ (fun e => by subst e; rcases h2 with h2 | h2; exact hn h2; omega)).trans (hok.below.block j hj hn)⟩, hok.un, fun j hj => ?_, hok.inj, hok.src⟩
  obtain ⟨b1, g1, g2, g3⟩ := hok.box j hj
  refine ⟨b1, g1, g2, ?_⟩
  by_cases e : j = k
  · subst e
    rw [hb] at g1; cases g1
    rw [hk] at g3 ⊢
    obtain ⟨t, ccs, e1, e2, e3⟩ := g3
    exact ⟨t, ccs, by rw [← e2]; exact e1.freeze, e2, e3⟩
  · exact g3.mono (Env.Le.refl E) (freeze_other _ (fun e1 => hok.inj j k b e hj (by rw [hk]; rfl) (e1 ▸ g1) hb))

/-- The environment with a key more. -/
def Env.add (E : Env) (k b z : Nat) : Env := ⟨upd E.bm k (some b), upd E.Z k z, E.src⟩
theorem Env.le_add {E : Env} {k b z : Nat} (h : E.bm k = none) : E.Le (E.add k b z) := ⟨fun j c hj => by
  have : j ≠ k := fun e => by rw [e, h] at hj; cases hj
  exact ⟨by simp only [Env.add, upd_ne _ _ this]; exact hj, by simp only [Env.add, upd_ne _ _ this]⟩, rfl⟩
theorem Env.add_bm (E : Env) (k b z : Nat) : (E.add k b z).bm k = some b := upd_same _ _ _
theorem Env.add_Z (E : Env) (k b z : Nat) : (E.add k b z).Z k = z := upd_same _ _ _

/-- A new block under a new key. -/
theorem OK.new (hok : OK base w0 E B w) (k : Nat) (hk : B k = .un) (o : Obj) (z : Nat) (x : Ent) (hx : x ≠ .un) (h : BoxAt (E.add k w.heap.size z) (w.alloc o) w.heap.size z x) :
    E.Le (E.add k w.heap.size z) ∧ OK base w0 (E.add k w.heap.size z) (upd B k x) (w.alloc o) := by
  have hn := hok.un k hk
  have hle := Env.le_add (b := w.heap.size) (z := z) hn
  have hblk : ∀ j b, (B j).live = true → E.bm j = some b → b < w.heap.size := fun j b hj hb => by
    obtain ⟨b', h1, _, h3⟩ := hok.box j hj
    rw [hb] at h1; cases h1
    exact h3.lt hj
  refine ⟨hle, hok.below.trans (Keep.alloc base w _), fun j hj => ?_, fun j hj => ?_, fun j j' b hne hj hj' hb => ?_, hok.src⟩
  · by_cases e : j = k
    · subst e
      rw [upd_same] at hj
      exact absurd hj hx
    · rw [upd_ne _ _ e] at hj
      simp only [Env.add, upd_ne _ _ e]
      exact hok.un j hj
  · by_cases e : j = k
    · subst e
      rw [upd_same]
      exact ⟨w.heap.size, Env.add_bm .., .inr hok.below.size, by rw [Env.add_Z]; exact h⟩
    · rw [upd_ne _ _ e] at hj ⊢
      obtain ⟨b, h1, h2, h3⟩ := hok.box j hj
      refine ⟨b, by simp only [Env.add, upd_ne _ _ e]; exact h1, h2, ?_⟩
      have : (E.add k w.heap.size z).Z j = E.Z j := by simp only [Env.add, upd_ne _ _ e]
      rw [this]
      exact h3.mono hle (alloc_heap (h3.lt hj))
  · by_cases e : j = k
    · subst e
      rw [Env.add_bm] at hb
      cases hb
      rw [upd_ne _ _ (Ne.symm hne)] at hj'
      simp only [Env.add, upd_ne _ _ (Ne.symm hne)]
      intro h9
      exact Nat.lt_irrefl _ (hblk j' _ hj' h9)
    · rw [upd_ne _ _ e] at hj
      simp only [Env.add, upd_ne _ _ e] at hb
      by_cases e' : j' = k
      · subst e'
        rw [Env.add_bm]
        intro h9
        cases h9
        exact Nat.lt_irrefl _ (hblk j _ hj hb)
      · rw [upd_ne _ _ e'] at hj'
        simp only [Env.add, upd_ne _ _ e']
        exact hok.inj j j' b hne hj hj' hb

/-- A row is written anew, under its own key or (it has grown in place) under a new one. -/
theorem OK.set (hok : OK base w0 E B w) {k b : Nat} {cs : List CV} (hk : B k = .row cs) (hb : E.bm k = some b) (cs' : List CV) (ccs' : Array Value) (hz : ccs'.size = E.Z k) (hl : cs'.length ≤ E.Z k)
    (h : ∀ (i : Nat) c v, cs'[i]? = some c → ccs'[i]? = some v → v.oneCell' = true ∧ RV E c v) : OK base w0 E (upd B k (.row cs')) (w.setRow b ccs') := by
  have hlive : (B k).live = true := by rw [hk]; rfl
  obtain ⟨b', h1, h2, h3⟩ := hok.box k hlive
  rw [hb] at h1; cases h1
  rw [hk] at h3
  obtain ⟨t, ccs, h4, h5, _, _⟩ := h3
  refine ⟨⟨hok.below.os, hok.below.tape, hok.below.output, by simpa using hok.below.size, fun j hj hn => (setRow_other w _ j _ (fun e => by subst e; rcases h2 with h2 | h2; exact hn h2; omega)).trans (hok.below.block j hj hn)⟩, fun j hj => ?_, fun j hj => ?_, fun j j' b1 hne hj hj' hb1 => hok.inj j j' b1 hne ?_ ?_ hb1, hok.src⟩
  · by_cases e : j = k
    · subst e; rw [upd_same] at hj; cases hj
    · rw [upd_ne _ _ e] at hj; exact hok.un j hj
  · by_cases e : j = k
    · subst e
      rw [upd_same]
      exact ⟨b, hb, h2, t, ccs', h4.set (by rw [h5]; exact hz), hz, hl, h⟩
    · rw [upd_ne _ _ e] at hj ⊢
      obtain ⟨b1, h6, h7, h8⟩ := hok.box j hj
      exact ⟨b1, h6, h7, h8.mono (Env.Le.refl E) (setRow_other w _ _ _ (fun e1 => hok.inj j k b e hj hlive (e1 ▸ h6) hb))⟩
  · by_cases e : j = k
    · subst e; exact hlive
    · rwa [upd_ne _ _ e] at hj
  · by_cases e : j' = k
    · subst e; exact hlive
    · rwa [upd_ne _ _ e] at hj'
/-- An object that is no row is written anew. -/
theorem OK.put (hok : OK base w0 E B w) {k b : Nat} {x : Ent} (hk : (B k).live = true) (hb : E.bm k = some b) (o : Obj) (hx : x.live = true)
    (h : ∀ w' : World, w'.heap[b]? = some o → BoxAt E w' b (E.Z k) x) : OK base w0 E (upd B k x) { w with heap := w.heap.setIfInBounds b o } := by
  obtain ⟨b', h1, h2, h3⟩ := hok.box k hk
  rw [hb] at h1; cases h1
  have hlt := h3.lt hk
  have hself : (w.heap.setIfInBounds b o)[b]? = some o := by simp [hlt]
  have hother : ∀ j, j ≠ b → (w.heap.setIfInBounds b o)[j]? = w.heap[j]? := fun j hj => by simp [Ne.symm hj]
  have hun : x ≠ .un := fun e => by rw [e] at hx; cases hx
  refine ⟨⟨hok.below.os, hok.below.tape, hok.below.output, by simpa using hok.below.size, fun j hj hn => (hother j (fun e => by subst e; rcases h2 with h2 | h2; exact hn h2; omega)).trans (hok.below.block j hj hn)⟩, fun j hj => ?_, fun j hj => ?_, fun j j' b1 hne hj hj' hb1 => hok.inj j j' b1 hne ?_ ?_ hb1, hok.src⟩
  · by_cases e : j = k
    · subst e; rw [upd_same] at hj; exact absurd hj hun
    · rw [upd_ne _ _ e] at hj; exact hok.un j hj
  · by_cases e : j = k
    · subst e
      rw [upd_same]
      exact ⟨b, hb, h2, h _ hself⟩
    · rw [upd_ne _ _ e] at hj ⊢
      obtain ⟨b1, h6, h7, h8⟩ := hok.box j hj
      exact ⟨b1, h6, h7, h8.mono (Env.Le.refl E) (hother _ (fun e1 => hok.inj j k b e hj hk (e1 ▸ h6) hb))⟩
  · by_cases e : j = k
    · subst e; exact hk
    · rwa [upd_ne _ _ e] at hj
  · by_cases e : j' = k
    · subst e; exact hk
    · rwa [upd_ne _ _ e] at hj'
/-- A box is lost. -/
theorem OK.lose (hok : OK base w0 E B w) (k : Nat) (hk : B k ≠ .un) : OK base w0 E (upd B k .dead) w := by
  have hl : ∀ j, (upd B k Ent.dead j).live = true → j ≠ k ∧ (B j).live = true := fun j hj => by
    by_cases e : j = k
    · subst e; rw [upd_same] at hj; cases hj
    · rw [upd_ne _ _ e] at hj; exact ⟨e, hj⟩
  refine ⟨hok.below, fun j hj => ?_, fun j hj => ?_, fun j j' b hne hj hj' hb => hok.inj j j' b hne (hl j hj).2 (hl j' hj').2 hb, hok.src⟩
  · by_cases e : j = k
    · subst e; rw [upd_same] at hj; cases hj
    · rw [upd_ne _ _ e] at hj; exact hok.un j hj
  · obtain ⟨e, h⟩ := hl j hj
    rw [upd_ne _ _ e]
    exact hok.box j h
/-- A box goes over to a new key. -/
theorem OK.move (hok : OK base w0 E B w) {k k2 b : Nat} (hlive : (B k).live = true) (hb : E.bm k = some b) (hk2 : B k2 = .un) :
    E.Le (E.add k2 b (E.Z k)) ∧ OK base w0 (E.add k2 b (E.Z k)) (upd (upd B k .dead) k2 (B k)) w := by
  have hn := hok.un k2 hk2
  have hle := Env.le_add (b := b) (z := E.Z k) hn
  have hkk : k ≠ k2 := fun e => by rw [← e, hb] at hn; cases hn
  have hl : ∀ j, j ≠ k2 → (upd (upd B k Ent.dead) k2 (B k) j).live = true → j ≠ k ∧ (B j).live = true := fun j e hj => by
    rw [upd_ne _ _ e] at hj
    by_cases e1 : j = k
    · subst e1; rw [upd_same] at hj; cases hj
    · rw [upd_ne _ _ e1] at hj; exact ⟨e1, hj⟩
  refine ⟨hle, hok.below, fun j hj => ?_, fun j hj => ?_, fun j j' b1 hne hj hj' hb1 => ?_, hok.src⟩
  · by_cases e : j = k2
    · subst e; rw [upd_same] at hj; rw [hj] at hlive; cases hlive
    · rw [upd_ne _ _ e] at hj
      simp only [Env.add, upd_ne _ _ e]
      by_cases e1 : j = k
      · subst e1; rw [upd_same] at hj; cases hj
      · rw [upd_ne _ _ e1] at hj; exact hok.un j hj
  · by_cases e : j = k2
    · subst e
      rw [upd_same, Env.add_Z]
      obtain ⟨b', h1, h2, h3⟩ := hok.box k hlive
      rw [hb] at h1; cases h1
      exact ⟨b, Env.add_bm .., h2, h3.mono hle rfl⟩
    · obtain ⟨e1, h⟩ := hl j e hj
      rw [upd_ne _ _ e, upd_ne _ _ e1]
      obtain ⟨b', h1, h2, h3⟩ := hok.box j h
      have : (E.add k2 b (E.Z k)).Z j = E.Z j := by simp only [Env.add, upd_ne _ _ e]
      rw [this]
      exact ⟨b', by simp only [Env.add, upd_ne _ _ e]; exact h1, h2, h3.mono hle rfl⟩
  · by_cases e : j = k2
    · subst e
      rw [Env.add_bm] at hb1; cases hb1
      obtain ⟨e1, h⟩ := hl j' (Ne.symm hne) hj'
      simp only [Env.add, upd_ne _ _ (Ne.symm hne)]
      exact hok.inj k j' b (Ne.symm e1) hlive h hb
    · obtain ⟨e1, h⟩ := hl j e hj
      simp only [Env.add, upd_ne _ _ e] at hb1
      by_cases e' : j' = k2
      · subst e'
        rw [Env.add_bm]
        intro h9
        cases h9
        exact hok.inj j k b e1 h hlive hb1 hb
      · obtain ⟨e2, h'⟩ := hl j' e' hj'
        simp only [Env.add, upd_ne _ _ e']
        exact hok.inj j j' b1 hne h h' hb1
end

/-- The state of a frame. -/
structure St where
  n : Nat
  s : Nat → CV
  B : Nat → Ent
/-- What was there when the frame was entered. -/
structure Base where
  w : World
  E1 : Env
  B1 : Nat → Ent
structure Rel (base : Nat → Prop) (w0 : Base) (st : St) (a : Act) (w : World) : Prop where
  ex : ∃ E, OK base w0.w E st.B w ∧ w0.E1.Le E ∧ (∀ k, w0.B1 k = .dead → st.B k = .dead ∧ E.bm k = w0.E1.bm k) ∧ ∀ t, RV E (st.s t) (a.tmps.getD t undef)
  size : a.tmps.size = st.n
  defs : a.defers = []

def evalC (st : St) : Operand → CV
  | .tmp t => st.s t
  | .const v => .val v
  | .global _ => .any
  | .func f => .fn f [] []
theorem evalC_ok {E : Env} {st : St} {a : Act} (h : ∀ t, RV E (st.s t) (a.tmps.getD t undef)) (x : Operand) : RV E (evalC st x) (a.eval x) := by
  cases x with
  | tmp t => exact h t
  | const v => exact .val v
  | global g => exact .any _
  | func f => exact .fn f [] [] #[] #[] rfl rfl (by simp) (by simp)

/-- What one operation makes: the value of its slot; what lies under some keys. -/
structure Eff where
  v : CV
  ov : Nat → Option Ent := fun _ => none
def ovr (B : Nat → Ent) (ov : Nat → Option Ent) : Nat → Ent := fun k => (ov k).getD (B k)
def St.app (st : St) (dst : Option Nat) (e : Eff) : St := ⟨st.n, match dst with | some t => upd st.s t e.v | none => st.s, ovr st.B e.ov⟩
def ov1 (k : Nat) (x : Ent) : Nat → Option Ent := fun j => if j = k then some x else none
def ov2 (k : Nat) (x : Ent) (k' : Nat) (x' : Ent) : Nat → Option Ent := fun j => if j = k' then some x' else if j = k then some x else none
theorem ovr_none (B : Nat → Ent) : ovr B (fun _ => none) = B := rfl
theorem ovr_1 (B : Nat → Ent) (k : Nat) (x : Ent) : ovr B (ov1 k x) = upd B k x := by
  funext j; unfold ovr ov1 upd; split <;> rfl
theorem ovr_2 (B : Nat → Ent) (k : Nat) (x : Ent) (k' : Nat) (x' : Ent) : ovr B (ov2 k x k' x') = upd (upd B k x) k' x' := by
  funext j; unfold ovr ov2 upd; split
  · rfl
  · split <;> rfl

def Does (P : Program) (base : Nat → Prop) (w0 : World) (st : St) (o : Oper) (e : Eff) : Prop :=
  ∀ E (a : Act) w, OK base w0 E st.B w → (∀ t, RV E (st.s t) (a.tmps.getD t undef)) → a.tmps.size = st.n → a.defers = [] →
    ∀ K Q, (∀ v w' E', E.Le E' → (∀ k, st.B k = .dead → e.ov k = none → E'.bm k = E.bm k) → OK base w0 E' (st.app o.dst e).B w' → RV E' e.v v → K (a.put o.dst v) w') → o.wp P a w K Q
theorem bm_add1 {p : Nat → Prop} {E : Env} {k b z : Nat} {x : Ent} : ∀ j, p j → ov1 k x j = none → (E.add k b z).bm j = E.bm j := fun j _ hj => by
  by_cases e : j = k
  · simp [ov1, e] at hj
  · simp only [Env.add, upd_ne _ _ e]
theorem bm_add2 {p : Nat → Prop} {E : Env} {k k2 b z : Nat} {x x2 : Ent} : ∀ j, p j → ov2 k x k2 x2 j = none → (E.add k2 b z).bm j = E.bm j := fun j _ hj => by
  by_cases e : j = k2
  · simp [ov2, e] at hj
  · simp only [Env.add, upd_ne _ _ e]

/-- Said of the operation whatever the state but for its operands and what lies under the keys F. -/
def EffF (P : Program) (o : Oper) (st : St) (e : Eff) (F : Nat → Bool) : Prop :=
  ∀ base w0 st', (∀ x ∈ o.op.operands, evalC st' x = evalC st x) → (∀ k, F k = true → st'.B k = st.B k) → Does P base w0 st' o e

theorem slots_put {E E' : Env} {st : St} {a : Act} {dst : Option Nat} {e : Eff} {v : Value} (h : ∀ t, RV E (st.s t) (a.tmps.getD t undef)) (hn : a.tmps.size = st.n)
    (hd : ∀ t, dst = some t → t < st.n) (hle : E.Le E') (hv : RV E' e.v v) : ∀ t, RV E' ((st.app dst e).s t) ((a.put dst v).tmps.getD t undef) := by
  intro t
  cases dst with
  | none => exact (h t).mono hle
  | some d =>
    have hd' := hd d rfl
    simp only [St.app, Act.put]
    by_cases ht : t = d
    · subst ht
      rw [upd_same]
      have : (a.tmps.setIfInBounds t v).getD t undef = v := by simp [Array.getD, hn, hd']
      rw [this]; exact hv
    · rw [upd_ne _ _ ht]
      have : (a.tmps.setIfInBounds d v).getD t undef = a.tmps.getD t undef := by
        simp only [Array.getD_eq_getD_getElem?]
        rw [Array.getElem?_setIfInBounds_ne (by omega)]
      rw [this]
      exact (h t).mono hle

theorem Does.rel {P : Program} {base : Nat → Prop} {w0 : Base} {st : St} {o : Oper} {e : Eff} (hdo : Does P base w0.w st o e) (hg : ∀ k, st.B k = .dead → e.ov k = none) (hd : ∀ t, o.dst = some t → t < st.n) {a : Act} {w : World} (hrel : Rel base w0 st a w)
    {K : Act → World → Prop} {Q : Exit → Act → World → Prop} (hK : ∀ a' w', Rel base w0 (st.app o.dst e) a' w' → K a' w') : o.wp P a w K Q := by
  obtain ⟨E, hok, hle0, hdd, hs⟩ := hrel.ex
  refine hdo E a w hok hs hrel.size hrel.defs K Q (fun v w' E' hle hbm hok' hv => hK _ _ ⟨⟨E', hok', hle0.trans hle, fun k hk => ⟨by show ovr st.B e.ov k = _; unfold ovr; rw [hg k (hdd k hk).1]; exact (hdd k hk).1, (hbm k (hdd k hk).1 (hg k (hdd k hk).1)).trans (hdd k hk).2⟩, slots_put hs hrel.size hd hle hv⟩, ?_, ?_⟩)
  · cases o.dst <;> simp [Act.put, St.app, hrel.size]
  · cases o.dst <;> simp [Act.put, hrel.defs]

/-- An operation that yields a value and turns nothing. -/
theorem does_pure {P : Program} {base : Nat → Prop} {w0 : World} {st : St} {o : Oper} {v : CV} (h : ∀ E (a : Act) w, OK base w0 E st.B w → (∀ t, RV E (st.s t) (a.tmps.getD t undef)) →
    ∃ u, (execOp a.eval o).run P w = .ok (.value u) w ∧ RV E v u) : Does P base w0 st o { v } := by
  intro E a w hok hs hn hd K Q hK
  obtain ⟨u, hu, hr⟩ := h E a w hok hs
  unfold Oper.wp
  rw [hu]
  exact hK u w E (Env.Le.refl _) (fun _ _ _ => rfl) hok hr
end Go.Proofs.YtmnpjaglgalobaaGreatW.C

/-
  A canonical executor: what single operations make: types, moves, numbers, boxes, loads, stores, addresses. Laws over any program; no condition.
-/
namespace Go.Proofs.YtmnpjaglgalobaaGreatW.C
open Go Go.RowKit
open Go.Proofs.YtmnpjaglgalobaaGreatW.E (upd upd_same upd_ne TInfo TOK Tab mkInfo mkInfo_ok splice splice_get splice_len fieldAt_run toV abin aun aconv abuiltin pureRun pureRun_ok isRow)
set_option linter.unusedVariables false
set_option linter.unusedSimpArgs false

/-- A type as the executor needs it. -/
structure CInfo where
  agg : Bool
  sz : Nat
  bytes : Nat
  zero : List Value
  fields : List (Nat × Nat × Bool)
  elem : Option Nat
def mkC (P : Program) (t : TypeId) : Option CInfo :=
  match mkInfo P t, P.info? t with
  | some i, some f => match f.zero with
    | some z => some ⟨i.agg, i.sz, i.bytes, z.cells.toList, i.fields, i.elem⟩
    | none => none
  | _, _ => none
abbrev CTab := List (Nat × CInfo)
def CTab.get (T : CTab) (t : Nat) : Option CInfo := T.lookup t
def CTab.OK (P : Program) (T : CTab) : Prop := ∀ t i, T.get t = some i → mkC P t = some i
theorem CTab.OK.nil (P : Program) : CTab.OK P [] := fun t i h => by simp [CTab.get] at h
theorem CTab.OK.cons {P : Program} {T : CTab} {t : Nat} {i : CInfo} (h : mkC P t = some i) (k : CTab.OK P T) : CTab.OK P ((t, i) :: T) := fun u j hj => by
  simp only [CTab.get, List.lookup_cons] at hj
  split at hj
  · rename_i e
    rw [beq_iff_eq] at e
    subst e
    cases hj
    exact h
  · exact k u j hj
structure COK (P : Program) (t : TypeId) (i : CInfo) : Prop where
  ex : ∃ j : TInfo, TOK P t j ∧ i.agg = j.agg ∧ i.sz = j.sz ∧ i.bytes = j.bytes ∧ i.fields = j.fields ∧ i.elem = j.elem
  zero : ∃ inf z, P.info? t = some inf ∧ inf.zero = some z ∧ i.zero = z.cells.toList ∧ i.zero.length = i.sz ∧ inf.size = i.sz ∧ inf.bytes = i.bytes ∧ ∀ v ∈ i.zero, v.oneCell' = true
theorem mkC_ok {P : Program} {t : TypeId} {i : CInfo} (h : mkC P t = some i) : COK P t i := by
  unfold mkC at h
  split at h
  · rename_i j f hj hf
    split at h
    · rename_i z hz
      cases h
      have hT := mkInfo_ok hj
      obtain ⟨d, inf, z', h1, h2, h3, h4, h5, h6, h7, h8, h9, h10⟩ := hT.ex
      rw [hf] at h2; cases h2
      rw [hz] at h3; cases h3
      exact ⟨⟨j, hT, rfl, rfl, rfl, rfl, rfl⟩, f, z, hf, hz, rfl, by simp [h7, h5], h5.symm, h6.symm, fun v hv => h8 v (by simpa using hv)⟩
    · cases h
  · cases h

def cOf : Value → CV
  | .agg cs => if cs.all (·.oneCell') then .agg (cs.toList.map .val) else .val (.agg cs)
  | v => .val v
theorem cOf_ok (E : Env) (v : Value) : RV E (cOf v) v := by
  unfold cOf
  split
  · rename_i cs
    split
    · rename_i h
      refine .agg _ _ (by simp) (fun v hv => Array.all_eq_true_iff_forall_mem.1 h v hv) (fun i c u hc hu => ?_)
      simp only [List.getElem?_map, Option.map_eq_some_iff, Array.getElem?_toList] at hc
      obtain ⟨x, hx, rfl⟩ := hc
      rw [hu] at hx
      cases hx
      exact .val _
    · exact .val _
  · exact .val _

/-- A value, where all of it is told. -/
def tv0 : CV → Option Value
  | .val v => some v
  | _ => none
def tv0s : List CV → Option (List Value)
  | [] => some []
  | c :: cs => match tv0 c, tv0s cs with
    | some v, some vs => some (v :: vs)
    | _, _ => none
def tv : CV → Option Value
  | .val v => some v
  | .agg vs => match tv0s vs with
    | some us => some (.agg us.toArray)
    | none => none
  | _ => none
theorem tv0s_ok {E : Env} : ∀ (vs : List CV) (us : List Value), tv0s vs = some us → ∀ cs : List Value, vs.length = cs.length → (∀ (i : Nat) c v, vs[i]? = some c → cs[i]? = some v → RV E c v) → cs = us
  | [], us, h, cs, hl, _ => by
    simp [tv0s] at h; subst h
    cases cs <;> simp_all
  | a :: vs, us, h, cs, hl, hr => by
    cases cs with
    | nil => simp at hl
    | cons c cs =>
      unfold tv0s at h
      split at h
      · rename_i u us' hu hus
        cases h
        have hc := hr 0 a c rfl rfl
        have ha : a = .val u := by cases a <;> simp_all [tv0]
        subst ha
        rw [RV.val_iff] at hc
        subst hc
        have := tv0s_ok vs us' hus cs (by simpa using hl) (fun i c v hc hv => hr (i + 1) c v (by simpa using hc) (by simpa using hv))
        rw [this]
      · cases h
theorem tv_ok {E : Env} {a : CV} {u v : Value} (h : tv a = some u) (hr : RV E a v) : v = u := by
  unfold tv at h
  split at h
  · cases h; exact RV.val_iff.1 hr
  · rename_i vs
    split at h
    · rename_i us hus
      cases h
      obtain ⟨cs, rfl, hl, _, hr⟩ := RV.agg_iff.1 hr
      have := tv0s_ok _ us hus cs.toList (by simpa using hl) (fun i c v hc hv => hr i c v hc (by simpa using hv))
      subst this
      rfl
    · cases h
  · cases h

section
variable {P : Program} {base : Nat → Prop} {w0 : World} {st : St} {o : Oper}

theorem does_move {x : Operand} (ho : o.op = .move x ∨ o.op = .assign x) : Does P base w0 st o { v := evalC st x } :=
  does_pure fun E a w hok hs => ⟨a.eval x, by rcases ho with ho | ho <;> simp [execOp, ho], evalC_ok hs x⟩
theorem does_pick {c x y : Operand} (ho : o.op = .pick c x y) {t : Bool} (hc : evalC st c = .val (.bool t)) : Does P base w0 st o { v := if t then evalC st x else evalC st y } :=
  does_pure fun E a w hok hs => by
    have h1 := evalC_ok hs c
    rw [hc, RV.val_iff] at h1
    refine ⟨if t then a.eval x else a.eval y, by simp [execOp, ho, h1, asBool], ?_⟩
    cases t
    · exact evalC_ok hs y
    · exact evalC_ok hs x
theorem does_bin {op : BinOp} {t u : TypeId} {x y : Operand} (ho : o.op = .binOp op t x y u) {a b v : Value} (ha : tv (evalC st x) = some a) (hb : tv (evalC st y) = some b)
    (h : abin P op t x y a b = some v) : Does P base w0 st o { v := .val v } :=
  does_pure fun E ac w hok hs => by
    have h1 := tv_ok ha (evalC_ok hs x)
    have h2 := tv_ok hb (evalC_ok hs y)
    refine ⟨v, ?_, .val _⟩
    have h3 := pureRun_ok _ h w
    simp only [execOp, ho, h1, h2, Sem.run_bind] at h3 ⊢
    rw [h3]; rfl
theorem does_un {op : UnOp} {t : TypeId} {x : Operand} (ho : o.op = .unOp op t x) {a v : Value} (ha : tv (evalC st x) = some a) (h : aun P op a = some v) : Does P base w0 st o { v := .val v } :=
  does_pure fun E ac w hok hs => by
    have h1 := tv_ok ha (evalC_ok hs x)
    refine ⟨v, ?_, .val _⟩
    have h3 := pureRun_ok _ h w
    simp only [execOp, ho, h1, Sem.run_bind, h3]; rfl
theorem does_conv {s d : TypeId} {x : Operand} (ho : o.op = .convert s d x) {a v : Value} (ha : tv (evalC st x) = some a) (h : aconv P s d a = some v) : Does P base w0 st o { v := .val v } :=
  does_pure fun E ac w hok hs => by
    have h1 := tv_ok ha (evalC_ok hs x)
    refine ⟨v, ?_, .val _⟩
    have h3 := pureRun_ok _ h w
    simp only [execOp, ho, h1, Sem.run_bind, h3]; rfl
theorem does_makeFunc {f : FuncId} {first caps : Array Operand} (ho : o.op = .makeFunc (.func f) first caps) : Does P base w0 st o { v := .fn f (first.toList.map (evalC st)) (caps.toList.map (evalC st)) } :=
  does_pure fun E a w hok hs => by
    have key : ∀ (l : Array Operand) (i : Nat) c v, (l.toList.map (evalC st))[i]? = some c → (l.map a.eval)[i]? = some v → RV E c v := fun l i c v hc hv => by
      simp only [List.getElem?_map, Option.map_eq_some_iff, Array.getElem?_toList] at hc
      obtain ⟨x, hx, rfl⟩ := hc
      simp only [Array.getElem?_map, hx, Option.map_some, Option.some.injEq] at hv
      subst hv
      exact evalC_ok hs x
    exact ⟨.func (.func f) (first.map a.eval) (caps.map a.eval), by simp [execOp, ho, Instr.makeFunc], .fn _ _ _ _ _ (by simp) (by simp) (key first) (key caps)⟩
theorem does_extract {t : Operand} {i : Nat} (ho : o.op = .extract t i) {vs : List CV} (ht : evalC st t = .tup vs) {v : CV} (hv : vs[i]? = some v) : Does P base w0 st o { v } :=
  does_pure fun E a w hok hs => by
    have h1 := evalC_ok hs t
    rw [ht] at h1
    cases hcs : a.eval t with
    | tuple cs =>
      rw [hcs] at h1
      cases h1 with
      | tup _ _ hl h2 =>
        have hi : i < cs.size := by rw [← hl]; exact (List.getElem?_eq_some_iff.1 hv).1
        refine ⟨cs[i], ?_, h2 i v _ hv (by simp [hi])⟩
        simp [execOp, ho, hcs, Instr.extract, hi]
    | _ => rw [hcs] at h1; cases h1
/-- nil is no pointer to a box, no slice of one, no map, no function. -/
theorem does_nilCheck {x : Operand} (ho : o.op = .nilCheck x) {c : CV} (hx : evalC st x = c) (hc : match c with | .ptr _ _ => True | .fn _ _ _ => True | _ => False) : Does P base w0 st o { v := c } :=
  does_pure fun E a w hok hs => by
    have h1 := evalC_ok hs x
    rw [hx] at h1
    refine ⟨a.eval x, ?_, h1⟩
    cases c <;> simp at hc
    · cases hv : a.eval x <;> rw [hv] at h1 <;> cases h1
      simp [execOp, ho, hv]
    · cases hv : a.eval x <;> rw [hv] at h1 <;> cases h1
      simp [execOp, ho, hv]

/-- The value of a variable whose cells are told. -/
def rdC (i : CInfo) (cs : List CV) : Option CV :=
  if i.agg then (if i.sz ≤ cs.length then some (.agg (cs.take i.sz)) else none) else (match cs with | c :: _ => some c | [] => none)

/-- A pointer into a row that is there. -/
theorem row_at {E : Env} {w : World} (hok : OK base w0 E st.B w) {k off : Nat} {v : Value} (hv : RV E (.ptr k off) v) {cs : List CV} (hk : st.B k = .row cs) :
    ∃ b, E.bm k = some b ∧ v = .pointer (some ⟨b, off, none⟩) ∧ ∃ t ccs, CellsAt w b ccs t ∧ ccs.size = E.Z k ∧ cs.length ≤ E.Z k ∧ ∀ (i : Nat) c v, cs[i]? = some c → ccs[i]? = some v → v.oneCell' = true ∧ RV E c v := by
  cases hv with
  | ptr _ _ b h =>
    obtain ⟨b', h1, h2, h3⟩ := hok.box k (by rw [hk]; rfl)
    rw [h] at h1; cases h1
    rw [hk] at h3
    exact ⟨b, h, rfl, h3⟩

theorem load_run {E : Env} {w : World} (hok : OK base w0 E st.B w) {t : TypeId} {k off : Nat} {v0 : Value} (h1 : RV E (.ptr k off) v0) {cs : List CV} (hk : st.B k = .row cs) {i : CInfo} (hT : COK P t i) {v : CV}
    (h : rdC i (cs.drop off) = some v) : ∃ b, v0 = .pointer (some ⟨b, off, none⟩) ∧ ∃ u, (loadVar t ⟨b, off, none⟩).run P w = .ok u w ∧ RV E v u := by
  obtain ⟨b, _, h2, tt, ccs, h3, h4, h5, h6⟩ := row_at hok h1 hk
  refine ⟨b, h2, ?_⟩
  obtain ⟨j, hj, ja, jz, _⟩ := hT.ex
  have h7 : ∀ (l : Nat) y, (cs.drop off)[l]? = some y → ∃ u, w.cell? ⟨b, off + l, none⟩ = some u ∧ u.oneCell' = true ∧ RV E y u := fun l y hy => by
    rw [List.getElem?_drop] at hy
    have hlt : off + l < ccs.size := by have := (List.getElem?_eq_some_iff.1 hy).1; omega
    have h8 := h6 (off + l) y ccs[off + l] hy (by simp [hlt])
    exact ⟨ccs[off + l], h3.cell hlt, h8.1, h8.2⟩
  obtain ⟨d, inf, z, hd, hinf, hz, hagg, hsz, _⟩ := hj.ex
  have hia : (isAgg t).run P w = .ok i.agg w := by
    unfold isAgg
    rw [Sem.run_bind, run_underlying hd w]
    rw [ja, hagg]
    cases d <;> rfl
  unfold rdC at h
  split at h
  · rename_i ha
    split at h
    · rename_i hle
      cases h
      let f : Nat → Value := fun l => (w.cell? ⟨b, off + l, none⟩).getD undef
      have hf : ∀ l, l < i.sz → ∃ y, (cs.drop off)[l]? = some y ∧ w.cell? ⟨b, off + l, none⟩ = some (f l) ∧ (f l).oneCell' = true ∧ RV E y (f l) := fun l hl => by
        have hl' : l < (cs.drop off).length := by omega
        obtain ⟨u, g1, g2, g3⟩ := h7 l (cs.drop off)[l] (by simp [hl'])
        refine ⟨(cs.drop off)[l], by simp [hl'], ?_, ?_, ?_⟩ <;> simp only [f, g1, Option.getD_some] <;> assumption
      refine ⟨.agg ((List.range i.sz).map f).toArray, ?_, .agg _ _ (by simp; simp at hle; omega) ?_ ?_⟩
      · have hl := run_loadCells (P := P) w ⟨b, off, none⟩ i.sz f (fun l hl => by rw [Addr.add_mid]; exact (hf l hl).choose_spec.2.1)
        rw [ha] at hia
        have hsz' : inf.size = i.sz := by rw [jz, hsz]
        simp only [loadVar, Sem.run_bind, hia, Result.andThen_ok, if_true, sizeOf, typeInfo, run_program, hinf, Sem.run_pure, hsz', hl]
      · intro x hx
        simp only [List.mem_toArray, List.mem_map, List.mem_range] at hx
        obtain ⟨l, hl, rfl⟩ := hx
        exact (hf l hl).choose_spec.2.2.1
      · intro l c x hc hx
        simp only [List.getElem?_toArray, List.getElem?_map, Option.map_eq_some_iff] at hx
        obtain ⟨l', hl', rfl⟩ := hx
        have hl1 : l < i.sz := by have := (List.getElem?_eq_some_iff.1 hl').1; simpa using this
        rw [List.getElem?_range hl1] at hl'
        cases hl'
        obtain ⟨y, g1, g2, g3, g4⟩ := hf l hl1
        rw [List.getElem?_take_of_lt hl1, g1] at hc
        cases hc
        exact g4
    · cases h
  · rename_i ha
    have ha' : i.agg = false := by simpa using ha
    rw [ha'] at hia
    split at h
    · rename_i c rest hcs
      cases h
      obtain ⟨u, g1, g2, g3⟩ := h7 0 v (by rw [hcs]; rfl)
      refine ⟨u, ?_, g3⟩
      simp only [Nat.add_zero] at g1
      simp [loadVar, Sem.run_bind, hia, g1]
    · cases h

theorem does_load {t : TypeId} {x : Operand} (ho : o.op = .load t x) {k off : Nat} (hx : evalC st x = .ptr k off) {cs : List CV} (hk : st.B k = .row cs) {i : CInfo} (hT : COK P t i) {v : CV}
    (h : rdC i (cs.drop off) = some v) : Does P base w0 st o { v } :=
  does_pure fun E a w hok hs => by
    have h1 := evalC_ok hs x
    rw [hx] at h1
    obtain ⟨b, h2, u, h3, h4⟩ := load_run (P := P) hok h1 hk hT h
    exact ⟨u, by simp only [execOp, ho, h2, Instr.loadAt, Instr.sureAddr, Sem.run_bind, Sem.run_pure, Result.andThen_ok, h3], h4⟩

theorem does_box {t : TypeId} {x : Operand} (ho : o.op = .box t x) {k : Nat} (hk : st.B k = .un) (hc : (evalC st x).cells.all CV.isCell = true) :
    Does P base w0 st o { v := .ptr k 0, ov := ov1 k (.row (evalC st x).cells) } := by
  intro E a w hok hs hn hd K Q hK
  obtain ⟨h1, h2, h3⟩ := (evalC_ok hs x).cells hc
  obtain ⟨hle, hok'⟩ := hok.new k hk (.cells (a.eval x).cells t) (a.eval x).cells.size (.row (evalC st x).cells) (by simp) ⟨t, _, .new w _ _, rfl, by omega, fun i c v hc hv => ⟨h2 v (Array.mem_of_getElem? hv), (h3 i c v hc hv).mono (Env.le_add (hok.un k hk))⟩⟩
  have hrun : (execOp a.eval o).run P w = .ok (.value (.pointer (some ⟨w.heap.size, 0, none⟩))) (w.alloc (.cells (a.eval x).cells t)) := by
    simp only [execOp, ho, Instr.box, newVar, newRow, Sem.run_bind, run_newObj, Result.andThen_ok, Sem.run_pure]; rfl
  unfold Oper.wp
  rw [hrun]
  exact hK _ _ _ hle bm_add1 (by rw [show (st.app o.dst { v := .ptr k 0, ov := ov1 k (.row (evalC st x).cells) }).B = upd st.B k (.row (evalC st x).cells) from ovr_1 _ _ _]; exact hok') (.ptr _ _ _ (Env.add_bm ..))

theorem does_alloc {t : TypeId} (ho : o.op = .alloc t) {k : Nat} (hk : st.B k = .un) {i : CInfo} (hT : COK P t i) :
    Does P base w0 st o { v := .ptr k 0, ov := ov1 k (.row (i.zero.map .val)) } := by
  intro E a w hok hs hn hd K Q hK
  obtain ⟨inf, z, hinf, hz, hz1, hz2, hz3, _, hone⟩ := hT.zero
  obtain ⟨hle, hok'⟩ := hok.new k hk (.cells z.cells t) z.cells.size (.row (i.zero.map .val)) (by simp) ⟨t, _, .new w _ _, rfl, by simp [hz1], fun j c v hc hv => by
    rw [hz1] at hc
    simp only [List.getElem?_map, Array.getElem?_toList, hv, Option.map_some, Option.some.injEq] at hc
    subst hc
    exact ⟨hone v (by rw [hz1]; exact Array.mem_toList_iff.2 (Array.mem_of_getElem? hv)), .val v⟩⟩
  have hrun : (execOp a.eval o).run P w = .ok (.value (.pointer (some ⟨w.heap.size, 0, none⟩))) (w.alloc (.cells z.cells t)) := by
    simp only [execOp, ho, Instr.alloc, zeroValue, typeInfo, newVar, newRow, Sem.run_bind, run_program, hinf, hz, run_newObj, Result.andThen_ok, Sem.run_pure]; rfl
  unfold Oper.wp
  rw [hrun]
  exact hK _ _ _ hle bm_add1 (by rw [show (st.app o.dst { v := .ptr k 0, ov := ov1 k (.row (i.zero.map .val)) }).B = upd st.B k (.row (i.zero.map .val)) from ovr_1 _ _ _]; exact hok') (.ptr _ _ _ (Env.add_bm ..))

theorem does_store {t : TypeId} {x y : Operand} (ho : o.op = .store t x y) {k off : Nat} (hx : evalC st x = .ptr k off) {cs : List CV} (hk : st.B k = .row cs) {i : CInfo} (hT : COK P t i)
    (hc : (evalC st y).cells.all CV.isCell = true) (hsz : (evalC st y).cells.length = i.sz) (hfit : off + (evalC st y).cells.length ≤ cs.length) :
    Does P base w0 st o { v := .val undef, ov := ov1 k (.row (splice cs off (evalC st y).cells)) } := by
  intro E a w hok hs hn hd K Q hK
  have h1 := evalC_ok hs x
  rw [hx] at h1
  obtain ⟨b, hb, hp, bt, old, b3, b4, b5, b6⟩ := row_at hok h1 hk
  obtain ⟨inf, z, hinf, hz, _, _, hz3, _, _⟩ := hT.zero
  obtain ⟨c1, c2, c3⟩ := (evalC_ok hs y).cells hc
  have hlen : off + (a.eval y).cells.toList.length ≤ old.toList.length := by simp; omega
  have hst := run_storeCells_atG P b off bt (a.eval y).cells.toList 0 old w b3 (by simp; omega) (by simpa using c2)
  have hnew : ((old.toList.take (off + 0) ++ (a.eval y).cells.toList ++ old.toList.drop (off + 0 + (a.eval y).cells.toList.length)).toArray) = (splice old.toList off (a.eval y).cells.toList).toArray := by
    simp [splice]
  rw [hnew] at hst
  have hok' := hok.set hk hb (splice cs off (evalC st y).cells) (splice old.toList off (a.eval y).cells.toList).toArray (by rw [List.size_toArray, splice_len _ _ _ hlen]; simp [b4]) (by rw [splice_len _ _ _ hfit]; exact b5) (fun j c v hcj hvj => by
      rw [splice_get _ _ _ hfit] at hcj
      rw [List.getElem?_toArray, splice_get _ _ _ hlen] at hvj
      simp only [Array.length_toList, c1] at hvj
      split at hcj
      · rename_i hin
        rw [if_pos hin, Array.getElem?_toList] at hvj
        exact ⟨c2 v (Array.mem_of_getElem? hvj), c3 _ c v hcj hvj⟩
      · rename_i hin
        rw [if_neg hin, Array.getElem?_toList] at hvj
        exact b6 j c v hcj hvj)
  have hrun : (execOp a.eval o).run P w = .ok .skip (w.setRow b (splice old.toList off (a.eval y).cells.toList).toArray) := by
    simp only [execOp, ho, hp, Instr.storeAt, Instr.sureAddr, storeVar, sizeOf, typeInfo, Sem.run_bind, run_program, hinf, Result.andThen_ok, Sem.run_pure]
    rw [if_neg (by rw [c1, hsz, hz3]; simp)]
    simp only [Sem.run_pure, Sem.run_bind, Result.andThen_ok, hst]
  unfold Oper.wp
  rw [hrun]
  exact hK undef _ _ (Env.Le.refl E) (fun _ _ _ => rfl) (by rw [show (st.app o.dst { v := .val undef, ov := ov1 k (.row (splice cs off (evalC st y).cells)) }).B = upd st.B k (.row (splice cs off (evalC st y).cells)) from ovr_1 _ _ _]; exact hok') (.val _)

theorem does_fieldAddr {s : TypeId} {x : Operand} {f : Nat} (ho : o.op = .fieldAddr s x f) {i : CInfo} (hT : COK P s i) {off sz : Nat} {ag : Bool} (hf : i.fields[f]? = some (off, sz, ag)) (hsz : sz ≠ 0)
    {k o' : Nat} (hx : evalC st x = .ptr k o') : Does P base w0 st o { v := .ptr k (o' + off) } :=
  does_pure fun E a w hok hs => by
    obtain ⟨j, hj, _, _, _, jf, _⟩ := hT.ex
    rw [jf] at hf
    have h1 := evalC_ok hs x
    rw [hx] at h1
    cases hp : a.eval x with
    | pointer A =>
      rw [hp] at h1
      cases h1 with
      | ptr _ _ b h =>
        refine ⟨.pointer (some ⟨b, o' + off, none⟩), ?_, .ptr _ _ b h⟩
        simp only [execOp, ho, hp, Sem.run_bind, fieldAt_run hj hf hsz, Result.andThen_ok, Sem.run_pure]
    | _ => rw [hp] at h1; cases h1

theorem does_field {s : TypeId} {x : Operand} {f : Nat} (ho : o.op = .field s x f) {i : CInfo} (hT : COK P s i) {off sz : Nat} (hf : i.fields[f]? = some (off, sz, false))
    {cs : List CV} (hx : evalC st x = .agg cs) {v : CV} (hv : cs[off]? = some v) : Does P base w0 st o { v } :=
  does_pure fun E a w hok hs => by
    obtain ⟨j, hj, _, _, _, jf, _⟩ := hT.ex
    rw [jf] at hf
    have h1 := evalC_ok hs x
    rw [hx] at h1
    obtain ⟨vs, h2, h3, h4, h5⟩ := RV.agg_iff.1 h1
    obtain ⟨fs, fd, h6, h7, h8⟩ := hj.fields f _ hf
    simp only [Prod.mk.injEq] at h8
    obtain ⟨rfl, h9, h10⟩ := h8
    have hlt : fd.offset < vs.size := by rw [← h3]; exact (List.getElem?_eq_some_iff.1 hv).1
    refine ⟨vs[fd.offset], ?_, h5 _ v _ hv (by simp [hlt])⟩
    cases hu : P.underlying fd.type with
    | none => simp [hu] at h10
    | some d =>
      have : (isAgg fd.type).run P w = .ok false w := by
        unfold isAgg
        rw [Sem.run_bind, run_underlying hu w]
        simp [hu] at h10
        cases d <;> simp_all [isRow]
      simp [execOp, ho, h2, Instr.field, Sem.run_bind, run_underlying h6 w, h7, part, this, asAgg, hlt]

theorem COK.slice {t e : TypeId} {i : CInfo} (hT : COK P t i) (he : i.elem = some e) : P.underlying t = some (.slice e) := by
  obtain ⟨j, hj, _, _, _, _, je⟩ := hT.ex
  exact hj.elem e (by rw [← je]; exact he)
theorem COK.size {t : TypeId} {i : CInfo} (hT : COK P t i) (w : World) : (sizeOf t).run P w = .ok i.sz w := by
  obtain ⟨inf, z, hinf, hz, _, _, hz3, _⟩ := hT.zero
  simp [sizeOf, typeInfo, hinf, hz3]

theorem sl_inv {E : Env} {sz k off n : Nat} {c : Option Nat} {v : Value} (h : RV E (.sl sz k off n c) v) : ∃ b c', v = .slice (some ⟨b, off, none⟩) n c' ∧ E.bm k = some b ∧ n ≤ c' ∧ (∀ x, c = some x → x = c') ∧ off + c' * sz ≤ E.Z k ∧ (c = none → off + c' * sz = E.Z k) := by
  cases h with | sl _ _ _ _ _ b c' h hn hc hz hf => exact ⟨b, c', rfl, h, hn, hc, hz, hf⟩

/-- The address of an element. -/
theorem does_index {t e : TypeId} {x ix : Operand} (ho : o.op = .indexAddr t x ix) {i ei : CInfo} (hT : COK P t i) (he : i.elem = some e) (hE : COK P e ei)
    {k off n : Nat} {c : Option Nat} (hx : evalC st x = .sl ei.sz k off n c) {kd : IntKind} {j : Int} (hix : evalC st ix = .val (.int kd j)) (h0 : 0 ≤ j) (h1 : j < n) :
    Does P base w0 st o { v := .ptr k (off + j.toNat * ei.sz) } :=
  does_pure fun E a w hok hs => by
    have h3 := evalC_ok hs x
    rw [hx] at h3
    have h2 := evalC_ok hs ix
    rw [hix, RV.val_iff] at h2
    obtain ⟨b, c', hv, hb, _⟩ := sl_inv h3
    refine ⟨.pointer (some ⟨b, off + j.toNat * ei.sz, none⟩), ?_, .ptr _ _ b hb⟩
    have hcond : 0 ≤ j ∧ j < (n : Int) := ⟨h0, h1⟩
    simp only [execOp, ho, hv, h2, Instr.indexAt, asIntOf, Sem.run_bind, Sem.run_pure, Result.andThen_ok, run_underlying (hT.slice he) w]
    simp only [Sem.run_ite, hcond, and_self, if_true, Sem.run_bind, hE.size w, Result.andThen_ok, Sem.run_pure]
    simp [Addr.add_mid, hcond, hE.size w]

theorem does_indexA {t e : TypeId} {len : Nat} {x ix : Operand} (ho : o.op = .indexAddr t x ix) {ei : CInfo} (hu : P.underlying t = some (.array len e)) (hE : COK P e ei)
    {k off : Nat} (hx : evalC st x = .ptr k off) {kd : IntKind} {j : Int} (hix : evalC st ix = .val (.int kd j)) (h0 : 0 ≤ j) (h1 : j < len) :
    Does P base w0 st o { v := .ptr k (off + j.toNat * ei.sz) } :=
  does_pure fun E a w hok hs => by
    have h3 := evalC_ok hs x
    rw [hx] at h3
    have h2 := evalC_ok hs ix
    rw [hix, RV.val_iff] at h2
    obtain ⟨b, hv, hb⟩ : ∃ b, a.eval x = .pointer (some ⟨b, off, none⟩) ∧ E.bm k = some b := by
      generalize a.eval x = v at h3
      cases h3 with | ptr _ _ b h => exact ⟨b, rfl, h⟩
    refine ⟨.pointer (some ⟨b, off + j.toNat * ei.sz, none⟩), ?_, .ptr _ _ b hb⟩
    have hcond : 0 ≤ j ∧ j < (len : Int) := ⟨h0, h1⟩
    simp only [execOp, ho, hv, h2, Instr.indexAt, Instr.sureAddr, asIntOf, Sem.run_bind, Sem.run_pure, Result.andThen_ok, run_underlying hu w]
    simp only [Sem.run_ite, hcond, and_self, if_true, Sem.run_bind, hE.size w, Result.andThen_ok, Sem.run_pure]
    simp [Addr.add_mid, hcond, hE.size w]

theorem does_len {c : Call} (ho : o.op = .call c) (hc : c.callee = .builtin .len) {x : Operand} (hx : c.args = #[x]) {t e : TypeId} (ht : c.argTypes = #[t]) {i : CInfo} (hT : COK P t i) (he : i.elem = some e)
    {sz k off n : Nat} {cp : Option Nat} (hv : evalC st x = .sl sz k off n cp) : Does P base w0 st o { v := .val (.int .i64 n) } :=
  does_pure fun E a w hok hs => by
    have hr := evalC_ok hs x
    rw [hv] at hr
    obtain ⟨b, c', hA, _⟩ := sl_inv hr
    refine ⟨.int .i64 n, ?_, .val _⟩
    simp [execOp, ho, resolve, hc, hx, ht, hA, invoke, builtin, Builtin.len_, run_underlying (hT.slice he) w, goInt]
end
end Go.Proofs.YtmnpjaglgalobaaGreatW.C

/-
  A canonical executor: slices. Laws over any program; no condition.
-/
namespace Go.Proofs.YtmnpjaglgalobaaGreatW.C
open Go Go.RowKit
open Go.Proofs.YtmnpjaglgalobaaGreatW.E (upd upd_same upd_ne TInfo TOK Tab mkInfo mkInfo_ok splice splice_get splice_len fieldAt_run toV abin aun aconv abuiltin pureRun pureRun_ok isRow run_append_grows run_append_room' first_any zip_of_range zeros_ok)
set_option linter.unusedVariables false
set_option linter.unusedSimpArgs false

/-- The cells of a slice. -/
def srcC (B : Nat → Ent) (sz : Nat) : CV → Option (Nat × List CV)
  | .sl sz' k off n _ => match B k with
    | .row cs => if sz' = sz ∧ off + n * sz ≤ cs.length then some (n, (cs.drop off).take (n * sz)) else none
    | _ => none
  | .sle => some (0, [])
  | .val (.slice none 0 0) => some (0, [])
  | .res _ 1004 r => if sz = 1 then some (r, (List.range r).map fun i => .res .u8 1000 i) else none
  | _ => none

section
variable {P : Program} {base : Nat → Prop} {w0 : World} {st : St} {o : Oper}

theorem src_ok {E : Env} {w : World} (hok : OK base w0 E st.B w) {sz : Nat} {a : CV} {v : Value} (hr : RV E a v) {n : Nat} {cs : List CV} (h : srcC st.B sz a = some (n, cs)) :
    ∃ (A : Option Addr) (c : Nat) (us : List Value), v = .slice A n c ∧ n ≤ c ∧ us.length = cs.length ∧ cs.length = n * sz ∧ (∀ u ∈ us, u.oneCell' = true) ∧ (∀ (i : Nat) y u, cs[i]? = some y → us[i]? = some u → RV E y u) ∧
      ∀ m, m ≤ n → (Builtin.firstCells sz m v).run P w = .ok (us.take (m * sz)).toArray w := by
  unfold srcC at h
  split at h
  · rename_i sz' k off n' c
    split at h
    · rename_i row hrow
      split at h
      · rename_i hc
        obtain ⟨rfl, hfit⟩ := hc
        cases h
        obtain ⟨b, c', rfl, hb, hn, _, _⟩ := sl_inv hr
        obtain ⟨b', e1, _, e3⟩ := hok.box k (by rw [hrow]; rfl)
        rw [hb] at e1; cases e1
        rw [hrow] at e3
        obtain ⟨t, ccs, e4, e5, e6, e7⟩ := e3
        have hlen : ((row.drop off).take (n * sz')).length = n * sz' := by simp; omega
        have hcell : ∀ i, i < n * sz' → ∃ y u, ((row.drop off).take (n * sz'))[i]? = some y ∧ w.cell? ⟨b, off + i, none⟩ = some u ∧ u.oneCell' = true ∧ RV E y u := fun i hi => by
          have hlt : off + i < ccs.size := by omega
          have hlt2 : off + i < row.length := by omega
          obtain ⟨b6, b7⟩ := e7 (off + i) row[off + i] ccs[off + i] (by simp [hlt2]) (by simp [hlt])
          refine ⟨row[off + i], ccs[off + i], ?_, ?_, b6, b7⟩
          · rw [List.getElem?_take_of_lt hi, List.getElem?_drop]; simp [hlt2]
          · exact e4.cell hlt
        refine ⟨_, c', (List.range (n * sz')).map fun i => (w.cell? ⟨b, off + i, none⟩).getD undef, rfl, hn, by rw [hlen]; simp, hlen, fun u hu => ?_, fun i y u hy hu => ?_, fun m hm => ?_⟩
        · obtain ⟨i, hi, rfl⟩ := List.mem_map.1 hu
          obtain ⟨y, u, _, h5, h6, _⟩ := hcell i (by simpa using hi)
          rw [h5]; exact h6
        · have hi : i < n * sz' := by have := (List.getElem?_eq_some_iff.1 hy).1; omega
          obtain ⟨y', u', h4, h5, _, h7⟩ := hcell i hi
          rw [h4] at hy; cases hy
          rw [List.getElem?_map, List.getElem?_range hi] at hu
          cases hu
          simpa only [h5, Option.getD_some] using h7
        · have hmn : m * sz' ≤ n * sz' := Nat.mul_le_mul_right _ hm
          refine run_firstCells_some (P := P) w sz' m ⟨b, off, none⟩ n c' _ (by simp only [List.length_take, List.length_map, List.length_range]; omega) (fun j v hj => ?_)
          have hi : j < m * sz' := by have := (List.getElem?_eq_some_iff.1 hj).1; simp only [List.length_take] at this; omega
          obtain ⟨_, u', _, h5, _, _⟩ := hcell j (by omega)
          rw [List.getElem?_take_of_lt hi, List.getElem?_map, List.getElem?_range (by omega)] at hj
          cases hj
          rw [Addr.add_mid, h5]
          simp only [h5, Option.getD_some]
      · cases h
    · cases h
  · cases h
    cases hr with
    | sle A c =>
      refine ⟨_, c, [], rfl, Nat.zero_le _, rfl, by simp, by simp, by simp, fun m hm => ?_⟩
      have : m = 0 := by omega
      subst this
      exact run_firstCells_some (P := P) w sz 0 A 0 c _ (by simp) (by simp)
  · cases h
    rw [RV.val_iff] at hr
    subst hr
    refine ⟨none, 0, [], rfl, Nat.le_refl _, rfl, by simp, by simp, by simp, fun m hm => ?_⟩
    have : m = 0 := by omega
    subst this
    simpa using run_firstCells_none (P := P) w sz 0 0 0
  · rename_i k r
    split at h
    · rename_i hs
      subst hs
      cases h
      cases hr with | res _ _ _ _ h2 =>
      obtain ⟨c, rfl, hn, h3⟩ : ∃ c, v = .slice (some ⟨E.src.blk, E.src.off, none⟩) E.src.n c ∧ n = E.src.n ∧ E.src.n ≤ c := h2
      subst hn
      have hcell := fun i hi => hok.src.cell hok.below i hi
      refine ⟨_, c, (List.range E.src.n).map fun i => .int .u8 (E.src.byte i : Int), rfl, h3, by simp, by simp, fun u hu => ?_, fun i y u hy hu => ?_, fun m hm => ?_⟩
      · obtain ⟨i, _, rfl⟩ := List.mem_map.1 hu; rfl
      · have hi : i < E.src.n := by have := (List.getElem?_eq_some_iff.1 hy).1; simpa using this
        rw [List.getElem?_map, List.getElem?_range hi] at hy hu
        cases hy; cases hu
        exact .res _ _ _ _ rfl
      · refine run_firstCells_some (P := P) w 1 m ⟨E.src.blk, E.src.off, none⟩ E.src.n c _ (by simp only [List.length_take, List.length_map, List.length_range]; omega) (fun j v hj => ?_)
        have hi : j < m * 1 := by have := (List.getElem?_eq_some_iff.1 hj).1; simp only [List.length_take] at this; omega
        rw [List.getElem?_take_of_lt hi, List.getElem?_map, List.getElem?_range (by omega)] at hj
        cases hj
        rw [Addr.add_mid]
        exact hcell j (by omega)
    · cases h
  · cases h

/-- Cells stored into a row. -/
theorem OK.spliceRow {E : Env} {B : Nat → Ent} {w : World} (hok : OK base w0 E B w) {k b : Nat} {row : List CV} (hk : B k = .row row) (hb : E.bm k = some b) (p : Nat) (cs : List CV) (us : List Value) (hl : us.length = cs.length) (hp : p ≤ row.length) (hfit : p + cs.length ≤ E.Z k)
    (h1 : ∀ u ∈ us, u.oneCell' = true) (h2 : ∀ (i : Nat) y u, cs[i]? = some y → us[i]? = some u → RV E y u) :
    ∃ w', (storeCells ⟨b, p, none⟩ us).run P w = .ok () w' ∧ OK base w0 E (upd B k (.row (splice row p cs))) w' := by
  obtain ⟨b', e1, _, e3⟩ := hok.box k (by rw [hk]; rfl)
  rw [hb] at e1; cases e1
  rw [hk] at e3
  obtain ⟨bt, old, b3, b4, b5, b6⟩ := e3
  have hst := run_storeCells_atG P b p bt us 0 old w b3 (by omega) h1
  have hnew : ((old.toList.take (p + 0) ++ us ++ old.toList.drop (p + 0 + us.length)).toArray) = (splice old.toList p us).toArray := by simp [splice]
  rw [hnew] at hst
  have hlen : p + us.length ≤ old.toList.length := by simp; omega
  have hsl : (splice row p cs).length ≤ E.Z k := by simp [splice]; omega
  have hok' := hok.set hk hb (splice row p cs) (splice old.toList p us).toArray (by rw [List.size_toArray, splice_len _ _ _ hlen]; simp [b4]) hsl (fun j c v hcj hvj => by
    have hsp : (splice row p cs)[j]? = if p ≤ j ∧ j < p + cs.length then cs[j - p]? else row[j]? := by
      unfold splice
      rw [List.append_assoc]
      by_cases h5 : j < p
      · rw [if_neg (by omega), List.getElem?_append_left (by simp; omega), List.getElem?_take_of_lt h5]
      · rw [List.getElem?_append_right (by simp; omega)]
        have e9 : (List.take p row).length = p := by simp; omega
        rw [e9]
        by_cases h6 : j < p + cs.length
        · rw [if_pos (by omega), List.getElem?_append_left (by omega)]
        · rw [if_neg (by omega), List.getElem?_append_right (by omega), List.getElem?_drop]
          congr 1; omega
    rw [hsp] at hcj
    rw [List.getElem?_toArray, splice_get _ _ _ hlen] at hvj
    split at hcj
    · rename_i hin
      rw [if_pos (by omega)] at hvj
      exact ⟨h1 v (List.mem_of_getElem? hvj), h2 _ c v hcj hvj⟩
    · rename_i hin
      rw [if_neg (by omega), Array.getElem?_toList] at hvj
      exact b6 j c v hcj hvj)
  exact ⟨_, hst, hok'⟩

/-- A new row under a new key. -/
theorem OK.newRow {E : Env} {B : Nat → Ent} {w : World} (hok : OK base w0 E B w) {k : Nat} (hk : B k = .un) (t : TypeId) (cs : List CV) (ccs : Array Value) (hl : cs.length ≤ ccs.size) (h : ∀ (i : Nat) c v, cs[i]? = some c → ccs[i]? = some v → v.oneCell' = true ∧ RV E c v) :
    E.Le (E.add k w.heap.size ccs.size) ∧ OK base w0 (E.add k w.heap.size ccs.size) (upd B k (.row cs)) (w.alloc (.cells ccs t)) :=
  hok.new k hk _ _ (.row cs) (by simp) ⟨t, ccs, CellsAt.new w _ _, rfl, hl, fun i c v hc hv => ⟨(h i c v hc hv).1, (h i c v hc hv).2.mono (Env.le_add (hok.un k hk))⟩⟩

/-- A new slice of parts. -/
def flatC (vs : List CV) : List CV := vs.flatMap CV.cells
theorem flatC_len {sz : Nat} : ∀ (vs : List CV), (∀ v ∈ vs, v.cells.length = sz) → (flatC vs).length = vs.length * sz
  | [], _ => by simp [flatC]
  | v :: vs, h => by
    have ih := flatC_len vs (fun u hu => h u (List.mem_cons_of_mem _ hu))
    have hv := h v List.mem_cons_self
    simp only [flatC, List.flatMap_cons, List.length_append, List.length_cons] at ih ⊢
    rw [ih, hv, Nat.succ_mul]; omega

def afill (place : Nat → Option (Nat × Nat)) (cells : List CV) : List (Nat × CV) → Option (List CV)
  | [] => some cells
  | (i, a) :: rest => match place i with
    | none => none
    | some (off, size) => if a.cells.length = size ∧ off + size ≤ cells.length ∧ a.cells.all CV.isCell = true then afill place (splice cells off a.cells) rest else none

theorem fill_ok {E : Env} {place place' : Nat → Option (Nat × Nat)} (hp : ∀ i x, place i = some x → place' i = some x) {a : Act} : ∀ (parts : List (Nat × Operand)) (cells : List CV) (cs : Array Value) (out : List CV), (∀ t, RV E (st.s t) (a.tmps.getD t undef)) →
    afill place cells (parts.map fun p => (p.1, evalC st p.2)) = some out → cells.length = cs.size → (∀ (i : Nat) c v, cells[i]? = some c → cs[i]? = some v → v.oneCell' = true ∧ RV E c v) →
    ∃ os, Instr.fill place' cs (parts.map fun p => (p.1, a.eval p.2)) = some os ∧ out.length = os.size ∧ ∀ (i : Nat) c v, out[i]? = some c → os[i]? = some v → v.oneCell' = true ∧ RV E c v
  | [], cells, cs, out, hs, h, hl, hr => by
    simp only [List.map_nil, afill, Option.some.injEq] at h
    subst h
    exact ⟨cs, rfl, hl, hr⟩
  | (i, x) :: parts, cells, cs, out, hs, h, hl, hr => by
    simp only [List.map_cons, afill] at h
    split at h
    · cases h
    · rename_i off size hpl
      split at h
      · rename_i hcond
        obtain ⟨h1, h2, h3⟩ := hcond
        obtain ⟨c1, c2, c3⟩ := (evalC_ok hs x).cells h3
        have hsp := Go.Proofs.YtmnpjaglgalobaaGreatW.E.spl_list (a.eval x).cells.toList 0 off cs (by simp; omega)
        have hfit1 : off + (evalC st x).cells.length ≤ cells.length := by omega
        have hfit2 : off + (a.eval x).cells.toList.length ≤ cs.toList.length := by simp; omega
        obtain ⟨os, h4, h5, h6⟩ := fill_ok hp parts (splice cells off (evalC st x).cells) (splice cs.toList off (a.eval x).cells.toList).toArray out hs h
          (by rw [splice_len _ _ _ hfit1, List.size_toArray, splice_len _ _ _ hfit2]; simp [hl]) (fun j c v hcj hvj => by
            rw [splice_get _ _ _ hfit1] at hcj
            rw [List.getElem?_toArray, splice_get _ _ _ hfit2] at hvj
            simp only [Array.length_toList, c1] at hvj
            split at hcj
            · rename_i hin
              rw [if_pos hin, Array.getElem?_toList] at hvj
              exact ⟨c2 v (Array.mem_of_getElem? hvj), c3 _ c v hcj hvj⟩
            · rename_i hin
              rw [if_neg hin, Array.getElem?_toList] at hvj
              exact hr j c v hcj hvj)
        refine ⟨os, ?_, h5, h6⟩
        simp only [List.map_cons, Instr.fill, hp i _ hpl]
        rw [if_neg (by simp only [Bool.or_eq_true, decide_eq_true_eq, ne_eq, not_or, gt_iff_lt, Nat.not_lt]; exact ⟨by rw [c1, h1]; simp, by omega⟩)]
        rw [← Array.foldl_toList, Array.toList_zipIdx]
        simp only [Nat.add_zero] at hsp
        have : (List.foldl (fun cs (x : Value × Nat) => match x with | (c, j) => cs.setIfInBounds (off + j) c) cs ((a.eval x).cells.toList.zipIdx 0)) = (splice cs.toList off (a.eval x).cells.toList).toArray := by
          apply Array.ext'
          rw [List.toList_toArray, ← hsp]
        rw [this]
        exact h4
      · cases h

theorem afill_row {sz : Nat} : ∀ (xs : List CV) (k : Nat) (pre post : List CV), pre.length = k * sz → post.length = xs.length * sz → (∀ x ∈ xs, x.cells.length = sz ∧ x.cells.all CV.isCell = true) →
    afill (fun i => some (i * sz, sz)) (pre ++ post) ((xs.zipIdx k).map fun p => (p.2, p.1)) = some (pre ++ flatC xs)
  | [], k, pre, post, h1, h2, h3 => by
    have : post = [] := List.eq_nil_of_length_eq_zero (by simpa using h2)
    simp [afill, flatC, this]
  | x :: xs, k, pre, post, h1, h2, h3 => by
    obtain ⟨h4, h5⟩ := h3 x List.mem_cons_self
    simp only [List.zipIdx_cons, List.map_cons, afill]
    rw [List.length_cons, Nat.succ_mul] at h2
    rw [if_pos ⟨h4, by simp; omega, h5⟩]
    have e1 : splice (pre ++ post) (k * sz) x.cells = (pre ++ x.cells) ++ post.drop sz := by
      unfold splice
      rw [List.take_append, List.drop_append, h1, h4]
      have e2 : List.drop (k * sz + sz) pre = [] := List.drop_eq_nil_of_le (by omega)
      have e3 : List.take (k * sz) pre = pre := List.take_of_length_le (by omega)
      rw [e2, e3]
      simp
    rw [e1, afill_row xs (k + 1) (pre ++ x.cells) (post.drop sz) (by simp [h1, h4, Nat.succ_mul]) (by simp; omega) (fun y hy => h3 y (List.mem_cons_of_mem _ hy))]
    simp [flatC]

theorem does_buildSlice {t e : TypeId} {n : Nat} {parts : Array (Nat × Operand)} (ho : o.op = .buildSlice t n parts) {i ei : CInfo} (hT : COK P t i) (he : i.elem = some e) (hE : COK P e ei)
    (hidx : parts.toList.map (·.1) = List.range' 0 n) (hc : ∀ p ∈ parts.toList, (evalC st p.2).cells.length = ei.sz ∧ (evalC st p.2).cells.all CV.isCell = true) (hn : n * ei.sz ≤ 16777216) {key : Nat} (hk : st.B key = .un) :
    Does P base w0 st o { v := .sl ei.sz key 0 n (some n), ov := ov1 key (.row (flatC (parts.toList.map fun p => evalC st p.2))) } := by
  intro E a w hok hs hsz0 hd K Q hK
  obtain ⟨inf, z, hinf, hz, hz1, hz2, hz3, _, hone⟩ := hE.zero
  have hzsz : z.cells.size = ei.sz := by rw [← hz2, hz1]; simp
  have hlen : parts.toList.length = n := by have := congrArg List.length hidx; simpa using this
  let zs : Array Value := if n * ei.sz = 0 then #[] else z.cells
  let cs0 : Array Value := (Array.range (n * ei.sz)).map (zs[· % zs.size]!)
  have hfill := afill_row (sz := ei.sz) (parts.toList.map fun p => evalC st p.2) 0 [] (List.replicate (n * ei.sz) CV.any) (by simp) (by simp [hlen]) (fun x hx => by
    obtain ⟨p, hp, rfl⟩ := List.mem_map.1 hx
    exact hc p hp)
  have hparts : (parts.toList.map fun p => (p.1, evalC st p.2)) = (((parts.toList.map fun p => evalC st p.2).zipIdx 0).map fun p => (p.2, p.1)) := by
    have h1 := zip_of_range (parts.toList.map fun p => (p.1, evalC st p.2)) 0 (by simp only [List.map_map, List.length_map, hlen]; exact hidx)
    simpa only [List.map_map, Function.comp_def] using h1
  simp only [List.nil_append] at hfill
  obtain ⟨os, h4, h5, h6⟩ := fill_ok (E := E) (place := fun i => some (i * ei.sz, ei.sz)) (place' := fun i => some (i * ei.sz, ei.sz)) (fun _ _ h => h) (a := a) parts.toList (List.replicate (n * ei.sz) CV.any) cs0
    (flatC (parts.toList.map fun p => evalC st p.2)) hs (by rw [hparts]; exact hfill) (by simp [cs0]) (fun j c v hcj hvj => by
      have hj : j < n * ei.sz := by have := (List.getElem?_eq_some_iff.1 hcj).1; simpa using this
      rw [List.getElem?_replicate, if_pos hj] at hcj
      cases hcj
      refine ⟨?_, .any v⟩
      have hne : n * ei.sz ≠ 0 := by omega
      have hzpos : 0 < z.cells.size := by rw [hzsz]; exact Nat.pos_of_ne_zero (fun e => hne (by rw [e, Nat.mul_zero]))
      simp only [cs0, zs, if_neg hne, Array.getElem?_map, Option.map_eq_some_iff] at hvj
      obtain ⟨q, hq, rfl⟩ := hvj
      have hlt : q % z.cells.size < z.cells.size := Nat.mod_lt _ hzpos
      rw [getElem!_pos z.cells _ hlt]
      exact hone _ (by rw [hz1]; exact Array.mem_toList_iff.2 (Array.getElem_mem hlt)))
  have hfl : (flatC (parts.toList.map fun p => evalC st p.2)).length = n * ei.sz := by
    rw [flatC_len _ (fun x hx => by obtain ⟨p, hp, rfl⟩ := List.mem_map.1 hx; exact (hc p hp).1)]; simp [hlen]
  have hrun : (execOp a.eval o).run P w = .ok (.value (.slice (some ⟨w.heap.size, 0, none⟩) n n)) (w.alloc (.cells os e)) := by
    have h4' : Instr.fill (fun i => some (i * ei.sz, ei.sz)) ((Array.range (n * ei.sz)).map (zs[· % zs.size]!)) (parts.map fun (i, x) => (i, a.eval x)).toList = some os := by
      have e2 : (parts.map fun (i, x) => (i, a.eval x)).toList = parts.toList.map fun p => (p.1, a.eval p.2) := by simp
      rw [e2]; exact h4
    simp only [execOp, ho, Instr.buildSlice, Sem.run_bind, run_underlying (hT.slice he) w, Result.andThen_ok, hE.size w]
    rw [if_neg (by omega)]
    by_cases h0 : n * ei.sz = 0
    · have e3 : zs = #[] := if_pos h0
      rw [e3] at h4'
      rw [if_pos h0]
      simp only [Sem.run_bind, Sem.run_pure, Result.andThen_ok, h4', newRow, run_newObj]
      rfl
    · have e3 : zs = z.cells := if_neg h0
      rw [e3] at h4'
      rw [if_neg h0]
      simp only [Sem.run_bind, Sem.run_pure, Result.andThen_ok, zeroValue, typeInfo, run_program, hinf, hz, h4', newRow, run_newObj]
      rfl
  obtain ⟨hle, hok'⟩ := hok.newRow hk e (flatC (parts.toList.map fun p => evalC st p.2)) os (by omega) (fun j c v hcj hvj => h6 j c v hcj hvj)
  unfold Oper.wp
  rw [hrun]
  exact hK _ _ _ hle bm_add1 (by rw [show (st.app o.dst { v := .sl ei.sz key 0 n (some n), ov := ov1 key (.row (flatC (parts.toList.map fun p => evalC st p.2))) }).B = upd st.B key (.row (flatC (parts.toList.map fun p => evalC st p.2))) from ovr_1 _ _ _]; exact hok')
    (.sl _ _ _ _ _ _ n (Env.add_bm ..) (Nat.le_refl _) (fun x hx => by cases hx; rfl) (by rw [Env.add_Z]; omega) (fun h => by cases h))
end
end Go.Proofs.YtmnpjaglgalobaaGreatW.C

/-
  A canonical executor: append, copy, parts of slices, new slices. Laws over any program; no condition.
-/
namespace Go.Proofs.YtmnpjaglgalobaaGreatW.C
open Go Go.RowKit
open Go.Proofs.YtmnpjaglgalobaaGreatW.E (upd upd_same upd_ne upd_comm splice splice_get splice_len run_append_grows run_append_room')
set_option linter.unusedVariables false
set_option linter.unusedSimpArgs false

/-- A slice's length and what is known of its room. -/
def isSl : CV → Bool
  | .sl .. => true
  | .sle => true
  | .val (.slice none 0 0) => true
  | _ => false
theorem isSl_ok {E : Env} {a : CV} {v : Value} (h : isSl a = true) (hr : RV E a v) : ∃ A n c, v = .slice A n c ∧ n ≤ c := by
  unfold isSl at h
  split at h
  · obtain ⟨b, c', rfl, _, hn, _⟩ := sl_inv hr
    exact ⟨_, _, _, rfl, hn⟩
  · cases hr with | sle A c => exact ⟨_, _, _, rfl, Nat.zero_le _⟩
  · rw [RV.val_iff] at hr; exact ⟨_, _, _, hr, Nat.le_refl _⟩
  · cases h
def capC : CV → Option Nat
  | .sl _ _ _ _ c => c
  | .val (.slice none 0 0) => some 0
  | _ => none
theorem capC_ok {E : Env} {a : CV} {A : Option Addr} {n c c0 : Nat} (h : capC a = some c0) (hr : RV E a (.slice A n c)) : c = c0 := by
  unfold capC at h
  split at h
  · obtain ⟨b, c', e, _, _, hx, _⟩ := sl_inv hr
    cases e
    exact (hx _ h).symm
  · cases h
    rw [RV.val_iff] at hr
    cases hr; rfl
  · cases h
theorem upd_upd {α : Type} (f : Nat → α) (k : Nat) (a b : α) : upd (upd f k a) k b = upd f k b := by
  funext j; unfold upd; split <;> rfl

section
variable {P : Program} {base : Nat → Prop} {w0 : World} {st : St} {o : Oper}

theorem app_run {c : Call} (ho : o.op = .call c) (hc : c.callee = .builtin .append) {x y : Operand} (hargs : c.args = #[x, y]) {t : TypeId} (htys : c.argTypes = #[t, t]) {a : Act} {w w' : World} {v : Value}
    (h : (Builtin.append_ #[t, t] o.type #[a.eval x, a.eval y]).run P w = .ok v w') : (execOp a.eval o).run P w = .ok (.value v) w' := by
  simp only [execOp, ho, resolve, hc, hargs, htys, invoke, builtin, Sem.run_bind, Sem.run_pure, Result.andThen_ok]
  have ea : (#[x, y].map a.eval) = #[a.eval x, a.eval y] := by simp
  rw [ea, h]; rfl

/-- Nothing to append. -/
theorem does_append0 {c : Call} (ho : o.op = .call c) (hc : c.callee = .builtin .append) {x y : Operand} (hargs : c.args = #[x, y]) {t e : TypeId} (htys : c.argTypes = #[t, t]) {i ei : CInfo} (hT : COK P t i) (he : i.elem = some e) (hE : COK P e ei)
    (hx : isSl (evalC st x) = true) {news : List CV} (hy : srcC st.B ei.sz (evalC st y) = some (0, news)) : Does P base w0 st o { v := evalC st x } :=
  does_pure fun E a w hok hs => by
    obtain ⟨inf, z, hinf, hz, _, _, hz3, _, _⟩ := hE.zero
    have hrx := evalC_ok hs x
    obtain ⟨A, n, cc, hA, hn⟩ := isSl_ok hx hrx
    obtain ⟨X, cy, us, hX, _, _, _, _, _, f⟩ := src_ok (P := P) hok (evalC_ok hs y) hy
    refine ⟨a.eval x, app_run ho hc hargs htys ?_, hrx⟩
    have h1 := f 0 (Nat.le_refl _)
    rw [hX] at h1
    rw [hA, hX]
    exact run_append_room' (P := P) (news := []) (w' := w) (hT.slice he) hinf (by rw [hz3]; simpa using h1) (by omega) (fun a _ => rfl) (fun _ => rfl)

/-- No room: a new row. -/
theorem grow_core {E : Env} {a : Act} {w : World} (hok : OK base w0 E st.B w) (hs : ∀ t, RV E (st.s t) (a.tmps.getD t undef)) {x y : Operand} {t e : TypeId} {ei : CInfo} (hu : P.underlying t = some (.slice e)) (hE : COK P e ei)
    {n m : Nat} {olds news : List CV} (hx : srcC st.B ei.sz (evalC st x) = some (n, olds)) (hy : srcC st.B ei.sz (evalC st y) = some (m, news)) {A : Option Addr} {cc : Nat} (hA : a.eval x = .slice A n cc) (hg : cc < n + m) (hfit : (n + m) * ei.bytes ≤ 140737488355328) (hby : 0 < ei.bytes)
    {k : Nat} (hk : st.B k = .un) : ∃ v w' E', (∀ ty, (Builtin.append_ #[t, t] ty #[a.eval x, a.eval y]).run P w = .ok v w') ∧ E.Le E' ∧ OK base w0 E' (upd st.B k (.row (olds ++ news))) w' ∧ RV E' (.sl ei.sz k 0 (n + m) none) v ∧ ∀ j, j ≠ k → E'.bm j = E.bm j := by
  obtain ⟨inf, z, hinf, hz, hz1, hz2, hz3, hz4, hone⟩ := hE.zero
  have hzsz : z.cells.size = ei.sz := by rw [← hz2, hz1]; simp
  have hokD := hok.drawn 1
  have hdr : w.drewN 1 = w.drew := rfl
  rw [hdr] at hokD
  obtain ⟨A', c', ou, hA', _, ol, ocl, o1, r1, f1⟩ := src_ok (P := P) hokD (evalC_ok hs x) hx
  rw [hA] at hA'; cases hA'
  obtain ⟨X, cy, nu, hX, _, nl, ncl, o2, r2, f2⟩ := src_ok (P := P) hokD (evalC_ok hs y) hy
  have hmax : n + m ≤ 140737488355328 := Nat.le_trans (Nat.le_mul_of_pos_right _ hby) hfit
  have g1 := f1 n (Nat.le_refl _)
  rw [List.take_of_length_le (by omega), hA] at g1
  have g2 := f2 m (Nat.le_refl _)
  rw [List.take_of_length_le (by omega), hX] at g2
  have hcap := grownCap_ge w (n + m) cc e
  let ccs := ou.toArray ++ nu.toArray ++ Builtin.zeroCells z.cells (grownCap w (n + m) cc e - (n + m))
  have hsize : ccs.size = grownCap w (n + m) cc e * ei.sz := by
    simp only [ccs, Array.size_append, List.size_toArray, size_zeroCells, ol, nl, ocl, ncl, hzsz]
    rw [← Nat.add_mul, ← Nat.add_mul]
    congr 1; omega
  obtain ⟨hle, hok1⟩ := hokD.newRow hk e (olds ++ news) ccs (by rw [hsize, List.length_append, ocl, ncl, ← Nat.add_mul]; exact Nat.mul_le_mul_right _ hcap) (fun i y u hy hu => by
    have hccs : ccs = (ou ++ (nu ++ (Builtin.zeroCells z.cells (grownCap w (n + m) cc e - (n + m))).toList)).toArray := by apply Array.ext'; simp [ccs]
    rw [hccs, List.getElem?_toArray] at hu
    by_cases hi : i < olds.length
    · rw [List.getElem?_append_left hi] at hy
      rw [List.getElem?_append_left (by omega)] at hu
      exact ⟨o1 u (List.mem_of_getElem? hu), r1 i y u hy hu⟩
    · rw [List.getElem?_append_right (by omega)] at hy
      have hi2 : i - olds.length < news.length := (List.getElem?_eq_some_iff.1 hy).1
      rw [List.getElem?_append_right (by omega), ol, List.getElem?_append_left (by omega)] at hu
      exact ⟨o2 u (List.mem_of_getElem? hu), r2 _ y u hy hu⟩)
  refine ⟨_, _, _, fun ty => ?_, hle, hok1, .sl _ _ _ _ _ _ (grownCap w (n + m) cc e) (Env.add_bm ..) hcap (fun x hx => by cases hx) (by rw [Env.add_Z, hsize]; omega) (fun _ => by rw [Env.add_Z, hsize]; omega), fun j hj => by simp only [Env.add, upd_ne _ _ hj]⟩
  rw [hA, hX]
  exact run_append_grows (P := P) hu hinf hz (by rw [hz3]; exact g1) (by rw [hz3]; exact g2) hg (by omega) (growslice_fits hg (by rw [hz4]; exact hfit))

theorem does_appendG {c : Call} (ho : o.op = .call c) (hc : c.callee = .builtin .append) {x y : Operand} (hargs : c.args = #[x, y]) {t e : TypeId} (htys : c.argTypes = #[t, t]) {i ei : CInfo} (hT : COK P t i) (he : i.elem = some e) (hE : COK P e ei)
    {n m : Nat} {olds news : List CV} (hx : srcC st.B ei.sz (evalC st x) = some (n, olds)) (hy : srcC st.B ei.sz (evalC st y) = some (m, news)) {c0 : Nat} (hcap : capC (evalC st x) = some c0) (hg : c0 < n + m) (hfit : (n + m) * ei.bytes ≤ 140737488355328) (hby : 0 < ei.bytes)
    {k : Nat} (hk : st.B k = .un) : Does P base w0 st o { v := .sl ei.sz k 0 (n + m) none, ov := ov1 k (.row (olds ++ news)) } := by
  intro E a w hok hs hsz0 hd K Q hK
  obtain ⟨A, c', ou, hA, _⟩ := src_ok (P := P) hok (evalC_ok hs x) hx
  have hrx := evalC_ok hs x
  rw [hA] at hrx
  have hcc := capC_ok hcap hrx
  subst hcc
  obtain ⟨v, w', E', h1, h2, h3, h4, h6⟩ := grow_core (P := P) hok hs (hT.slice he) hE hx hy hA hg hfit hby hk
  unfold Oper.wp
  rw [app_run ho hc hargs htys (h1 o.type)]
  exact hK _ _ _ h2 (fun j _ hj => h6 j (fun e => by simp [ov1, e] at hj)) (by rw [show (st.app o.dst { v := .sl ei.sz k 0 (n + m) none, ov := ov1 k (.row (olds ++ news)) }).B = upd st.B k (.row (olds ++ news)) from ovr_1 _ _ _]; exact h3) h4

/-- Room enough. -/
theorem does_appendR {c : Call} (ho : o.op = .call c) (hc : c.callee = .builtin .append) {x y : Operand} (hargs : c.args = #[x, y]) {t e : TypeId} (htys : c.argTypes = #[t, t]) {i ei : CInfo} (hT : COK P t i) (he : i.elem = some e) (hE : COK P e ei)
    {k off n c0 : Nat} (hx : evalC st x = .sl ei.sz k off n (some c0)) {row : List CV} (hk : st.B k = .row row) (hfit : off + n * ei.sz ≤ row.length) {m : Nat} {news : List CV} (hy : srcC st.B ei.sz (evalC st y) = some (m, news)) (hroom : n + m ≤ c0) :
    Does P base w0 st o { v := .sl ei.sz k off (n + m) (some c0), ov := ov1 k (.row (splice row (off + n * ei.sz) news)) } := by
  intro E a w hok hs hsz0 hd K Q hK
  obtain ⟨inf, z, hinf, hz, _, _, hz3, _, _⟩ := hE.zero
  have hrx := evalC_ok hs x
  rw [hx] at hrx
  obtain ⟨b, c', hA, hb, hn, hcc, hzz, hff⟩ := sl_inv hrx
  have := hcc c0 rfl
  subst this
  obtain ⟨X, cy, nu, hX, _, nl, ncl, o2, r2, f2⟩ := src_ok (P := P) hok (evalC_ok hs y) hy
  have g2 := f2 m (Nat.le_refl _)
  rw [List.take_of_length_le (by omega), hX] at g2
  have hmul : n * ei.sz + m * ei.sz ≤ c0 * ei.sz := by rw [← Nat.add_mul]; exact Nat.mul_le_mul_right _ hroom
  obtain ⟨w', hst, hok'⟩ := hok.spliceRow (P := P) hk hb (off + n * ei.sz) news nu nl hfit (by omega) o2 r2
  unfold Oper.wp
  rw [app_run ho hc hargs htys (v := .slice (some ⟨b, off, none⟩) (n + m) c0) (w' := w') (by
    rw [hA, hX]
    exact run_append_room' (P := P) (hT.slice he) hinf (by rw [hz3]; exact g2) hroom (fun a ha => by cases ha; rw [hz3, Addr.add_mid]; exact hst) (fun h => by cases h))]
  exact hK _ _ _ (Env.Le.refl E) (fun _ _ _ => rfl) (by rw [show (st.app o.dst { v := .sl ei.sz k off (n + m) (some c0), ov := ov1 k (.row (splice row (off + n * ei.sz) news)) }).B = upd st.B k (.row (splice row (off + n * ei.sz) news)) from ovr_1 _ _ _]; exact hok')
    (.sl _ _ _ _ _ _ c0 hb hroom (fun x hx => by cases hx; rfl) hzz (fun h => by cases h))

/-- Room enough, for the row is long enough. -/
theorem does_appendL {c : Call} (ho : o.op = .call c) (hc : c.callee = .builtin .append) {x y : Operand} (hargs : c.args = #[x, y]) {t e : TypeId} (htys : c.argTypes = #[t, t]) {i ei : CInfo} (hT : COK P t i) (he : i.elem = some e) (hE : COK P e ei) (hpos : 0 < ei.sz)
    {k off n : Nat} (hx : evalC st x = .sl ei.sz k off n none) {row : List CV} (hk : st.B k = .row row) {m : Nat} {news : List CV} (hy : srcC st.B ei.sz (evalC st y) = some (m, news)) (hroom0 : off + (n + m) * ei.sz ≤ row.length) :
    Does P base w0 st o { v := .sl ei.sz k off (n + m) none, ov := ov1 k (.row (splice row (off + n * ei.sz) news)) } := by
  intro E a w hok hs hsz0 hd K Q hK
  obtain ⟨inf, z, hinf, hz, _, _, hz3, _, _⟩ := hE.zero
  have hrx := evalC_ok hs x
  rw [hx] at hrx
  obtain ⟨b, c', hA, hb, hn, hcc, hzz, hff⟩ := sl_inv hrx
  obtain ⟨b', e1, e2, e3⟩ := hok.box k (by rw [hk]; rfl)
  rw [hb] at e1; cases e1
  rw [hk] at e3
  obtain ⟨tt, ccs, _, e5, e6, _⟩ := e3
  have hroom : n + m ≤ c' := by
    have h1 := hff rfl
    have h2 : (n + m) * ei.sz ≤ c' * ei.sz := by omega
    exact Nat.le_of_mul_le_mul_right h2 hpos
  obtain ⟨X, cy, nu, hX, _, nl, ncl, o2, r2, f2⟩ := src_ok (P := P) hok (evalC_ok hs y) hy
  have g2 := f2 m (Nat.le_refl _)
  rw [List.take_of_length_le (by omega), hX] at g2
  have hadd : (n + m) * ei.sz = n * ei.sz + m * ei.sz := Nat.add_mul _ _ _
  obtain ⟨w', hst, hok'⟩ := hok.spliceRow (P := P) hk hb (off + n * ei.sz) news nu nl (by omega) (by omega) o2 r2
  unfold Oper.wp
  rw [app_run ho hc hargs htys (v := .slice (some ⟨b, off, none⟩) (n + m) c') (w' := w') (by
    rw [hA, hX]
    exact run_append_room' (P := P) (hT.slice he) hinf (by rw [hz3]; exact g2) hroom (fun a ha => by cases ha; rw [hz3, Addr.add_mid]; exact hst) (fun h => by cases h))]
  exact hK _ _ _ (Env.Le.refl E) (fun _ _ _ => rfl) (by rw [show (st.app o.dst { v := .sl ei.sz k off (n + m) none, ov := ov1 k (.row (splice row (off + n * ei.sz) news)) }).B = upd st.B k (.row (splice row (off + n * ei.sz) news)) from ovr_1 _ _ _]; exact hok')
    (.sl _ _ _ _ _ _ c' hb hroom (fun x hx => by cases hx) hzz hff)

/-- It is not known whether there is room: the row goes over to a new key. -/
theorem does_appendU {c : Call} (ho : o.op = .call c) (hc : c.callee = .builtin .append) {x y : Operand} (hargs : c.args = #[x, y]) {t e : TypeId} (htys : c.argTypes = #[t, t]) {i ei : CInfo} (hT : COK P t i) (he : i.elem = some e) (hE : COK P e ei)
    {k n : Nat} (hx : evalC st x = .sl ei.sz k 0 n none) {row : List CV} (hk : st.B k = .row row) (hend : row.length = n * ei.sz) {m : Nat} {news : List CV} (hy : srcC st.B ei.sz (evalC st y) = some (m, news)) (hfit : (n + m) * ei.bytes ≤ 140737488355328) (hby : 0 < ei.bytes)
    {k2 : Nat} (hk2 : st.B k2 = .un) : Does P base w0 st o { v := .sl ei.sz k2 0 (n + m) none, ov := ov2 k .dead k2 (.row (row ++ news)) } := by
  intro E a w hok hs hsz0 hd K Q hK
  have hkk : k ≠ k2 := fun h => by rw [h, hk2] at hk; cases hk
  obtain ⟨inf, z, hinf, hz, _, _, hz3, _, _⟩ := hE.zero
  have hrx := evalC_ok hs x
  rw [hx] at hrx
  obtain ⟨b, c', hA, hb, hn, hcc, hzz, hff⟩ := sl_inv hrx
  have hxs : srcC st.B ei.sz (evalC st x) = some (n, row) := by
    rw [hx]
    simp only [srcC, hk]
    rw [if_pos ⟨trivial, by omega⟩, List.drop_zero, List.take_of_length_le (by omega)]
  have hB : (st.app o.dst { v := .sl ei.sz k2 0 (n + m) none, ov := ov2 k .dead k2 (.row (row ++ news)) }).B = upd (upd st.B k .dead) k2 (.row (row ++ news)) := ovr_2 _ _ _ _ _
  unfold Oper.wp
  by_cases hroom : n + m ≤ c'
  · obtain ⟨X, cy, nu, hX, _, nl, ncl, o2, r2, f2⟩ := src_ok (P := P) hok (evalC_ok hs y) hy
    have g2 := f2 m (Nat.le_refl _)
    rw [List.take_of_length_le (by omega), hX] at g2
    have hmul : n * ei.sz + m * ei.sz ≤ c' * ei.sz := by rw [← Nat.add_mul]; exact Nat.mul_le_mul_right _ hroom
    obtain ⟨w', hst, hok'⟩ := hok.spliceRow (P := P) hk hb (n * ei.sz) news nu nl (by omega) (by omega) o2 r2
    have hsp : splice row (n * ei.sz) news = row ++ news := by
      unfold splice
      rw [← hend, List.take_length, List.drop_eq_nil_of_le (by omega), List.append_nil]
    rw [hsp] at hok'
    obtain ⟨hle, hok2⟩ := hok'.move (k := k) (k2 := k2) (b := b) (by rw [upd_same]; rfl) hb (by rw [upd_ne _ _ (Ne.symm hkk)]; exact hk2)
    rw [upd_upd, upd_same] at hok2
    rw [app_run ho hc hargs htys (v := .slice (some ⟨b, 0, none⟩) (n + m) c') (w' := w') (by
      rw [hA, hX]
      exact run_append_room' (P := P) (hT.slice he) hinf (by rw [hz3]; exact g2) hroom (fun a ha => by cases ha; rw [hz3, Addr.add_mid, Nat.zero_add]; exact hst) (fun h => by cases h))]
    exact hK _ _ _ hle bm_add2 (by rw [hB]; exact hok2) (.sl _ _ _ _ _ _ c' (Env.add_bm ..) hroom (fun x hx => by cases hx) (by rw [Env.add_Z]; exact hzz) (fun _ => by rw [Env.add_Z]; exact hff rfl))
  · obtain ⟨v, w', E', h1, h2, h3, h4, h6⟩ := grow_core (P := P) hok hs (hT.slice he) hE hxs hy hA (by omega) hfit hby hk2
    have h5 := h3.lose k (by rw [upd_ne _ _ hkk, hk]; simp)
    rw [upd_comm _ _ _ (Ne.symm hkk)] at h5
    rw [app_run ho hc hargs htys (h1 o.type)]
    exact hK _ _ _ h2 (fun j _ hj => h6 j (fun e => by simp [ov2, e] at hj)) (by rw [hB]; exact h5) h4

/-- The bounds of a part. -/
def bndC (ev : Operand → CV) (x : Option Operand) (d : Nat) : Option Nat :=
  match x with
  | none => some d
  | some x => match ev x with
    | .val (.int _ j) => if 0 ≤ j then some j.toNat else none
    | _ => none
theorem run_bound {E : Env} {w : World} {a : Act} (hs : ∀ t, RV E (st.s t) (a.tmps.getD t undef)) {x : Operand} {d n : Nat} (h : bndC (evalC st) (some x) d = some n) (y : Nat) (hy : n ≤ y) (code : BoundsCode) :
    (Instr.sliceBound (a.eval x) y code).run P w = .ok n w := by
  simp only [bndC] at h
  have h1 := evalC_ok hs x
  split at h
  · rename_i k j hx
    rw [hx, RV.val_iff] at h1
    split at h
    · rename_i h0
      cases h
      have : 0 ≤ j ∧ j ≤ (y : Int) := ⟨h0, by omega⟩
      simp [Instr.sliceBound, h1, asIntOf, this]
    · cases h
  · cases h

/-- What the part of a slice is: its bounds l, h, and where its room ends. -/
def slicedC (sz k off n : Nat) (c : Option Nat) (l h : Nat) (mx : Option Nat) : Option CV :=
  match mx with
  | some m => if l ≤ h ∧ h ≤ m ∧ m ≤ c.getD n then some (.sl sz k (if m = l then off else off + l * sz) (h - l) (some (m - l))) else none
  | none => match c with
    | some c => if l ≤ h ∧ h ≤ c then some (.sl sz k (if c = l then off else off + l * sz) (h - l) (some (c - l))) else none
    | none => if l ≤ h ∧ h ≤ n then (if l < n then some (.sl sz k (off + l * sz) (h - l) none) else if l = 0 then some (.sl sz k off (h - l) none) else some .sle) else none

theorem does_slice {t e : TypeId} {x : Operand} {lo hi mx : Option Operand} (ho : o.op = .slice t x lo hi mx) {i ei : CInfo} (hT : COK P t i) (he : i.elem = some e) (hE : COK P e ei)
    {k off n : Nat} {c : Option Nat} (hx : evalC st x = .sl ei.sz k off n c) {l h : Nat} (hl : bndC (evalC st) lo 0 = some l) (hh : bndC (evalC st) hi n = some h) {m : Option Nat} (hm : match mx with | none => m = none | some _ => m.isSome = true ∧ bndC (evalC st) mx 0 = m)
    (hmx : mx.isSome = true → hi.isSome = true) {v : CV} (hv : slicedC ei.sz k off n c l h m = some v) : Does P base w0 st o { v } :=
  does_pure fun E a w hok hs => by
    have hr := evalC_ok hs x
    rw [hx] at hr
    obtain ⟨b, c', hA, hb, hn, hcc, hzz, hff⟩ := sl_inv hr
    -- the bounds
    have hfacts : l ≤ h ∧ (∀ mm, m = some mm → h ≤ mm ∧ mm ≤ c') ∧ (m = none → h ≤ c') := by
      unfold slicedC at hv
      split at hv
      · rename_i mm
        split at hv
        · rename_i hc
          refine ⟨hc.1, fun q hq => ?_, fun hq => by cases hq⟩
          cases hq
          refine ⟨hc.2.1, ?_⟩
          have := hc.2.2
          cases c with
          | none => simp only [Option.getD_none] at this; omega
          | some c0 => simp only [Option.getD_some] at this; have := hcc c0 rfl; omega
        · cases hv
      · split at hv
        · rename_i c0
          split at hv
          · rename_i hc
            have := hcc c0 rfl
            exact ⟨hc.1, fun q hq => by (cases hq), fun _ => by omega⟩
          · cases hv
        · split at hv
          · rename_i hc
            exact ⟨hc.1, fun q hq => by (cases hq), fun _ => by omega⟩
          · cases hv
    obtain ⟨f1, f2, f3⟩ := hfacts
    have hrun : ∃ M, h ≤ M ∧ M ≤ c' ∧ (m.isSome = true → m = some M) ∧ (m = none → M = c') ∧ (Instr.sliceBounds true n c' (lo.map a.eval) (hi.map a.eval) (mx.map a.eval)).run P w = .ok (l, h, M) w := by
      cases mx with
      | none =>
        simp only at hm
        subst hm
        refine ⟨c', f3 rfl, Nat.le_refl _, by simp, fun _ => rfl, ?_⟩
        cases hi with
        | none =>
          simp [bndC] at hh; subst hh
          cases lo with
          | none => simp [bndC] at hl; subst hl; simp [Instr.sliceBounds]
          | some lo => simp [Instr.sliceBounds, run_bound hs hl _ f1]
        | some hi =>
          cases lo with
          | none => simp [bndC] at hl; subst hl; simp [Instr.sliceBounds, run_bound hs hh c' (f3 rfl)]
          | some lo => simp [Instr.sliceBounds, run_bound hs hl _ f1, run_bound hs hh c' (f3 rfl)]
      | some mx =>
        simp only at hm
        obtain ⟨hm1, hm2⟩ := hm
        obtain ⟨mm, rfl⟩ := Option.isSome_iff_exists.1 hm1
        obtain ⟨g1, g2⟩ := f2 mm rfl
        refine ⟨mm, g1, g2, fun _ => rfl, by simp, ?_⟩
        cases hi with
        | none => simp at hmx
        | some hi =>
          cases lo with
          | none => simp [bndC] at hl; subst hl; simp [Instr.sliceBounds, run_bound hs hh mm g1, run_bound hs hm2 c' g2]
          | some lo => simp [Instr.sliceBounds, run_bound hs hl _ f1, run_bound hs hh mm g1, run_bound hs hm2 c' g2]
    obtain ⟨M, hM1, hM2, hM3, hM4, hM⟩ := hrun
    refine ⟨.slice (if M = l then some ⟨b, off, none⟩ else (some (⟨b, off, none⟩ : Addr)).map (·.add (l * ei.sz))) (h - l) (M - l), ?_, ?_⟩
    · simp only [execOp, ho, hA, Instr.sliceAt, Sem.run_bind, run_underlying (hT.slice he) w, Result.andThen_ok, Instr.slice, hM, hE.size w, Sem.run_pure]
    · have hzm : l * ei.sz + (M - l) * ei.sz ≤ c' * ei.sz := by
        rw [← Nat.add_mul]; exact Nat.mul_le_mul_right _ (by omega)
      have key : ∀ cq : Option Nat, (∀ x, cq = some x → x = M - l) → (cq = none → c = none ∧ M = c') → (cq = none → M = l → l = 0) → ∀ off', (off' = if M = l then off else off + l * ei.sz) → RV E (.sl ei.sz k off' (h - l) cq) (.slice (if M = l then some ⟨b, off, none⟩ else (some (⟨b, off, none⟩ : Addr)).map (·.add (l * ei.sz))) (h - l) (M - l)) := fun cq hcq hcn hnl off' ho' => by
        subst ho'
        by_cases hml : M = l
        · rw [if_pos hml, if_pos hml]
          refine .sl _ _ _ _ _ b _ hb (by omega) hcq ?_ (fun e => ?_)
          · rw [hml, Nat.sub_self]; omega
          · obtain ⟨e1, e2⟩ := hcn e
            have e3 := hff e1
            rw [hml, Nat.sub_self]
            have : c' = l := by omega
            have hl0 : l = 0 ∨ l ≠ 0 := by omega
            rcases hl0 with h0 | h0
            · subst h0; rw [this] at e3; omega
            · exact absurd (hnl e hml) h0
        · rw [if_neg hml, if_neg hml]
          have : (some (⟨b, off, none⟩ : Addr)).map (·.add (l * ei.sz)) = some ⟨b, off + l * ei.sz, none⟩ := by simp [Addr.add_mid]
          rw [this]
          refine .sl _ _ _ _ _ b _ hb (by omega) hcq (by omega) (fun e => ?_)
          obtain ⟨e1, e2⟩ := hcn e
          have e3 := hff e1
          have e4 : l * ei.sz + (M - l) * ei.sz = M * ei.sz := by rw [← Nat.add_mul, show l + (M - l) = M by omega]
          subst e2
          omega
      unfold slicedC at hv
      split at hv
      · rename_i mm
        have := hM3 rfl
        cases this
        split at hv
        · cases hv
          exact key _ (fun x hx => by cases hx; rfl) (fun h => by cases h) (fun h => by cases h) _ rfl
        · cases hv
      · have hMc := hM4 rfl
        split at hv
        · rename_i c0
          have := hcc c0 rfl
          subst this
          split at hv
          · cases hv
            rw [← hMc]
            exact key _ (fun x hx => by cases hx; rfl) (fun h => by cases h) (fun h => by cases h) _ rfl
          · cases hv
        · split at hv
          · rename_i hc
            split at hv
            · rename_i hln
              cases hv
              exact key _ (fun x hx => by cases hx) (fun _ => ⟨rfl, hMc⟩) (fun _ h => by omega) _ (by rw [if_neg (by omega)])
            · rename_i hln
              split at hv
              · rename_i hl0
                cases hv
                subst hl0
                exact key _ (fun x hx => by cases hx) (fun _ => ⟨rfl, hMc⟩) (fun _ _ => rfl) _ (by simp)
              · cases hv
                have : h - l = 0 := by omega
                rw [this]
                by_cases hml : M = l
                · rw [if_pos hml]; exact .sle _ _
                · rw [if_neg hml]; exact .sle _ _
          · cases hv

/-- A copy into a row. -/
theorem does_copy {c : Call} (ho : o.op = .call c) (hc : c.callee = .builtin .copy) {x y : Operand} (hx : c.args = #[x, y]) {t e : TypeId} {ts : List TypeId} (ht : c.argTypes.toList = t :: ts) {i ei : CInfo} (hT : COK P t i) (he : i.elem = some e) (hE : COK P e ei)
    {k off n : Nat} {cp : Option Nat} (hxv : evalC st x = .sl ei.sz k off n cp) {row : List CV} (hk : st.B k = .row row) (hfit : off ≤ row.length) {m : Nat} {cs : List CV} (hy : srcC st.B ei.sz (evalC st y) = some (m, cs)) :
    Does P base w0 st o { v := .val (.int .i64 (min m n : Nat)), ov := ov1 k (.row (splice row off (cs.take (min m n * ei.sz)))) } := by
  intro E a w hok hs hn0 hd0 K Q hK
  have hrx := evalC_ok hs x
  rw [hxv] at hrx
  obtain ⟨b, c', hA, hb, hn, hcc, hzz, hff⟩ := sl_inv hrx
  obtain ⟨X, cy, us, hX, _, l1, l2, o1, r1, f1⟩ := src_ok (P := P) hok (evalC_ok hs y) hy
  have hmn : min m n * ei.sz ≤ c' * ei.sz := Nat.mul_le_mul_right _ (by omega)
  have hmm : min m n * ei.sz ≤ m * ei.sz := Nat.mul_le_mul_right _ (by omega)
  obtain ⟨w', hst, hok'⟩ := hok.spliceRow (P := P) hk hb off (cs.take (min m n * ei.sz)) (us.take (min m n * ei.sz)) (by simp [l1]) hfit (by simp; omega) (fun u hu => o1 u (List.mem_of_mem_take hu)) (fun i y u hy hu => by
    have hi : i < min m n * ei.sz := by have := (List.getElem?_eq_some_iff.1 hy).1; simp only [List.length_take] at this; omega
    rw [List.getElem?_take_of_lt hi] at hy hu
    exact r1 i y u hy hu)
  have hf := f1 (min m n) (by omega)
  rw [hX] at hf
  have hrun : (execOp a.eval o).run P w = .ok (.value (.int .i64 (min m n : Nat))) w' := by
    have hty : c.argTypes[0]? = some t := by have := congrArg (fun l => l[0]?) ht; simpa using this
    simp only [execOp, ho, resolve, hc, hx, invoke, builtin, Sem.run_bind, Sem.run_pure, Result.andThen_ok]
    have ea : (#[x, y].map a.eval) = #[.slice (some ⟨b, off, none⟩) n c', .slice X m cy] := by simp [hA, hX]
    rw [ea]
    have hmin : Nat.min m n = min m n := rfl
    simp [Builtin.copy_, hty, run_underlying (hT.slice he) w, Builtin.lenOf, hE.size w, hmin, hf, hst, goInt]
  unfold Oper.wp
  rw [hrun]
  exact hK _ _ _ (Env.Le.refl E) (fun _ _ _ => rfl) (by rw [show (st.app o.dst { v := .val (.int .i64 (min m n : Nat)), ov := ov1 k (.row (splice row off (cs.take (min m n * ei.sz)))) }).B = upd st.B k (.row (splice row off (cs.take (min m n * ei.sz)))) from ovr_1 _ _ _]; exact hok') (.val _)
end
end Go.Proofs.YtmnpjaglgalobaaGreatW.C

/-
  A canonical executor: maps. Laws over any program; no condition.
-/
namespace Go.Proofs.YtmnpjaglgalobaaGreatW.C
open Go Go.RowKit
open Go.Proofs.YtmnpjaglgalobaaGreatW.E (upd upd_same upd_ne upd_comm pureRun pureRun_ok)
set_option linter.unusedVariables false
set_option linter.unusedSimpArgs false

def findC (d : TypeDesc) (k : Value) : List (Value × CV × Nat) → Nat → Option (Option (Nat × CV))
  | [], _ => some none
  | e :: es, i => match Instr.sameNow d k e.1 with
    | some true => some (some (i, e.2.1))
    | some false => findC d k es (i + 1)
    | none => none
def MapRel (E : Env) (es : List (Value × CV × Nat)) (arr : List MapEntry) : Prop :=
  arr.length = es.length ∧ ∀ (i : Nat) e x, es[i]? = some e → arr[i]? = some x → x.key = e.1 ∧ x.born = e.2.2 ∧ RV E e.2.1 x.val
theorem findC_ok {E : Env} {d : TypeDesc} {k : Value} : ∀ (es : List (Value × CV × Nat)) (arr : List MapEntry) (i : Nat) (r : Option (Nat × CV)), MapRel E es arr → findC d k es i = some r →
    match r with
    | none => Instr.findNow d k arr i = some none
    | some (j, c) => ∃ x, Instr.findNow d k arr i = some (some (j, x.val)) ∧ i ≤ j ∧ arr[j - i]? = some x ∧ RV E c x.val
  | [], arr, i, r, h, hf => by
    simp only [findC, Option.some.injEq] at hf
    subst hf
    cases arr with
    | nil => rfl
    | cons x xs => simp [MapRel] at h
  | e :: es, arr, i, r, h, hf => by
    cases arr with
    | nil => simp [MapRel] at h
    | cons x xs =>
      obtain ⟨hk, hb, hv⟩ := h.2 0 e x rfl rfl
      have hrest : MapRel E es xs := ⟨by simpa using h.1, fun j e x he hx => h.2 (j + 1) e x (by simpa using he) (by simpa using hx)⟩
      unfold findC at hf
      unfold Instr.findNow
      rw [hk]
      cases hs : Instr.sameNow d k e.1 with
      | none => rw [hs] at hf; cases hf
      | some t =>
        rw [hs] at hf
        cases t with
        | true =>
          cases hf
          exact ⟨x, rfl, Nat.le_refl _, by simp, hv⟩
        | false =>
          have ih := findC_ok es xs (i + 1) r hrest hf
          cases r with
          | none => exact ih
          | some jc =>
            obtain ⟨j, c⟩ := jc
            obtain ⟨y, h1, h2, h3, h4⟩ := ih
            refine ⟨y, h1, by omega, ?_, h4⟩
            rw [show j - i = (j - (i + 1)) + 1 by omega, List.getElem?_cons_succ]
            exact h3

section
variable {P : Program} {base : Nat → Prop} {w0 : World} {st : St} {o : Oper}

theorem map_at {E : Env} {w : World} (hok : OK base w0 E st.B w) {k : Nat} {v : Value} (hv : RV E (.mp k) v) {es : List (Value × CV × Nat)} {cl : Nat} (hk : st.B k = .mpb es cl) :
    ∃ b, E.bm k = some b ∧ v = .map (some b) ∧ ∃ arr : Array MapEntry, w.heap[b]? = some (.map arr cl) ∧ MapRel E es arr.toList := by
  cases hv with
  | mp _ b h =>
    obtain ⟨b', h1, h2, h3⟩ := hok.box k (by rw [hk]; rfl)
    rw [h] at h1; cases h1
    rw [hk] at h3
    obtain ⟨arr, h4, h5, h6⟩ := h3
    exact ⟨b, h, rfl, arr, h4, by simpa using h5, fun i e x he hx => h6 i e x he (by simpa using hx)⟩

theorem does_makeMap {t : TypeId} (ho : o.op = .makeMap t none) {k : Nat} (hk : st.B k = .un) : Does P base w0 st o { v := .mp k, ov := ov1 k (.mpb [] 0) } := by
  intro E a w hok hs hn hd K Q hK
  obtain ⟨hle, hok'⟩ := hok.new k hk (.map #[] 0) 0 (.mpb [] 0) (by simp) ⟨#[], heap_alloc_new w _, rfl, by simp⟩
  have hrun : (execOp a.eval o).run P w = .ok (.value (.map (some w.heap.size))) (w.alloc (.map #[] 0)) := by
    simp only [execOp, ho, Instr.makeMap, Option.map_none, Sem.run_bind, run_newObj, Result.andThen_ok, Sem.run_pure]; rfl
  unfold Oper.wp
  rw [hrun]
  exact hK _ _ _ hle bm_add1 (by rw [show (st.app o.dst { v := .mp k, ov := ov1 k (.mpb [] 0) }).B = upd st.B k (.mpb [] 0) from ovr_1 _ _ _]; exact hok') (.mp _ _ (Env.add_bm ..))

/-- What is found in a map. -/
def lookC (P : Program) (d : TypeDesc) (kt et : TypeId) (ok : Bool) (es : List (Value × CV × Nat)) (key : Value) : Option CV :=
  match pureRun P (Instr.checkKey es.isEmpty 10000 kt key) with
  | none => none
  | some _ => match findC d key es 0 with
    | some (some (_, c)) => some (if ok then .tup [c, .val (.bool true)] else c)
    | some none => match pureRun P (zeroValue et) with
      | some z => some (if ok then .tup [cOf z, .val (.bool false)] else cOf z)
      | none => none
    | none => none
theorem tup2 {E : Env} {a b : CV} {x y : Value} (h1 : RV E a x) (h2 : RV E b y) : RV E (.tup [a, b]) (.tuple #[x, y]) :=
  .tup _ _ rfl (fun i c v hc hv => by
    match i with
    | 0 => simp at hc hv; subst hc; subst hv; exact h1
    | 1 => simp at hc hv; subst hc; subst hv; exact h2
    | i + 2 => simp at hc)
theorem does_lookup {t kt et : TypeId} {x ix : Operand} {ok : Bool} (ho : o.op = .lookup t x ix ok) (ht : P.underlying t = some (.map kt et)) {d : TypeDesc} (hd : P.underlying kt = some d) {k : Nat} (hx : evalC st x = .mp k) {es : List (Value × CV × Nat)} {cl : Nat} (hk : st.B k = .mpb es cl)
    {key : Value} (hix : tv (evalC st ix) = some key) {v : CV} (hv : lookC P d kt et ok es key = some v) : Does P base w0 st o { v } :=
  does_pure fun E a w hok hs => by
    have hr := evalC_ok hs x
    rw [hx] at hr
    obtain ⟨b, hb, hA, arr, harr, hrel⟩ := map_at hok hr hk
    have hkey := tv_ok hix (evalC_ok hs ix)
    unfold lookC at hv
    split at hv
    · cases hv
    · rename_i u hck
      have hck' : (Instr.checkKey arr.isEmpty 10000 kt key).run P w = .ok u w := by
        have : arr.isEmpty = es.isEmpty := by
          have h1 := hrel.1
          cases es <;> cases h2 : arr.toList <;> simp_all [Array.isEmpty, ← Array.length_toList]
        rw [this]
        exact pureRun_ok _ hck w
      split at hv
      · rename_i j c hf
        cases hv
        obtain ⟨y, h1, _, _, h4⟩ := findC_ok es arr.toList 0 _ hrel hf
        have hfk := MapKept.run_findKey (P := P) (w := w) hd h1
        refine ⟨if ok then .tuple #[y.val, .bool true] else y.val, ?_, ?_⟩
        · simp only [execOp, ho, hA, hkey, Instr.lookup, Sem.run_bind, run_underlying ht w, Result.andThen_ok, MapKept.run_getObj_map harr, Sem.run_pure, hck', hfk]
        · cases ok
          · exact h4
          · exact tup2 h4 (.val _)
      · rename_i hf
        have h1 := findC_ok es arr.toList 0 _ hrel hf
        have hfk := MapKept.run_findKey (P := P) (w := w) hd h1
        split at hv
        · rename_i z hz
          cases hv
          have hz' := pureRun_ok _ hz w
          refine ⟨if ok then .tuple #[z, .bool false] else z, ?_, ?_⟩
          · simp only [execOp, ho, hA, hkey, Instr.lookup, Sem.run_bind, run_underlying ht w, Result.andThen_ok, MapKept.run_getObj_map harr, Sem.run_pure, hck', hfk, hz']
          · cases ok
            · exact cOf_ok E z
            · exact tup2 (cOf_ok E z) (.val _)
        · cases hv
      · cases hv

/-- What a map is with an entry written. -/
def putC (P : Program) (d : TypeDesc) (kt : TypeId) (es : List (Value × CV × Nat)) (cl : Nat) (key : Value) (c : CV) : Option Ent :=
  match pureRun P (Instr.checkKey false 10000 kt key) with
  | none => none
  | some _ => match findC d key es 0 with
    | some (some (j, _)) => match es[j]? with
      | some e => if Instr.sameBits 10000 e.1 key = true then some (.mpb (es.set j (key, c, e.2.2)) cl) else none
      | none => none
    | some none => some (.mpb (es ++ [(key, c, cl)]) (cl + 1))
    | none => none
theorem does_mapUpdate {t kt et : TypeId} {x ix y : Operand} (ho : o.op = .mapUpdate t x ix y) (ht : P.underlying t = some (.map kt et)) {d : TypeDesc} (hd : P.underlying kt = some d) {k : Nat} (hx : evalC st x = .mp k) {es : List (Value × CV × Nat)} {cl : Nat} (hk : st.B k = .mpb es cl)
    {key : Value} (hix : tv (evalC st ix) = some key) {e' : Ent} (hv : putC P d kt es cl key (evalC st y) = some e') : Does P base w0 st o { v := .val undef, ov := ov1 k e' } := by
  intro E a w hok hs hn hd' K Q hK
  have hr := evalC_ok hs x
  rw [hx] at hr
  obtain ⟨b, hb, hA, arr, harr, hrel⟩ := map_at hok hr hk
  have hkey := tv_ok hix (evalC_ok hs ix)
  have hy := evalC_ok hs y
  have hlive : (st.B k).live = true := by rw [hk]; rfl
  have fin : ∀ (arr' : Array MapEntry) (es' : List (Value × CV × Nat)) (cl' : Nat), e' = .mpb es' cl' → MapRel E es' arr'.toList → (execOp a.eval o).run P w = .ok .skip { w with heap := w.heap.setIfInBounds b (.map arr' cl') } → o.wp P a w K Q := fun arr' es' cl' he hrel' hrun => by
    subst he
    have hok' := hok.put hlive hb (.map arr' cl') (x := .mpb es' cl') rfl (fun w' hw' => ⟨arr', hw', by simpa using hrel'.1, fun i e x he hx => hrel'.2 i e x he (by simpa using hx)⟩)
    unfold Oper.wp
    rw [hrun]
    exact hK undef _ _ (Env.Le.refl E) (fun _ _ _ => rfl) (by rw [show (st.app o.dst { v := .val undef, ov := ov1 k (.mpb es' cl') }).B = upd st.B k (.mpb es' cl') from ovr_1 _ _ _]; exact hok') (.val _)
  unfold putC at hv
  split at hv
  · cases hv
  · rename_i u hck
    have hck' := pureRun_ok _ hck w
    split at hv
    · rename_i j c hf
      obtain ⟨z, h1, _, h3, _⟩ := findC_ok es arr.toList 0 _ hrel hf
      have hfk := MapKept.run_findKey (P := P) (w := w) hd h1
      simp only [Nat.sub_zero] at h3
      split at hv
      · rename_i e he
        split at hv
        · rename_i hsb
          cases hv
          obtain ⟨hk1, hb1, _⟩ := hrel.2 j e z he h3
          have harrj : arr[j]? = some z := by simpa using h3
          refine fin (arr.modify j fun q => { q with key, val := a.eval y }) _ cl rfl ⟨by simpa using hrel.1, fun i e1 x1 he1 hx1 => ?_⟩ ?_
          · rw [Array.getElem?_toList, Array.getElem?_modify] at hx1
            rw [List.getElem?_set] at he1
            by_cases hij : j = i
            · subst hij
              rw [if_pos rfl, harrj] at hx1
              cases hx1
              have hlt : j < es.length := (List.getElem?_eq_some_iff.1 he).1
              rw [if_pos rfl, if_pos hlt] at he1
              cases he1
              exact ⟨rfl, hb1, hy⟩
            · rw [if_neg hij] at hx1 he1
              exact hrel.2 i e1 x1 he1 (by simpa using hx1)
          · have hst : Instr.keyThatStays z.key key = pure key := by
              unfold Instr.keyThatStays
              rw [hk1, hsb]; rfl
            simp only [execOp, ho, hA, hkey, Instr.mapUpdate, Sem.run_bind, run_underlying ht w, Result.andThen_ok, MapKept.run_getObj_map harr, hck', hfk, harrj, Option.map_some, Option.getD_some, hst, Sem.run_pure, MapKept.run_setObj_map _ harr]
        · cases hv
      · cases hv
    · rename_i hf
      cases hv
      have h1 := findC_ok es arr.toList 0 _ hrel hf
      have hfk := MapKept.run_findKey (P := P) (w := w) hd h1
      refine fin (arr.push { key, val := a.eval y, born := cl }) _ (cl + 1) rfl ⟨by simpa using hrel.1, fun i e1 x1 he1 hx1 => ?_⟩ ?_
      · rw [Array.toList_push] at hx1
        by_cases hi : i < es.length
        · rw [List.getElem?_append_left hi] at he1
          rw [List.getElem?_append_left (by rw [hrel.1]; exact hi)] at hx1
          exact hrel.2 i e1 x1 he1 hx1
        · rw [List.getElem?_append_right (by omega)] at he1
          rw [List.getElem?_append_right (by rw [hrel.1]; omega), hrel.1] at hx1
          have h0 : i - es.length = 0 := by have := (List.getElem?_eq_some_iff.1 he1).1; simp at this; omega
          rw [h0] at he1 hx1
          simp at he1 hx1
          subst he1; subst hx1
          exact ⟨rfl, rfl, hy⟩
      · simp only [execOp, ho, hA, hkey, Instr.mapUpdate, Sem.run_bind, run_underlying ht w, Result.andThen_ok, MapKept.run_getObj_map harr, hck', hfk, Sem.run_pure, MapKept.run_setObj_map _ harr]
    · cases hv

/-- What a map is without an entry. -/
def delC (P : Program) (d : TypeDesc) (kt : TypeId) (es : List (Value × CV × Nat)) (cl : Nat) (key : Value) : Option Ent :=
  match pureRun P (Instr.checkKey es.isEmpty 10000 kt key) with
  | none => none
  | some _ => match findC d key es 0 with
    | some (some (j, _)) => some (.mpb (es.eraseIdx j) cl)
    | some none => some (.mpb es cl)
    | none => none
theorem does_delete {c : Call} (ho : o.op = .call c) (hc : c.callee = .builtin .delete) {x ix : Operand} (hargs : c.args = #[x, ix]) {t kt et : TypeId} {ts : List TypeId} (htys : c.argTypes.toList = t :: ts) (ht : P.underlying t = some (.map kt et)) {d : TypeDesc} (hd : P.underlying kt = some d) {k : Nat} (hx : evalC st x = .mp k) {es : List (Value × CV × Nat)} {cl : Nat} (hk : st.B k = .mpb es cl)
    {key : Value} (hix : tv (evalC st ix) = some key) {e' : Ent} (hv : delC P d kt es cl key = some e') : Does P base w0 st o { v := .tup [], ov := ov1 k e' } := by
  intro E a w hok hs hn hd' K Q hK
  have hr := evalC_ok hs x
  rw [hx] at hr
  obtain ⟨b, hb, hA, arr, harr, hrel⟩ := map_at hok hr hk
  have hkey := tv_ok hix (evalC_ok hs ix)
  have hlive : (st.B k).live = true := by rw [hk]; rfl
  have hty : c.argTypes[0]? = some t := by have := congrArg (fun l => l[0]?) htys; simpa using this
  have fin : ∀ (arr' : Array MapEntry) (es' : List (Value × CV × Nat)), e' = .mpb es' cl → MapRel E es' arr'.toList → (Builtin.delete_ c.argTypes o.type #[a.eval x, a.eval ix]).run P w = .ok (.tuple #[]) { w with heap := w.heap.setIfInBounds b (.map arr' cl) } → o.wp P a w K Q := fun arr' es' he hrel' hrun => by
    subst he
    have hok' := hok.put hlive hb (.map arr' cl) (x := .mpb es' cl) rfl (fun w' hw' => ⟨arr', hw', by simpa using hrel'.1, fun i e x he hx => hrel'.2 i e x he (by simpa using hx)⟩)
    have hrun' : (execOp a.eval o).run P w = .ok (.value (.tuple #[])) { w with heap := w.heap.setIfInBounds b (.map arr' cl) } := by
      simp only [execOp, ho, resolve, hc, hargs, invoke, builtin, Sem.run_bind, Sem.run_pure, Result.andThen_ok]
      have ea : (#[x, ix].map a.eval) = #[a.eval x, a.eval ix] := by simp
      rw [ea, hrun]; rfl
    unfold Oper.wp
    rw [hrun']
    exact hK _ _ _ (Env.Le.refl E) (fun _ _ _ => rfl) (by rw [show (st.app o.dst { v := .tup [], ov := ov1 k (.mpb es' cl) }).B = upd st.B k (.mpb es' cl) from ovr_1 _ _ _]; exact hok') (.tup [] #[] rfl (by simp))
  unfold delC at hv
  split at hv
  · cases hv
  · rename_i u hck
    have hck' : (Instr.checkKey arr.isEmpty 10000 kt key).run P w = .ok u w := by
      have : arr.isEmpty = es.isEmpty := by
        have h1 := hrel.1
        cases es <;> cases h2 : arr.toList <;> simp_all [Array.isEmpty, ← Array.length_toList]
      rw [this]
      exact pureRun_ok _ hck w
    split at hv
    · rename_i j c' hf
      cases hv
      obtain ⟨z, h1, _, h3, _⟩ := findC_ok es arr.toList 0 _ hrel hf
      have hfk := MapKept.run_findKey (P := P) (w := w) hd h1
      simp only [Nat.sub_zero] at h3
      have hj : j < arr.toList.length := (List.getElem?_eq_some_iff.1 h3).1
      have htl : (arr.eraseIdxIfInBounds j).toList = arr.toList.eraseIdx j := by
        unfold Array.eraseIdxIfInBounds
        rw [dif_pos (by simpa using hj)]
        simp
      refine fin (arr.eraseIdxIfInBounds j) _ rfl ⟨by rw [htl, List.length_eraseIdx, List.length_eraseIdx, hrel.1], fun i e1 x1 he1 hx1 => ?_⟩ ?_
      · rw [htl, List.getElem?_eraseIdx] at hx1
        rw [List.getElem?_eraseIdx] at he1
        split at hx1
        · rename_i hlt; rw [if_pos hlt] at he1; exact hrel.2 i e1 x1 he1 hx1
        · rename_i hlt; rw [if_neg hlt] at he1; exact hrel.2 (i + 1) e1 x1 he1 hx1
      · simp [Builtin.delete_, hty, hA, hkey, Sem.run_bind, run_underlying ht w, Result.andThen_ok, MapKept.run_getObj_map harr, hck', hfk, Sem.run_pure, MapKept.run_setObj_map _ harr]
    · rename_i hf
      cases hv
      have h1 := findC_ok es arr.toList 0 _ hrel hf
      have hfk := MapKept.run_findKey (P := P) (w := w) hd h1
      refine fin arr _ rfl hrel ?_
      simp [Builtin.delete_, hty, hA, hkey, Sem.run_bind, run_underlying ht w, Result.andThen_ok, MapKept.run_getObj_map harr, hck', hfk, Sem.run_pure, MapKept.run_setObj_map _ harr]
    · cases hv
end
end Go.Proofs.YtmnpjaglgalobaaGreatW.C

/-
  A canonical executor: ranges over maps, new slices of zeros, bytes and strings, comparisons with nil, and all else that asks the operands alone. Laws over any program; no condition.
-/
namespace Go.Proofs.YtmnpjaglgalobaaGreatW.C
open Go Go.RowKit
open Go.Proofs.YtmnpjaglgalobaaGreatW.E (upd upd_same upd_ne upd_comm pureRun pureRun_ok bcat)
set_option linter.unusedVariables false
set_option linter.unusedSimpArgs false

section
variable {P : Program} {base : Nat → Prop} {w0 : World} {st : St} {o : Oper}

/-- An operation that asks its operands alone. -/
def genC (P : Program) (ev : Operand → CV) (o : Oper) : Option CV :=
  match o.op with
  | .select _ _ => none
  | _ => if o.op.operands.all (fun x => (tv (ev x)).isSome) = true then
      (match pureRun P (execOp (fun x => (tv (ev x)).getD undef) o) with
        | some (.value v) => some (cOf v)
        | _ => none)
    else none
theorem does_gen {v : CV} (h : genC P (evalC st) o = some v) : Does P base w0 st o { v } :=
  does_pure fun E a w hok hs => by
    have hs' : ∀ cs b, o.op ≠ .select cs b := fun cs b e => by rw [genC, e] at h; cases h
    have h' : (if o.op.operands.all (fun x => (tv (evalC st x)).isSome) = true then (match pureRun P (execOp (fun x => (tv (evalC st x)).getD undef) o) with | some (.value v) => some (cOf v) | _ => none) else none) = some v := by
      unfold genC at h
      split at h
      · cases h
      · exact h
    split at h'
    · rename_i hall
      have hcg : execOp a.eval o = execOp (fun x => (tv (evalC st x)).getD undef) o := execOp_congr o hs' fun x hx => by
        have h1 := Array.all_eq_true_iff_forall_mem.1 hall x hx
        obtain ⟨u, hu⟩ := Option.isSome_iff_exists.1 h1
        simp only [hu, Option.getD_some]
        exact tv_ok hu (evalC_ok hs x)
      split at h'
      · rename_i u hu
        cases h'
        exact ⟨u, by rw [hcg]; exact pureRun_ok _ hu w, cOf_ok E u⟩
      · cases h'
    · cases h'

/-- nil, or something that is not nil. -/
def nilC (P : Program) (op : BinOp) (t : TypeId) (y : Operand) (a : CV) : Option Bool :=
  match y, P.underlying t, a with
  | .const (.slice none 0 0), some (.slice _), .sl .. => match op with | .eql => some false | .neq => some true | _ => none
  | .const (.slice none 0 0), some (.slice _), .sle => match op with | .eql => some false | .neq => some true | _ => none
  | .const (.pointer none), some (.pointer _), .ptr .. => match op with | .eql => some false | .neq => some true | _ => none
  | .const (.map none), some (.map _ _), .mp .. => match op with | .eql => some false | .neq => some true | _ => none
  | _, _, _ => none
theorem eql_nil {t : TypeId} {d : TypeDesc} (h : P.underlying t = some d) {x y : Value} (w : World) (hc : (∃ e A n c, d = .slice e ∧ x = .slice (some A) n c ∧ y = .slice none 0 0) ∨ (∃ e A, d = .pointer e ∧ x = .pointer (some A) ∧ y = .pointer none) ∨ (∃ k e b, d = .map k e ∧ x = .map (some b) ∧ y = .map none)) :
    (Op.equal t x y).run P w = .ok false w := by
  show (Op.equalIn (9999 + 1) t x y).run P w = _
  unfold Op.equalIn
  rw [Sem.run_bind, run_underlying h]
  rcases hc with ⟨e, A, n, c, rfl, rfl, rfl⟩ | ⟨e, A, rfl, rfl, rfl⟩ | ⟨k, e, b, rfl, rfl, rfl⟩ <;> rfl
theorem does_nil {op : BinOp} {t u : TypeId} {x y : Operand} (ho : o.op = .binOp op t x y u) {b : Bool} (h : nilC P op t y (evalC st x) = some b) : Does P base w0 st o { v := .val (.bool b) } :=
  does_pure fun E a w hok hs => by
    have hr := evalC_ok hs x
    have key : ∃ d yv xv, y = .const yv ∧ P.underlying t = some d ∧ a.eval x = xv ∧ ((op = .eql ∧ b = false) ∨ (op = .neq ∧ b = true)) ∧ ((∃ e A n c, d = .slice e ∧ xv = .slice (some A) n c ∧ yv = .slice none 0 0) ∨ (∃ e A, d = .pointer e ∧ xv = .pointer (some A) ∧ yv = .pointer none) ∨ (∃ k e b, d = .map k e ∧ xv = .map (some b) ∧ yv = .map none)) := by
      unfold nilC at h
      split at h
      · rename_i e sz k off n c hu hx
        rw [hx] at hr
        obtain ⟨b', c', hA, _⟩ := sl_inv hr
        refine ⟨_, _, _, rfl, hu, rfl, ?_, .inl ⟨_, _, _, _, rfl, hA, rfl⟩⟩
        cases op <;> simp_all
      · rename_i e hu hx
        rw [hx] at hr
        refine ⟨_, _, a.eval x, rfl, hu, rfl, ?_, .inl ?_⟩
        · cases op <;> simp_all
        · cases hv : a.eval x <;> rw [hv] at hr <;> cases hr
          exact ⟨_, _, _, _, rfl, rfl, rfl⟩
      · rename_i e k off hu hx
        rw [hx] at hr
        refine ⟨_, _, a.eval x, rfl, hu, rfl, ?_, .inr (.inl ?_)⟩
        · cases op <;> simp_all
        · cases hv : a.eval x <;> rw [hv] at hr <;> cases hr
          exact ⟨_, _, rfl, rfl, rfl⟩
      · rename_i kt e k hu hx
        rw [hx] at hr
        refine ⟨_, _, a.eval x, rfl, hu, rfl, ?_, .inr (.inr ?_)⟩
        · cases op <;> simp_all
        · cases hv : a.eval x <;> rw [hv] at hr <;> cases hr
          exact ⟨_, _, _, rfl, rfl, rfl⟩
      · cases h
    obtain ⟨d, yv, xv, rfl, hu, hx, hb, hc⟩ := key
    refine ⟨.bool b, ?_, .val _⟩
    have heq := eql_nil hu w hc
    have hy : a.eval (.const yv) = yv := rfl
    rcases hb with ⟨rfl, rfl⟩ | ⟨rfl, rfl⟩
    · have h2 : (do eqGuard .eql t x (.const yv) xv yv; binOp .eql t xv yv : Sem Value) = (do pure (.bool (← Op.equal t xv yv))) := by
        rcases hc with ⟨e, A, n, c, rfl, rfl, rfl⟩ | ⟨e, A, rfl, rfl, rfl⟩ | ⟨k, e, b, rfl, rfl, rfl⟩ <;> rfl
      have h4 := congrArg (fun s => s.run P w) h2
      simp only [Sem.run_bind, heq] at h4
      simp only [execOp, ho, hx, hy, Sem.run_bind] at h4 ⊢
      rw [h4]; rfl
    · have h2 : (do eqGuard .neq t x (.const yv) xv yv; binOp .neq t xv yv : Sem Value) = (do pure (.bool (!(← Op.equal t xv yv)))) := by
        rcases hc with ⟨e, A, n, c, rfl, rfl, rfl⟩ | ⟨e, A, rfl, rfl, rfl⟩ | ⟨k, e, b, rfl, rfl, rfl⟩ <;> rfl
      have h4 := congrArg (fun s => s.run P w) h2
      simp only [Sem.run_bind, heq] at h4
      simp only [execOp, ho, hx, hy, Sem.run_bind] at h4 ⊢
      rw [h4]; rfl

/-- The room of a slice. -/
theorem does_cap {c : Call} (ho : o.op = .call c) (hc : c.callee = .builtin .cap) {x : Operand} (hx : c.args = #[x]) {t e : TypeId} (ht : c.argTypes = #[t]) {i : CInfo} (hT : COK P t i) (he : i.elem = some e)
    {sz k off n cp : Nat} (hv : evalC st x = .sl sz k off n (some cp)) : Does P base w0 st o { v := .val (.int .i64 cp) } :=
  does_pure fun E a w hok hs => by
    have hr := evalC_ok hs x
    rw [hv] at hr
    obtain ⟨b, c', hA, _, _, hcc, _⟩ := sl_inv hr
    have := hcc cp rfl
    subst this
    refine ⟨.int .i64 cp, ?_, .val _⟩
    simp [execOp, ho, resolve, hc, hx, ht, hA, invoke, builtin, Builtin.cap_, run_underlying (hT.slice he) w, goInt]
theorem does_len0 {c : Call} (ho : o.op = .call c) (hc : c.callee = .builtin .len) {x : Operand} (hx : c.args = #[x]) {t e : TypeId} (ht : c.argTypes = #[t]) {i : CInfo} (hT : COK P t i) (he : i.elem = some e)
    (hv : evalC st x = .sle) : Does P base w0 st o { v := .val (.int .i64 0) } :=
  does_pure fun E a w hok hs => by
    have hr := evalC_ok hs x
    rw [hv] at hr
    refine ⟨.int .i64 0, ?_, .val _⟩
    cases hA : a.eval x <;> rw [hA] at hr <;> cases hr
    simp [execOp, ho, resolve, hc, hx, ht, hA, invoke, builtin, Builtin.len_, run_underlying (hT.slice he) w, goInt]

/-- Bytes as a string. -/
def bytC : CV → Option Int
  | .val (.int .u8 n) => some n
  | _ => none
def bytsC : List CV → Option (List Int)
  | [] => some []
  | c :: cs => match bytC c, bytsC cs with
    | some n, some ns => some (n :: ns)
    | _, _ => none
theorem bytsC_ok {E : Env} : ∀ (cs : List CV) (ns : List Int) (us : List Value), bytsC cs = some ns → us.length = cs.length → (∀ (i : Nat) y u, cs[i]? = some y → us[i]? = some u → RV E y u) → us = ns.map (Value.int .u8)
  | [], ns, us, h, hl, _ => by
    simp [bytsC] at h; subst h
    exact List.eq_nil_of_length_eq_zero hl
  | c :: cs, ns, us, h, hl, hr => by
    cases us with
    | nil => simp at hl
    | cons u us =>
      unfold bytsC at h
      split at h
      · rename_i n ns' hn hns
        cases h
        have h0 := hr 0 c u rfl rfl
        have hc : c = .val (.int .u8 n) := by
          unfold bytC at hn
          split at hn <;> cases hn
          rfl
        subst hc
        rw [RV.val_iff] at h0
        subst h0
        rw [bytsC_ok cs ns' us hns (by simpa using hl) (fun i y u hy hu => hr (i + 1) y u (by simpa using hy) (by simpa using hu))]
        rfl
      · cases h
theorem does_b2s {s d e : TypeId} {x : Operand} (ho : o.op = .convert s d x) (hs1 : P.underlying s = some (.slice e)) (he : P.underlying e = some (.int .u8)) (hd : P.underlying d = some .string) {n : Nat} {cs : List CV} (hx : srcC st.B 1 (evalC st x) = some (n, cs)) {ns : List Int} (hn : bytsC cs = some ns) :
    Does P base w0 st o { v := .val (.string (bcat ns)) } :=
  does_pure fun E a w hok hs => by
    obtain ⟨A, c, us, hA, _, l1, l2, o1, r1, f1⟩ := src_ok (P := P) hok (evalC_ok hs x) hx
    have hus := bytsC_ok cs ns us hn l1 r1
    refine ⟨.string (bcat ns), ?_, .val _⟩
    have hconv : (convert s d (.slice A n c)).run P w = (Conv.bytesToString (.slice A n c)).run P w := by
      unfold convert
      rw [Sem.run_bind, run_underlying hs1]
      simp only [Result.andThen]
      rw [Sem.run_bind, run_underlying hd]
      simp only [Result.andThen]
      cases A <;> (show Sem.run P (_ >>= _) w = _; rw [Sem.run_bind, run_underlying he]; rfl)
    simp only [execOp, ho, hA, hconv, Sem.run_bind]
    have hf := f1 n (Nat.le_refl _)
    rw [List.take_of_length_le (by omega), hA, hus] at hf
    cases A with
    | none =>
      have h0 : ns = [] := by
        have h1 : (Builtin.firstCells 1 n (.slice none n c)).run P w = .ok #[] w := run_firstCells_none (P := P) w 1 n n c
        rw [h1] at hf
        have h2 : (#[] : Array Value) = (ns.map (Value.int .u8)).toArray := by injection hf
        cases ns with
        | nil => rfl
        | cons q qs => simp at h2
      subst h0
      rfl
    | some ad =>
      have hl : (loadCells ad n).run P w = .ok (ns.map (Value.int .u8)).toArray w := by
        have h1 : Builtin.firstCells 1 n (.slice (some ad) n c) = loadCells ad (n * 1) := rfl
        rw [h1, Nat.mul_one] at hf
        exact hf
      rw [run_bytesToString w ad n c ns hl]
      rfl

/-- Bytes as bytes: the row's end is marked. -/
theorem does_b2b {s e : TypeId} {x : Operand} (ho : o.op = .convert s s x) (hs1 : P.underlying s = some (.slice e)) (he : P.underlying e = some (.int .u8)) {sz k off n : Nat} {c : Option Nat} (hx : evalC st x = .sl sz k off n c) {cs : List CV} (hk : st.B k = .row cs) :
    Does P base w0 st o { v := evalC st x, ov := ov1 k (.row cs) } := by
  intro E a w hok hs hn hd K Q hK
  have hr := evalC_ok hs x
  have hr' := hr
  rw [hx] at hr
  obtain ⟨b, c', hA, hb, _⟩ := sl_inv hr
  obtain ⟨b', e1, e2, e3⟩ := hok.box k (by rw [hk]; rfl)
  rw [hb] at e1; cases e1
  rw [hk] at e3
  obtain ⟨t, ccs, ⟨fz, hh, hfz⟩, e5, _⟩ := e3
  have hok' := hok.frz hk hb
  have hconv : (convert s s (.slice (some ⟨b, off, none⟩) n c')).run P w = .ok (.slice (some ⟨b, off, none⟩) n c') (w.freeze ⟨b, E.Z k, none⟩ 1) := by
    unfold convert
    rw [Sem.run_bind, run_underlying hs1]
    simp only [Result.andThen]
    rw [Sem.run_bind, run_underlying hs1]
    simp only [Result.andThen]
    show Sem.run P (_ >>= _) w = _
    rw [Sem.run_bind, run_underlying he]
    simp only [Result.andThen, beq_self_eq_true]
    have hsh : (shape b).run P w = .ok (some (t, E.Z k)) w := by
      simp [shape, Sem.run, World.shape?, hh, e5]
    simp only [markStringish, Sem.run_bind, hsh, Result.andThen_ok, run_freeze, Sem.run_pure]
  have hB : (st.app o.dst { v := evalC st x, ov := ov1 k (.row cs) }).B = st.B := by
    show ovr st.B (ov1 k (.row cs)) = st.B
    rw [ovr_1, ← hk]
    funext j
    unfold upd
    split
    · rename_i h; rw [h]
    · rfl
  unfold Oper.wp
  simp only [execOp, ho, hA, Sem.run_bind, hconv, Result.andThen_ok, Sem.run_pure]
  exact hK _ _ _ (Env.Le.refl E) (fun _ _ _ => rfl) (by rw [hB]; exact hok') (by rw [← hA]; exact hr')

/-! ### Numbers of which a residue is told; digits of a number that is not known -/
theorem wrap_res {k : IntKind} (hk : k ≠ .i8) {z : Nat} (h : z < 256) : k.wrap (z : Int) = z := by
  unfold IntKind.wrap
  cases k <;> simp [IntKind.bits, IntKind.signed] <;> first | omega | exact absurd rfl hk
def wide16 (k : IntKind) : Bool := match k with
  | .i8 => false
  | .u8 => false
  | .i16 => false
  | _ => true
theorem wrap_wide {k : IntKind} (hk : wide16 k = true) {z : Nat} (h : z < 65536) : k.wrap (z : Int) = z := by
  unfold IntKind.wrap
  cases k <;> simp [IntKind.bits, IntKind.signed] <;> first | omega | exact absurd hk (by decide)
theorem Src.byte_lt (s : Src) (j : Nat) : s.byte j < 256 := Nat.mod_lt _ (by decide)
theorem Src.wide_lt (s : Src) (j : Nat) : s.wide j < 65536 := Nat.mod_lt _ (by decide)
theorem Src.wide_lo (s : Src) (j : Nat) : s.wide j % 256 = s.byte j := by
  unfold Src.wide Src.byte
  exact Nat.mod_mod_of_dvd _ (by decide)
theorem Src.wide_hi (s : Src) (j : Nat) : s.wide j / 256 = s.byte (j + 1) := by
  unfold Src.wide Src.byte
  rw [Nat.pow_succ, ← Nat.div_div_eq_div_mul]
  generalize s.N / 256 ^ j = x
  omega
theorem Src.wide_eq (s : Src) (j : Nat) : s.wide j = s.byte (j + 1) * 256 + s.byte j := by
  have h1 := s.wide_lo j
  have h2 := s.wide_hi j
  omega
/-- As another kind: the new form. -/
def convR (k' : IntKind) (m : Nat) : Option Nat :=
  if k' = .i8 then none
  else if m < 1000 then some m
  else if m = 1000 then some 1000
  else if m = 1001 then (if k' = .u8 then some 1000 else if wide16 k' = true then some 1001 else none)
  else none
theorem convR_ok {s : Src} {k k' : IntKind} {m m' r : Nat} {v : Value} (h : convR k' m = some m') (hv : ResOK s k m r v) : ∃ a : Int, v = .int k a ∧ ResOK s k' m' r (.int k' (k'.wrap a)) := by
  unfold convR at h
  split at h
  · cases h
  rename_i hk
  unfold ResOK at hv
  split at h
  · rename_i hm
    cases h
    rw [if_pos hm] at hv
    obtain ⟨z, rfl, h1, h2⟩ := hv
    refine ⟨_, rfl, ?_⟩
    rw [wrap_res hk h2]
    unfold ResOK
    rw [if_pos hm]
    exact ⟨z, rfl, h1, h2⟩
  rename_i hm
  rw [if_neg hm] at hv
  split at h
  · rename_i hm
    cases h
    rw [if_pos hm] at hv
    subst hv
    refine ⟨_, rfl, ?_⟩
    rw [wrap_res hk (s.byte_lt r)]
    rfl
  rename_i hm1
  rw [if_neg hm1] at hv
  split at h
  · rename_i hm2
    rw [if_pos hm2] at hv
    subst hv
    refine ⟨_, rfl, ?_⟩
    split at h
    · rename_i hk'
      cases h
      subst hk'
      have : IntKind.wrap .u8 (s.wide r : Int) = (s.byte r : Int) := by
        rw [← s.wide_lo r]
        simp [IntKind.wrap, IntKind.bits, IntKind.signed]
      rw [this]
      rfl
    · split at h
      · rename_i hw
        cases h
        rw [wrap_wide hw (s.wide_lt r)]
        rfl
      · cases h
  · cases h
theorem does_resConv {s d : TypeId} {x : Operand} (ho : o.op = .convert s d x) {ts : TypeDesc} (hs1 : P.underlying s = some ts) {k k' : IntKind} (hd : P.underlying d = some (.int k')) {m m' r : Nat} (hk : convR k' m = some m') (hx : evalC st x = .res k m r) : Does P base w0 st o { v := .res k' m' r } :=
  does_pure fun E ac w hok hs => by
    have h1 := evalC_ok hs x
    rw [hx] at h1
    obtain ⟨a, hz, h2⟩ : ∃ a : Int, ac.eval x = .int k a ∧ ResOK E.src k' m' r (.int k' (k'.wrap a)) := by
      generalize ac.eval x = v at h1
      cases h1 with | res _ _ _ _ h => exact convR_ok hk h
    refine ⟨.int k' (k'.wrap a), ?_, .res _ _ _ _ h2⟩
    have h4 := Go.Proofs.YtmnpjaglgalobaaGreatW.E.aconv_int (P := P) (k := k) (a := a) hs1 hd
    have h5 := Go.Proofs.YtmnpjaglgalobaaGreatW.E.pureRun_ok _ h4 w
    simp only [execOp, ho, hz, Sem.run_bind, h5]; rfl

/-- An operation of two operands, one of which is so told. -/
def cRes (op : BinOp) (a b : CV) : Option CV := match op, a, b with
  | .rem, .res k m r, .val (.int k' (.ofNat p)) => if k = k' ∧ 0 < p ∧ m % p = 0 ∧ m < 1000 then some (.val (.int k ((r % p : Nat) : Int))) else none
  | .shr, .res k m r, .val (.int _ (.ofNat p)) => if p = 0 ∧ (m = 1000 ∨ m = 1001) then some (.res k m r) else if p = 8 ∧ m = 1001 ∧ wide16 k = true then some (.res k 1000 (r + 1)) else none
  | .shl, .res k m r, .val (.int _ (.ofNat p)) => if p = 8 ∧ m = 1000 ∧ wide16 k = true ∧ 0 < r then some (.res k 1002 (r - 1)) else none
  | .or, .val (.int k' (.ofNat 0)), .res k m r => if k = k' ∧ m = 1000 ∧ wide16 k = true then some (.res k 1000 r) else none
  | .or, .res k m r, .res k' m' r' => if k = k' ∧ m = 1002 ∧ m' = 1000 ∧ r = r' ∧ wide16 k = true then some (.res k 1001 r) else none
  | .eql, .res k m r, .res k' m' r' => if k = k' ∧ m = m' ∧ r = r' ∧ (m = 1000 ∨ m = 1001 ∨ m = 1003) then some (.val (.bool true)) else none
  | .neq, .res k m r, .res k' m' r' => if k = k' ∧ m = m' ∧ r = r' ∧ (m = 1000 ∨ m = 1001) then some (.val (.bool false)) else none
  | .lss, .res k m r, .res k' m' r' => if k = k' ∧ m = m' ∧ r = r' ∧ (m = 1000 ∨ m = 1001) then some (.val (.bool false)) else none
  | .gtr, .res k m r, .res k' m' r' => if k = k' ∧ m = m' ∧ r = r' ∧ (m = 1000 ∨ m = 1001) then some (.val (.bool false)) else none
  | .leq, .res k m r, .res k' m' r' => if k = k' ∧ m = m' ∧ r = r' ∧ (m = 1000 ∨ m = 1001) then some (.val (.bool true)) else none
  | .geq, .res k m r, .res k' m' r' => if k = k' ∧ m = m' ∧ r = r' ∧ (m = 1000 ∨ m = 1001) then some (.val (.bool true)) else none
  | .gtr, .res k m r, .val (.int k' (.ofNat p)) => if k = k' ∧ m = 1006 ∧ p ≤ 20 then some (.val (.bool true)) else none
  | _, _, _ => none
theorem res_1000 {s : Src} {k : IntKind} {r : Nat} {v : Value} : ResOK s k 1000 r v ↔ v = .int k (s.byte r : Int) := Iff.rfl
theorem res_1001 {s : Src} {k : IntKind} {r : Nat} {v : Value} : ResOK s k 1001 r v ↔ v = .int k (s.wide r : Int) := Iff.rfl
theorem res_1002 {s : Src} {k : IntKind} {r : Nat} {v : Value} : ResOK s k 1002 r v ↔ v = .int k ((s.byte (r + 1) * 256 : Nat) : Int) := Iff.rfl
theorem res_1003 {s : Src} {k : IntKind} {r : Nat} {v : Value} : ResOK s k 1003 r v ↔ ∃ l : List Nat, encL l = r ∧ (∀ d ∈ l, d < 65535) ∧ v = .string (bcat (l.map s.it)) := Iff.rfl
theorem res_1004 {s : Src} {k : IntKind} {r : Nat} {v : Value} : ResOK s k 1004 r v ↔ ∃ c, v = .slice (some ⟨s.blk, s.off, none⟩) s.n c ∧ r = s.n ∧ s.n ≤ c := Iff.rfl
theorem res_1005 {s : Src} {k : IntKind} {r : Nat} {v : Value} : ResOK s k 1005 r v ↔ ∃ A n c, v = .slice (some A) n c ∧ 20 < n := Iff.rfl
theorem res_1006 {s : Src} {k : IntKind} {r : Nat} {v : Value} : ResOK s k 1006 r v ↔ ∃ z : Nat, v = .int k (z : Int) ∧ 20 < z := Iff.rfl
theorem res_num {s : Src} {k : IntKind} {m r : Nat} {v : Value} (hm : m = 1000 ∨ m = 1001) (h : ResOK s k m r v) : ∃ z : Nat, v = .int k (z : Int) ∧ ∀ v', ResOK s k m r v' → v' = v := by
  rcases hm with rfl | rfl
  · rw [res_1000] at h; exact ⟨_, h, fun v' h' => by rw [res_1000] at h'; rw [h, h']⟩
  · rw [res_1001] at h; exact ⟨_, h, fun v' h' => by rw [res_1001] at h'; rw [h, h']⟩
theorem or_eq {k : IntKind} (hk : wide16 k = true) {x y : Nat} (h1 : x % 256 = 0) (h2 : x < 65536) (h3 : y < 256) : k.wrap (BitVec.ofInt k.bits (x : Int) ||| BitVec.ofInt k.bits (y : Int)).toNat = ((x + y : Nat) : Int) := by
  obtain ⟨q, rfl⟩ : ∃ q, x = q * 256 := ⟨x / 256, by omega⟩
  have hb : 16 ≤ k.bits := by cases k <;> first | (exact absurd hk (by decide)) | (simp [IntKind.bits])
  have hp : 65536 ≤ 2 ^ k.bits := Nat.le_trans (show 65536 ≤ 2 ^ 16 from Nat.le_refl _) (Nat.pow_le_pow_right (by decide) hb)
  have e : (BitVec.ofInt k.bits ((q * 256 : Nat) : Int) ||| BitVec.ofInt k.bits (y : Int)).toNat = q * 256 + y := by
    rw [BitVec.toNat_or, BitVec.ofInt_natCast, BitVec.ofInt_natCast, BitVec.toNat_ofNat, BitVec.toNat_ofNat, Nat.mod_eq_of_lt (by omega), Nat.mod_eq_of_lt (by omega)]
    have := Nat.shiftLeft_add_eq_or_of_lt (b := y) (i := 8) (by omega) q
    rw [Nat.shiftLeft_eq] at this
    exact this.symm
  have h4 : q * 256 + y < 65536 := by
    have h5 : q < 256 := by clear e hp hb h1 h3; omega
    have h6 : q * 256 ≤ 255 * 256 := Nat.mul_le_mul_right _ (by clear e hp hb h1 h2 h3; omega)
    have h7 : 255 * 256 + 256 = 65536 := rfl
    exact Nat.lt_of_lt_of_le (Nat.add_lt_add_of_le_of_lt h6 h3) (Nat.le_of_eq h7)
  rw [e, wrap_wide hk h4]
theorem cRes_ok {op : BinOp} {a b v : CV} (h : cRes op a b = some v) {E : Env} {x y : Value} (hx : RV E a x) (hy : RV E b y) (t : TypeId) (ox oy : Operand) : ∃ u, Go.Proofs.YtmnpjaglgalobaaGreatW.E.abin P op t ox oy x y = some u ∧ RV E v u := by
  unfold cRes at h
  split at h
  · rename_i k m r k' p
    split at h
    · rename_i hc
      obtain ⟨rfl, hp, hm, hlt⟩ := hc
      cases h
      rw [RV.val_iff] at hy
      subst hy
      cases hx with | res _ _ _ _ h2 =>
      unfold ResOK at h2
      rw [if_pos hlt] at h2
      obtain ⟨z, rfl, h2, h3⟩ := h2
      have hpz : ((p : Nat) : Int) ≠ 0 := by omega
      refine ⟨_, Go.Proofs.YtmnpjaglgalobaaGreatW.E.abin_rem hpz, ?_⟩
      have e : (z : Int).tmod (p : Int) = ((r % p : Nat) : Int) := by
        have e1 : (z : Int).tmod (p : Int) = ((z % p : Nat) : Int) := rfl
        rw [e1, ← h2, Nat.mod_mod_of_dvd _ (Nat.dvd_of_mod_eq_zero hm)]
      rw [show (Int.ofNat p) = ((p : Nat) : Int) from rfl, e]
      exact .val _
    · cases h
  · rename_i k m r k' p
    rw [RV.val_iff] at hy
    subst hy
    cases hx with | res _ _ _ _ h2 =>
    split at h
    · rename_i hc
      obtain ⟨rfl, hm⟩ := hc
      cases h
      obtain ⟨z, rfl, _⟩ := res_num hm h2
      refine ⟨_, Go.Proofs.YtmnpjaglgalobaaGreatW.E.abin_shr (P := P) t ox oy k k' _ _ (by decide), ?_⟩
      have e : (z : Int).fdiv (2 ^ (min (Int.ofNat 0).toNat k.bits)) = z := by simp
      rw [e]
      exact .res _ _ _ _ h2
    · split at h
      · rename_i hc
        obtain ⟨rfl, rfl, hk⟩ := hc
        cases h
        rw [res_1001] at h2
        subst h2
        refine ⟨_, Go.Proofs.YtmnpjaglgalobaaGreatW.E.abin_shr (P := P) t ox oy k k' _ _ (by decide), .res _ _ _ _ ?_⟩
        rw [res_1000]
        have hb : min (Int.ofNat 8).toNat k.bits = 8 := by cases k <;> first | (exact absurd hk (by decide)) | rfl
        rw [hb, ← E.src.wide_hi r]
        have e : ((E.src.wide r : Nat) : Int).fdiv (2 ^ 8) = ((E.src.wide r / 256 : Nat) : Int) := by
          rw [Int.fdiv_eq_ediv_of_nonneg _ (by decide)]
          omega
        rw [e]
      · cases h
  · rename_i k m r k' p
    rw [RV.val_iff] at hy
    subst hy
    cases hx with | res _ _ _ _ h2 =>
    split at h
    · rename_i hc
      obtain ⟨rfl, rfl, hk, hr⟩ := hc
      cases h
      rw [res_1000] at h2
      subst h2
      refine ⟨_, Go.Proofs.YtmnpjaglgalobaaGreatW.E.abin_shl (P := P) t ox oy k k' _ _ (by decide), .res _ _ _ _ ?_⟩
      rw [res_1002, show r - 1 + 1 = r by omega]
      have hb : min (Int.ofNat 8).toNat k.bits = 8 := by cases k <;> first | (exact absurd hk (by decide)) | rfl
      rw [hb]
      have e : ((E.src.byte r : Nat) : Int) * 2 ^ 8 = ((E.src.byte r * 256 : Nat) : Int) := by omega
      have := E.src.byte_lt r
      rw [e, wrap_wide hk (by omega)]
    · cases h
  · rename_i k' k m r
    rw [RV.val_iff] at hx
    subst hx
    cases hy with | res _ _ _ _ h2 =>
    split at h
    · rename_i hc
      obtain ⟨rfl, rfl, hk⟩ := hc
      cases h
      rw [res_1000] at h2
      subst h2
      refine ⟨_, Go.Proofs.YtmnpjaglgalobaaGreatW.E.abin_or (P := P) t ox oy k _ _, .res _ _ _ _ ?_⟩
      rw [res_1000]
      have := or_eq hk (x := 0) (y := E.src.byte r) rfl (by decide) (E.src.byte_lt r)
      rw [Nat.zero_add] at this
      exact congrArg (Value.int k) this
    · cases h
  · rename_i k m r k' m' r'
    split at h
    · rename_i hc
      obtain ⟨rfl, rfl, rfl, rfl, hk⟩ := hc
      cases h
      cases hx with | res _ _ _ _ h2 =>
      cases hy with | res _ _ _ _ h3 =>
      rw [res_1002] at h2
      rw [res_1000] at h3
      subst h2; subst h3
      refine ⟨_, Go.Proofs.YtmnpjaglgalobaaGreatW.E.abin_or (P := P) t ox oy k _ _, .res _ _ _ _ ?_⟩
      rw [res_1001, E.src.wide_eq]
      have h9 := E.src.byte_lt (r + 1)
      exact congrArg (Value.int k) (or_eq hk (by omega) (by omega) (E.src.byte_lt r))
    · cases h
  · rename_i k m r k' m' r'
    split at h
    · rename_i hc
      obtain ⟨rfl, rfl, rfl, hm⟩ := hc
      cases h
      cases hx with | res _ _ _ _ h2 =>
      cases hy with | res _ _ _ _ h3 =>
      rcases hm with hm | hm | rfl
      · obtain ⟨z, rfl, h4⟩ := res_num (.inl hm) h2
        rw [h4 _ h3]
        refine ⟨_, Go.Proofs.YtmnpjaglgalobaaGreatW.E.abin_eql t ox oy _ _ _, ?_⟩
        rw [Go.Proofs.YtmnpjaglgalobaaGreatW.E.eqI_self]; exact .val _
      · obtain ⟨z, rfl, h4⟩ := res_num (.inr hm) h2
        rw [h4 _ h3]
        refine ⟨_, Go.Proofs.YtmnpjaglgalobaaGreatW.E.abin_eql t ox oy _ _ _, ?_⟩
        rw [Go.Proofs.YtmnpjaglgalobaaGreatW.E.eqI_self]; exact .val _
      · rw [res_1003] at h2 h3
        obtain ⟨l, e1, e2, rfl⟩ := h2
        obtain ⟨l', e3, e4, rfl⟩ := h3
        rw [encL_inj e2 e4 (e1.trans e3.symm)]
        refine ⟨_, Go.Proofs.YtmnpjaglgalobaaGreatW.E.abin_eqS, ?_⟩
        rw [Go.Proofs.YtmnpjaglgalobaaGreatW.E.eqS_self]; exact .val _
    · cases h
  · rename_i k m r k' m' r'
    split at h
    · rename_i hc
      obtain ⟨rfl, rfl, rfl, hm⟩ := hc
      cases h
      cases hx with | res _ _ _ _ h2 =>
      cases hy with | res _ _ _ _ h3 =>
      obtain ⟨z, rfl, h4⟩ := res_num hm h2
      rw [h4 _ h3]
      refine ⟨_, Go.Proofs.YtmnpjaglgalobaaGreatW.E.abin_neq t ox oy _ _ _, ?_⟩
      rw [Go.Proofs.YtmnpjaglgalobaaGreatW.E.eqI_self]; exact .val _
    · cases h
  · rename_i k m r k' m' r'
    split at h
    · rename_i hc
      obtain ⟨rfl, rfl, rfl, hm⟩ := hc
      cases h
      cases hx with | res _ _ _ _ h2 =>
      cases hy with | res _ _ _ _ h3 =>
      obtain ⟨z, rfl, h4⟩ := res_num hm h2
      rw [h4 _ h3]
      refine ⟨_, Go.Proofs.YtmnpjaglgalobaaGreatW.E.abin_lss t ox oy _ _ _, ?_⟩
      rw [show Go.Proofs.YtmnpjaglgalobaaGreatW.E.ltI (z : Int) z = false from decide_eq_false (by omega)]; exact .val _
    · cases h
  · rename_i k m r k' m' r'
    split at h
    · rename_i hc
      obtain ⟨rfl, rfl, rfl, hm⟩ := hc
      cases h
      cases hx with | res _ _ _ _ h2 =>
      cases hy with | res _ _ _ _ h3 =>
      obtain ⟨z, rfl, h4⟩ := res_num hm h2
      rw [h4 _ h3]
      refine ⟨_, Go.Proofs.YtmnpjaglgalobaaGreatW.E.abin_gtr t ox oy _ _ _, ?_⟩
      rw [show Go.Proofs.YtmnpjaglgalobaaGreatW.E.ltI (z : Int) z = false from decide_eq_false (by omega)]; exact .val _
    · cases h
  · rename_i k m r k' m' r'
    split at h
    · rename_i hc
      obtain ⟨rfl, rfl, rfl, hm⟩ := hc
      cases h
      cases hx with | res _ _ _ _ h2 =>
      cases hy with | res _ _ _ _ h3 =>
      obtain ⟨z, rfl, h4⟩ := res_num hm h2
      rw [h4 _ h3]
      refine ⟨_, Go.Proofs.YtmnpjaglgalobaaGreatW.E.abin_leq t ox oy _ _ _, ?_⟩
      rw [show Go.Proofs.YtmnpjaglgalobaaGreatW.E.leI (z : Int) z = true from decide_eq_true (by omega)]; exact .val _
    · cases h
  · rename_i k m r k' m' r'
    split at h
    · rename_i hc
      obtain ⟨rfl, rfl, rfl, hm⟩ := hc
      cases h
      cases hx with | res _ _ _ _ h2 =>
      cases hy with | res _ _ _ _ h3 =>
      obtain ⟨z, rfl, h4⟩ := res_num hm h2
      rw [h4 _ h3]
      refine ⟨_, Go.Proofs.YtmnpjaglgalobaaGreatW.E.abin_geq t ox oy _ _ _, ?_⟩
      rw [show Go.Proofs.YtmnpjaglgalobaaGreatW.E.leI (z : Int) z = true from decide_eq_true (by omega)]; exact .val _
    · cases h
  · rename_i k m r k' p
    rw [RV.val_iff] at hy
    subst hy
    cases hx with | res _ _ _ _ h2 =>
    split at h
    · rename_i hc
      obtain ⟨rfl, rfl, hp⟩ := hc
      cases h
      rw [res_1006] at h2
      obtain ⟨z, rfl, hz⟩ := h2
      refine ⟨_, Go.Proofs.YtmnpjaglgalobaaGreatW.E.abin_gtr t ox oy _ _ _, ?_⟩
      rw [show Go.Proofs.YtmnpjaglgalobaaGreatW.E.ltI (Int.ofNat p) z = true from decide_eq_true (by show (p : Int) < z; omega)]; exact .val _
    · cases h
  · cases h
theorem does_res {op : BinOp} {t u : TypeId} {x y : Operand} (ho : o.op = .binOp op t x y u) {v : CV} (h : cRes op (evalC st x) (evalC st y) = some v) : Does P base w0 st o { v } :=
  does_pure fun E ac w hok hs => by
    obtain ⟨z, h4, h5⟩ := cRes_ok (P := P) h (evalC_ok hs x) (evalC_ok hs y) t x y
    refine ⟨z, ?_, h5⟩
    have h6 := Go.Proofs.YtmnpjaglgalobaaGreatW.E.pureRun_ok _ h4 w
    simp only [execOp, ho, Sem.run_bind] at h6 ⊢
    rw [h6]; rfl
/-- Bytes, some of which are not known, as a string. -/
def itC : CV → Option Nat
  | .val (.int .u8 (.ofNat n)) => if n < 256 then some n else none
  | .res .u8 1000 r => if r < 60000 then some (256 + r) else none
  | _ => none
def itsC : List CV → Option (List Nat)
  | [] => some []
  | c :: cs => match itC c, itsC cs with
    | some n, some ns => some (n :: ns)
    | _, _ => none
theorem itsC_ok {E : Env} : ∀ (cs : List CV) (ns : List Nat) (us : List Value), itsC cs = some ns → us.length = cs.length → (∀ (i : Nat) y u, cs[i]? = some y → us[i]? = some u → RV E y u) → us = (ns.map E.src.it).map (Value.int .u8) ∧ ∀ d ∈ ns, d < 65535
  | [], ns, us, h, hl, _ => by
    simp [itsC] at h; subst h
    exact ⟨List.eq_nil_of_length_eq_zero hl, by simp⟩
  | c :: cs, ns, us, h, hl, hr => by
    cases us with
    | nil => simp at hl
    | cons u us =>
      unfold itsC at h
      split at h
      · rename_i n ns' hn hns
        cases h
        have h0 := hr 0 c u rfl rfl
        obtain ⟨i1, i2⟩ := itsC_ok cs ns' us hns (by simpa using hl) (fun i y u hy hu => hr (i + 1) y u (by simpa using hy) (by simpa using hu))
        have hc : u = .int .u8 (E.src.it n) ∧ n < 65535 := by
          unfold itC at hn
          split at hn
          · split at hn
            · rename_i hlt
              cases hn
              rw [RV.val_iff] at h0
              subst h0
              unfold Src.it
              rw [if_pos hlt]
              exact ⟨rfl, by omega⟩
            · cases hn
          · split at hn
            · rename_i r hlt
              cases hn
              cases h0 with | res _ _ _ _ h2 =>
              rw [res_1000] at h2
              subst h2
              unfold Src.it
              rw [if_neg (by omega), show 256 + r - 256 = r by omega]
              exact ⟨rfl, by omega⟩
            · cases hn
          · cases hn
        refine ⟨by rw [hc.1, i1]; rfl, fun d hd => ?_⟩
        rcases List.mem_cons.1 hd with rfl | hd
        · exact hc.2
        · exact i2 d hd
      · cases h
theorem does_b2sR {s d e : TypeId} {x : Operand} (ho : o.op = .convert s d x) (hs1 : P.underlying s = some (.slice e)) (he : P.underlying e = some (.int .u8)) (hd : P.underlying d = some .string) {n : Nat} {cs : List CV} (hx : srcC st.B 1 (evalC st x) = some (n, cs)) {ns0 : List Nat} (hn : itsC cs = some ns0) :
    Does P base w0 st o { v := .res .u8 1003 (encL ns0) } :=
  does_pure fun E a w hok hs => by
    obtain ⟨A, c, us, hA, _, l1, l2, o1, r1, f1⟩ := src_ok (P := P) hok (evalC_ok hs x) hx
    obtain ⟨hus, hlt⟩ := itsC_ok cs ns0 us hn l1 r1
    generalize hns : ns0.map E.src.it = ns at hus
    refine ⟨.string (bcat ns), ?_, .res _ _ _ _ (res_1003.2 ⟨ns0, rfl, hlt, by rw [hns]⟩)⟩
    have hconv : (convert s d (.slice A n c)).run P w = (Conv.bytesToString (.slice A n c)).run P w := by
      unfold convert
      rw [Sem.run_bind, run_underlying hs1]
      simp only [Result.andThen]
      rw [Sem.run_bind, run_underlying hd]
      simp only [Result.andThen]
      cases A <;> (show Sem.run P (_ >>= _) w = _; rw [Sem.run_bind, run_underlying he]; rfl)
    simp only [execOp, ho, hA, hconv, Sem.run_bind]
    have hf := f1 n (Nat.le_refl _)
    rw [List.take_of_length_le (by omega), hA, hus] at hf
    cases A with
    | none =>
      have h0 : ns = [] := by
        have h1 : (Builtin.firstCells 1 n (.slice none n c)).run P w = .ok #[] w := run_firstCells_none (P := P) w 1 n n c
        rw [h1] at hf
        have h2 : (#[] : Array Value) = (ns.map (Value.int .u8)).toArray := by injection hf
        cases ns with
        | nil => rfl
        | cons q qs => simp at h2
      subst h0
      rfl
    | some ad =>
      have hl : (loadCells ad n).run P w = .ok (ns.map (Value.int .u8)).toArray w := by
        have h1 : Builtin.firstCells 1 n (.slice (some ad) n c) = loadCells ad (n * 1) := rfl
        rw [h1, Nat.mul_one] at hf
        exact hf
      rw [run_bytesToString w ad n c ns hl]
      rfl
/-- The length of the list; of a long one. -/
theorem does_lenR {c : Call} (ho : o.op = .call c) (hc : c.callee = .builtin .len) {x : Operand} (hx : c.args = #[x]) {t e : TypeId} (ht : c.argTypes = #[t]) {i : CInfo} (hT : COK P t i) (he : i.elem = some e)
    {k : IntKind} {r : Nat} (hv : evalC st x = .res k 1004 r) : Does P base w0 st o { v := .val (.int .i64 r) } :=
  does_pure fun E a w hok hs => by
    have hr := evalC_ok hs x
    rw [hv] at hr
    refine ⟨.int .i64 r, ?_, .val _⟩
    generalize hA : a.eval x = u at hr
    cases hr with | res _ _ _ _ h2 =>
    rw [res_1004] at h2
    obtain ⟨c', rfl, rfl, _⟩ := h2
    simp [execOp, ho, resolve, hc, hx, ht, hA, invoke, builtin, Builtin.len_, run_underlying (hT.slice he) w, goInt]
theorem does_lenL {c : Call} (ho : o.op = .call c) (hc : c.callee = .builtin .len) {x : Operand} (hx : c.args = #[x]) {t e : TypeId} (ht : c.argTypes = #[t]) {i : CInfo} (hT : COK P t i) (he : i.elem = some e)
    {k : IntKind} {r : Nat} (hv : evalC st x = .res k 1005 r) : Does P base w0 st o { v := .res .i64 1006 0 } :=
  does_pure fun E a w hok hs => by
    have hr := evalC_ok hs x
    rw [hv] at hr
    generalize hA : a.eval x = u at hr
    cases hr with | res _ _ _ _ h2 =>
    rw [res_1005] at h2
    obtain ⟨A, n, c', rfl, hn⟩ := h2
    refine ⟨.int .i64 n, ?_, .res _ _ _ _ (res_1006.2 ⟨n, rfl, hn⟩)⟩
    simp [execOp, ho, resolve, hc, hx, ht, hA, invoke, builtin, Builtin.len_, run_underlying (hT.slice he) w, goInt]
end
end Go.Proofs.YtmnpjaglgalobaaGreatW.C

/-
  A canonical executor: structs out of parts, slices of zeros, ranges over maps. Laws over any program; no condition.
-/
namespace Go.Proofs.YtmnpjaglgalobaaGreatW.C
open Go Go.RowKit
open Go.Proofs.YtmnpjaglgalobaaGreatW.E (upd upd_same upd_ne upd_comm TInfo TOK pureRun pureRun_ok run_append_growsN mapM_places)
set_option linter.unusedVariables false
set_option linter.unusedSimpArgs false

theorem repl_get {α : Type} (z : List α) : ∀ (n j : Nat), j < n * z.length → ((List.replicate n z).flatten)[j]? = z[j % z.length]?
  | 0, j, h => by omega
  | n + 1, j, h => by
    have e : (List.replicate (n + 1) z).flatten = z ++ (List.replicate n z).flatten := by simp [List.replicate_succ]
    rw [e]
    rw [Nat.succ_mul] at h
    by_cases hj : j < z.length
    · rw [List.getElem?_append_left hj, Nat.mod_eq_of_lt hj]
    · rw [List.getElem?_append_right (by omega), repl_get z n (j - z.length) (by omega)]
      congr 1
      conv => rhs; rw [show j = j - z.length + z.length by omega, Nat.add_mod_right]
def zerosC (n : Nat) (z : List Value) : List CV := (List.replicate n z).flatten.map .val
theorem zerosC_len (n : Nat) (z : List Value) : (zerosC n z).length = n * z.length := by simp [zerosC]
theorem zerosC_ok {P : Program} {e : TypeId} {ei : CInfo} (hE : COK P e ei) {inf : TypeInfo} {z : Value} (hinf : P.info? e = some inf) (hz : inf.zero = some z) (E : Env) (n i : Nat) (c : CV) (u : Value) (hc : (zerosC n ei.zero)[i]? = some c) (hu : (Builtin.zeroCells z.cells n)[i]? = some u) :
    u.oneCell' = true ∧ RV E c u := by
  obtain ⟨inf', z', hinf', hz', hz1, hz2, hz3, hz4, hone⟩ := hE.zero
  rw [hinf] at hinf'; cases hinf'
  rw [hz] at hz'; cases hz'
  have hi : i < n * ei.zero.length := by have := (List.getElem?_eq_some_iff.1 hc).1; rw [zerosC_len] at this; exact this
  have hlen : ei.zero.length = z.cells.size := by rw [hz1]; simp
  unfold zerosC at hc
  rw [List.getElem?_map, repl_get _ _ _ hi] at hc
  have hi' : i < n * z.cells.size := by rw [← hlen]; exact hi
  have hpos : 0 < z.cells.size := Nat.pos_of_ne_zero fun e => by rw [e] at hi'; simp at hi'
  have hlt := Nat.mod_lt i hpos
  have hu' : u = z.cells[i % z.cells.size] := by
    simp only [Builtin.zeroCells, Array.getElem?_map] at hu
    rw [Array.getElem?_range, if_pos hi'] at hu
    simp only [Option.map_some, Option.some.injEq] at hu
    rw [getElem!_pos z.cells _ hlt] at hu
    exact hu.symm
  rw [hlen] at hc
  have hz0 : ei.zero[i % z.cells.size]? = some z.cells[i % z.cells.size] := by
    rw [hz1, Array.getElem?_toList]; simp [hlt]
  rw [hz0] at hc
  cases hc
  subst hu'
  exact ⟨hone _ (by rw [hz1]; exact Array.mem_toList_iff.2 (Array.getElem_mem hlt)), .val _⟩

section
variable {P : Program} {base : Nat → Prop} {w0 : World} {st : St} {o : Oper}

theorem does_makeSlice {t e : TypeId} {x y : Operand} (ho : o.op = .makeSlice t x y) {i ei : CInfo} (hT : COK P t i) (he : i.elem = some e) (hE : COK P e ei) {kl kc : IntKind} {l c : Nat} (hx : evalC st x = .val (.int kl l)) (hy : evalC st y = .val (.int kc c)) (hlc : l ≤ c) (hfit : ei.bytes * c ≤ 281474976710656) (h63 : c ≤ 9223372036854775807)
    (hcells : c * ei.sz ≤ 16777216) {k : Nat} (hk : st.B k = .un) : Does P base w0 st o { v := .sl ei.sz k 0 l (some c), ov := ov1 k (.row (zerosC c ei.zero)) } := by
  intro E a w hok hs hn hd K Q hK
  obtain ⟨inf, z, hinf, hz, hz1, hz2, hz3, hz4, hone⟩ := hE.zero
  have hzsz : z.cells.size = ei.sz := by rw [← hz2, hz1]; simp
  have h1 := evalC_ok hs x
  have h2 := evalC_ok hs y
  rw [hx, RV.val_iff] at h1
  rw [hy, RV.val_iff] at h2
  have h9 : ((inf.bytes : Nat) : Int) * (c : Int) ≤ 281474976710656 := by
    have h8 : ((ei.bytes * c : Nat) : Int) ≤ 281474976710656 := by omega
    rw [Int.natCast_mul] at h8
    rw [hz4]; exact h8
  have hrun0 := run_makeSlice (P := P) w t e inf z (hT.slice he) hinf hz kl kc (l : Int) (c : Int) (by omega) (by omega) (by rw [hz3, Int.toNat_natCast]; exact hcells) h9 (by omega)
  have hmade : madeCells z.cells ((c : Int).toNat * inf.size) = Builtin.zeroCells z.cells c := by
    rw [Int.toNat_natCast, hz3, ← hzsz]; rfl
  rw [hmade, Int.toNat_natCast, Int.toNat_natCast] at hrun0
  have hsize : (Builtin.zeroCells z.cells c).size = c * ei.sz := by rw [size_zeroCells, hzsz]
  obtain ⟨hle, hok'⟩ := hok.newRow hk e (zerosC c ei.zero) (Builtin.zeroCells z.cells c) (by rw [hsize, zerosC_len, hz2]; exact Nat.le_refl _) (fun i y u hy hu => zerosC_ok hE hinf hz E c i y u hy hu)
  have hrun : (execOp a.eval o).run P w = .ok (.value (.slice (some ⟨w.heap.size, 0, none⟩) l c)) (w.alloc (.cells (Builtin.zeroCells z.cells c) e)) := by
    simp only [execOp, ho, h1, h2, Sem.run_bind, hrun0, Result.andThen_ok, Sem.run_pure]
  unfold Oper.wp
  rw [hrun]
  exact hK _ _ _ hle bm_add1 (by rw [show (st.app o.dst { v := .sl ei.sz k 0 l (some c), ov := ov1 k (.row (zerosC c ei.zero)) }).B = upd st.B k (.row (zerosC c ei.zero)) from ovr_1 _ _ _]; exact hok')
    (.sl _ _ _ _ _ _ c (Env.add_bm ..) hlc (fun x hx => by cases hx; rfl) (by rw [Env.add_Z, hsize]; omega) (fun h => by cases h))

/-- Zeros appended, where there is no room. -/
theorem does_appendN {c : Call} (ho : o.op = .call c) (hc : c.callee = .builtin .append) {x y : Operand} (hargs : c.args = #[x, y]) {t ty e : TypeId} (htys : c.argTypes = #[t, ty]) {i ei : CInfo} (hT : COK P t i) (he : i.elem = some e) (hE : COK P e ei) {kd : IntKind} (hti : P.underlying ty = some (.int kd))
    {n m : Nat} {olds : List CV} (hx : srcC st.B ei.sz (evalC st x) = some (n, olds)) (hy : evalC st y = .val (.int .i64 m)) {c0 : Nat} (hcap : capC (evalC st x) = some c0) (hg : c0 < n + m) (hm : 0 < m) (hsz0 : 0 < ei.sz) (hfit : (n + m) * ei.bytes ≤ 140737488355328) (hby : 0 < ei.bytes)
    {k : Nat} (hk : st.B k = .un) : Does P base w0 st o { v := .sl ei.sz k 0 (n + m) none, ov := ov1 k (.row (olds ++ zerosC m ei.zero)) } := by
  intro E a w hok hs hsz1 hd K Q hK
  obtain ⟨inf, z, hinf, hz, hz1, hz2, hz3, hz4, hone⟩ := hE.zero
  have hzsz : z.cells.size = ei.sz := by rw [← hz2, hz1]; simp
  have hokD := hok.drawn 1
  have hdr : w.drewN 1 = w.drew := rfl
  rw [hdr] at hokD
  obtain ⟨A, cc, ou, hA, _, ol, ocl, o1, r1, f1⟩ := src_ok (P := P) hokD (evalC_ok hs x) hx
  have hrx := evalC_ok hs x
  rw [hA] at hrx
  have hcc := capC_ok hcap hrx
  subst hcc
  have hyv := evalC_ok hs y
  rw [hy, RV.val_iff] at hyv
  have hmax : n + m ≤ 140737488355328 := Nat.le_trans (Nat.le_mul_of_pos_right _ hby) hfit
  have hm48 : m * ei.bytes ≤ (n + m) * ei.bytes := Nat.mul_le_mul_right _ (by omega)
  have g1 := f1 n (Nat.le_refl _)
  rw [List.take_of_length_le (by omega), hA] at g1
  have hcap' := grownCap_ge w (n + m) cc e
  have hrun0 := run_append_growsN (P := P) (ty := o.type) (hT.slice he) hti hinf hz (A := A) (m := m) (by rw [hz3]; exact g1) hg (by rw [hz3]; exact Nat.mul_pos hm hsz0) (by omega) (by rw [hz4]; omega) (growslice_fits hg (by rw [hz4]; exact hfit))
  let ccs := ou.toArray ++ Builtin.zeroCells z.cells m ++ Builtin.zeroCells z.cells (grownCap w (n + m) cc e - (n + m))
  have hsize : ccs.size = grownCap w (n + m) cc e * ei.sz := by
    simp only [ccs, Array.size_append, List.size_toArray, size_zeroCells, ol, ocl, hzsz]
    rw [← Nat.add_mul, ← Nat.add_mul]
    congr 1; omega
  obtain ⟨hle, hok1⟩ := hokD.newRow hk e (olds ++ zerosC m ei.zero) ccs (by rw [hsize, List.length_append, ocl, zerosC_len, hz2, ← Nat.add_mul]; exact Nat.mul_le_mul_right _ hcap') (fun i y u hy hu => by
    have hccs : ccs = (ou ++ ((Builtin.zeroCells z.cells m).toList ++ (Builtin.zeroCells z.cells (grownCap w (n + m) cc e - (n + m))).toList)).toArray := by apply Array.ext'; simp [ccs]
    rw [hccs, List.getElem?_toArray] at hu
    by_cases hi : i < olds.length
    · rw [List.getElem?_append_left hi] at hy
      rw [List.getElem?_append_left (by omega)] at hu
      exact ⟨o1 u (List.mem_of_getElem? hu), r1 i y u hy hu⟩
    · rw [List.getElem?_append_right (by omega)] at hy
      have hi2 : i - olds.length < (zerosC m ei.zero).length := (List.getElem?_eq_some_iff.1 hy).1
      rw [zerosC_len, hz2] at hi2
      have h5 : (Builtin.zeroCells z.cells m).toList.length = m * ei.sz := by rw [Array.length_toList, size_zeroCells, hzsz]
      rw [List.getElem?_append_right (by omega), ol, List.getElem?_append_left (by rw [h5]; exact hi2), Array.getElem?_toList] at hu
      exact zerosC_ok hE hinf hz E m _ y u hy hu)
  have hrun : (execOp a.eval o).run P w = .ok (.value (.slice (some ⟨w.heap.size, 0, none⟩) (n + m) (grownCap w (n + m) cc e))) (w.drew.alloc (.cells ccs e)) := by
    simp only [execOp, ho, resolve, hc, hargs, htys, invoke, builtin, Sem.run_bind, Sem.run_pure, Result.andThen_ok]
    have ea : (#[x, y].map a.eval) = #[.slice A n cc, .int .i64 (m : Int)] := by simp [hA, hyv]
    rw [ea, hrun0]; rfl
  unfold Oper.wp
  rw [hrun]
  exact hK _ _ _ hle bm_add1 (by rw [show (st.app o.dst { v := .sl ei.sz k 0 (n + m) none, ov := ov1 k (.row (olds ++ zerosC m ei.zero)) }).B = upd st.B k (.row (olds ++ zerosC m ei.zero)) from ovr_1 _ _ _]; exact hok1)
    (.sl _ _ _ _ _ _ _ (Env.add_bm ..) hcap' (fun x hx => by cases hx) (by rw [Env.add_Z, hsize]; omega) (fun _ => by rw [Env.add_Z, hsize]; omega))

theorem does_build {t : TypeId} {parts : Array (Nat × Operand)} (ho : o.op = .build t parts) {i : CInfo} (hT : COK P t i) (hst : i.fields ≠ [])
    {out : List CV} (h : afill (fun j => (i.fields[j]?).map fun x => (x.1, x.2.1)) (i.zero.map .val) (parts.toList.map fun p => (p.1, evalC st p.2)) = some out) (hpos : i.fields.all (fun x => x.2.1 != 0) = true) :
    Does P base w0 st o { v := .agg out } :=
  does_pure fun E a w hok hs => by
    obtain ⟨j, hj, _, _, _, jf, _⟩ := hT.ex
    obtain ⟨inf, z, hinf, hz, hz1, hz2, hz3, hz4, hone⟩ := hT.zero
    rw [jf] at h hpos hst
    obtain ⟨x0, hx0⟩ : ∃ x, j.fields[0]? = some x := by cases hf : j.fields with | nil => exact absurd hf hst | cons x _ => exact ⟨x, rfl⟩
    obtain ⟨fs, f0, hfs, _, _⟩ := hj.fields 0 x0 hx0
    let pl : Array (Nat × Nat) := fs.map fun f => (f.offset, ((P.info? f.type).map (·.size)).getD 0)
    have hfield : ∀ (l : Nat) x, j.fields[l]? = some x → pl[l]? = some (x.1, x.2.1) := fun l x hx => by
      obtain ⟨fs', f, h1, h2, h3⟩ := hj.fields l x hx
      rw [hfs] at h1
      cases h1
      subst h3
      simp [pl, h2]
    have hfill := fill_ok (E := E) (place := fun l => (j.fields[l]?).map fun x => (x.1, x.2.1)) (place' := fun l => pl[l]?) (fun l x hx => by
      obtain ⟨y, hy, rfl⟩ := Option.map_eq_some_iff.1 hx
      exact hfield l y hy) (a := a) parts.toList (i.zero.map .val) z.cells out hs h (by rw [List.length_map, hz1]; simp) (fun l c v hc hv => by
        rw [hz1, List.getElem?_map, Array.getElem?_toList, hv] at hc
        cases hc
        exact ⟨hone v (by rw [hz1]; exact Array.mem_toList_iff.2 (Array.mem_of_getElem? hv)), .val _⟩)
    obtain ⟨os, h4, h5, h6⟩ := hfill
    refine ⟨.agg os, ?_, .agg _ _ h5 (fun v hv => ?_) (fun l c v hc hv => (h6 l c v hc hv).2)⟩
    · have hinfo : ∀ f ∈ fs.toList, (P.info? f.type).isSome = true := fun f hf => by
        obtain ⟨l, hl, rfl⟩ := List.mem_iff_getElem.1 hf
        have hj' : l < j.fields.length := by rw [hj.nf fs hfs]; simpa using hl
        obtain ⟨fs', f, h7, h8, h9⟩ := hj.fields l j.fields[l] (by simp [hj'])
        rw [hfs] at h7
        cases h7
        have h10 := List.all_eq_true.1 hpos j.fields[l] (List.getElem_mem hj')
        rw [h9] at h10
        have h11 : fs.toList[l] = f := by
          have := (Array.getElem?_eq_some_iff.1 h8).2
          simpa using this
        rw [h11]
        cases hi : P.info? f.type with
        | none => simp [hi] at h10
        | some _ => rfl
      have hbuilt : P.built t (parts.map fun (i, x) => (i, a.eval x)).toList = some os := by
        unfold Program.built
        simp only [hinf, hfs, hz, mapM_places _ hinfo]
        have e1 : ((fs.toList.map fun f => (f.offset, ((P.info? f.type).map (·.size)).getD 0)).toArray) = pl := by apply Array.ext'; simp [pl]
        have e2 : (parts.map fun (i, x) => (i, a.eval x)).toList = parts.toList.map fun p => (p.1, a.eval p.2) := by simp
        rw [e1, e2]
        exact h4
      simp [execOp, ho, run_build w t _ os hbuilt]
    · obtain ⟨l, hl, rfl⟩ := Array.mem_iff_getElem.1 hv
      have : l < out.length := by omega
      exact (h6 l out[l] _ (by simp [this]) (by simp [hl])).1

/-- A range over a map begins. -/
theorem does_range {t kt et : TypeId} {x : Operand} (ho : o.op = .range t x) (ht : P.underlying t = some (.map kt et)) {k : Nat} (hx : evalC st x = .mp k) {es : List (Value × CV × Nat)} {cl : Nat} (hk : st.B k = .mpb es cl) {k2 : Nat} (hk2 : st.B k2 = .un) :
    Does P base w0 st o { v := .ptr k2 0, ov := ov1 k2 (.itr k cl [] cl) } := by
  intro E a w hok hs hn hd K Q hK
  have hr := evalC_ok hs x
  rw [hx] at hr
  obtain ⟨b, hb, hA, arr, harr, hrel⟩ := map_at hok hr hk
  have hle0 := Env.le_add (b := w.heap.size) (z := 0) (hok.un k2 hk2)
  obtain ⟨hle, hok'⟩ := hok.new k2 hk2 (.mapIter (some b) cl #[] cl) 0 (.itr k cl [] cl) (by simp) ⟨b, (hle0.1 _ _ hb).1, heap_alloc_new w _⟩
  have hrun : (execOp a.eval o).run P w = .ok (.value (.pointer (some ⟨w.heap.size, 0, none⟩))) (w.alloc (.mapIter (some b) cl #[] cl)) := by
    simp only [execOp, ho, hA, Instr.range, Sem.run_bind, run_underlying ht w, Result.andThen_ok, MapKept.run_getObj_map harr, Sem.run_pure, run_newObj]; rfl
  unfold Oper.wp
  rw [hrun]
  exact hK _ _ _ hle bm_add1 (by rw [show (st.app o.dst { v := .ptr k2 0, ov := ov1 k2 (.itr k cl [] cl) }).B = upd st.B k2 (.itr k cl [] cl) from ovr_1 _ _ _]; exact hok') (.ptr _ _ _ (Env.add_bm ..))
end
end Go.Proofs.YtmnpjaglgalobaaGreatW.C

/-
  A canonical executor: the rounds of a range over a map. Laws over any program; no condition.
-/
namespace Go.Proofs.YtmnpjaglgalobaaGreatW.C
open Go Go.RowKit
open Go.ChangeMaps (setBlock)
open Go.Proofs.YtmnpjaglgalobaaGreatW.E (upd upd_same upd_ne upd_comm)
set_option linter.unusedVariables false
set_option linter.unusedSimpArgs false

section
variable {P : Program} {base : Nat → Prop} {w0 : World} {st : St} {o : Oper}

/-- One of some effects. -/
def DoesAny (P : Program) (base : Nat → Prop) (w0 : World) (st : St) (o : Oper) (l : List Eff) : Prop :=
  ∀ E (a : Act) w, OK base w0 E st.B w → (∀ t, RV E (st.s t) (a.tmps.getD t undef)) → a.tmps.size = st.n → a.defers = [] →
    ∀ K Q, (∀ e ∈ l, ∀ v w' E', E.Le E' → (∀ k, st.B k = .dead → e.ov k = none → E'.bm k = E.bm k) → OK base w0 E' (st.app o.dst e).B w' → RV E' e.v v → K (a.put o.dst v) w') → o.wp P a w K Q
theorem Does.any {e : Eff} (h : Does P base w0 st o e) : DoesAny P base w0 st o [e] := fun E a w hok hs hn hd K Q hK => h E a w hok hs hn hd K Q (hK e (by simp))

def leftC (es : List (Value × CV × Nat)) (seen : List Nat) : List (Value × CV × Nat) := es.filter fun e => !seen.contains e.2.2
def nextC (r m since : Nat) (seen : List Nat) (es : List (Value × CV × Nat)) (cl : Nat) : List Eff :=
  match leftC es seen with
  | [] => [{ v := .tup [.val (.bool false)] }]
  | l => l.map fun e => { v := .tup [.val (.bool true), .val e.1, e.2.1], ov := ov1 r (.itr m since (seen ++ [e.2.2]) cl) }

theorem tup1 {E : Env} {a : CV} {x : Value} (h1 : RV E a x) : RV E (.tup [a]) (.tuple #[x]) :=
  .tup _ _ rfl (fun i c v hc hv => by
    match i with
    | 0 => simp at hc hv; subst hc; subst hv; exact h1
    | i + 1 => simp at hc)
theorem tup3 {E : Env} {a b c : CV} {x y z : Value} (h1 : RV E a x) (h2 : RV E b y) (h3 : RV E c z) : RV E (.tup [a, b, c]) (.tuple #[x, y, z]) :=
  .tup _ _ rfl (fun i c v hc hv => by
    match i with
    | 0 => simp at hc hv; subst hc; subst hv; exact h1
    | 1 => simp at hc hv; subst hc; subst hv; exact h2
    | 2 => simp at hc hv; subst hc; subst hv; exact h3
    | i + 3 => simp at hc)

theorem left_mem {E : Env} {es : List (Value × CV × Nat)} {arr : Array MapEntry} (hrel : MapRel E es arr.toList) (seen : List Nat) :
    (∀ x ∈ (leftOf arr seen.toArray).toList, ∃ e ∈ leftC es seen, x.key = e.1 ∧ x.born = e.2.2 ∧ RV E e.2.1 x.val) ∧ ((leftOf arr seen.toArray).size = 0 → leftC es seen = []) := by
  constructor
  · intro x hx
    unfold leftOf at hx
    rw [Array.mem_toList_iff, Array.mem_filter] at hx
    obtain ⟨hx1, hx2⟩ := hx
    obtain ⟨i, hi, rfl⟩ := Array.mem_iff_getElem.1 hx1
    have hlt : i < es.length := by rw [← hrel.1]; simpa using hi
    have hr := hrel.2 i es[i] arr[i] (by simp [hlt]) (by simp [hi])
    refine ⟨es[i], ?_, hr⟩
    unfold leftC
    rw [List.mem_filter]
    refine ⟨List.getElem_mem _, ?_⟩
    rw [← hr.2.1]
    simpa using hx2
  · intro h0
    unfold leftC
    rw [List.filter_eq_nil_iff]
    intro e he hc
    obtain ⟨i, hi, rfl⟩ := List.mem_iff_getElem.1 he
    have hi' : i < arr.size := by have := hrel.1; simp at this; omega
    have hr := hrel.2 i es[i] arr[i] (by simp [hi]) (by simp [hi'])
    have : arr[i] ∈ leftOf arr seen.toArray := by
      unfold leftOf
      rw [Array.mem_filter]
      refine ⟨Array.getElem_mem hi', ?_⟩
      rw [hr.2.1]
      simpa using hc
    rw [Array.eq_empty_of_size_eq_zero h0] at this
    simp at this

theorem does_next {x : Operand} (ho : o.op = .next x false) {r : Nat} (hx : evalC st x = .ptr r 0) {m since last : Nat} {seen : List Nat} (hr : st.B r = .itr m since seen last) {es : List (Value × CV × Nat)} {cl : Nat} (hm : st.B m = .mpb es cl)
    (hold : es.all (fun e => decide (e.2.2 < since)) = true) (hsc : since ≤ last) : DoesAny P base w0 st o (nextC r m since seen es cl) := by
  intro E a w hok hs hn hd K Q hK
  have hrx := evalC_ok hs x
  rw [hx] at hrx
  obtain ⟨b, e1, e2, bm, e3, e4⟩ := by
    have := hok.box r (by rw [hr]; rfl)
    rw [hr] at this
    exact this
  have hA : a.eval x = .pointer (some ⟨b, 0, none⟩) := by
    generalize a.eval x = v at hrx
    cases hrx with | ptr _ _ b' h => rw [e1] at h; cases h; rfl
  obtain ⟨b2, g1, g2, arr, g3, g4, g5⟩ := by
    have := hok.box m (by rw [hm]; rfl)
    rw [hm] at this
    exact this
  rw [e3] at g1; cases g1
  have hrel : MapRel E es arr.toList := ⟨by simpa using g4, fun i e y he hy => g5 i e y he (by simpa using hy)⟩
  have hold' : ∀ y ∈ arr.toList, y.born < since := fun y hy => by
    obtain ⟨i, hi, rfl⟩ := List.mem_iff_getElem.1 hy
    have hlt : i < es.length := by rw [← hrel.1]; exact hi
    obtain ⟨_, h2, _⟩ := hrel.2 i es[i] arr.toList[i] (by simp [hlt]) (by simp [hi])
    have h3 := List.all_eq_true.1 hold es[i] (List.getElem_mem _)
    rw [h2]; simpa using h3
  obtain ⟨hl1, hl2⟩ := left_mem hrel seen
  unfold Oper.wp
  rcases run_next_at (P := P) w o.type b bm since last seen.toArray arr cl e4 g3 hold' hsc with ⟨h0, hrun⟩ | ⟨y, hy, w1, hw1, hrun⟩
  · have hrun' : (execOp a.eval o).run P w = .ok (.value (.tuple #[.bool false])) w := by
      simp only [execOp, ho, hA, Sem.run_bind, hrun, Result.andThen_ok, Sem.run_pure]
    rw [hrun']
    have hnil := hl2 h0
    refine hK { v := .tup [.val (.bool false)] } (by simp [nextC, hnil]) _ w E (Env.Le.refl E) (fun _ _ _ => rfl) ?_ (tup1 (.val _))
    exact hok
  · obtain ⟨e, he, k1, k2, k3⟩ := hl1 y hy
    have hrun' : (execOp a.eval o).run P w = .ok (.value (.tuple #[.bool true, y.key, y.val])) (setBlock w1 b (.mapIter (some bm) since (seen.toArray.push y.born) cl)) := by
      simp only [execOp, ho, hA, Sem.run_bind, hrun, Result.andThen_ok, Sem.run_pure]
    rw [hrun']
    have hok1 : OK base w0 E st.B w1 := by
      rcases hw1 with rfl | rfl
      · exact hok
      · exact hok.drawn 1
    have hmem : ({ v := .tup [.val (.bool true), .val e.1, e.2.1], ov := ov1 r (.itr m since (seen ++ [e.2.2]) cl) } : Eff) ∈ nextC r m since seen es cl := by
      unfold nextC
      cases hl : leftC es seen with
      | nil => rw [hl] at he; simp at he
      | cons q qs => rw [hl] at he; simp only; exact List.mem_map.2 ⟨e, he, rfl⟩
    have hok2 := hok1.put (k := r) (b := b) (x := .itr m since (seen ++ [e.2.2]) cl) (by rw [hr]; rfl) e1 (.mapIter (some bm) since (seen.toArray.push y.born) cl) rfl (fun w' hw' => ⟨bm, e3, by rw [hw', k2]; simp⟩)
    refine hK _ hmem _ _ E (Env.Le.refl E) (fun _ _ _ => rfl) ?_ ?_
    · rw [show (st.app o.dst { v := .tup [.val (.bool true), .val e.1, e.2.1], ov := ov1 r (.itr m since (seen ++ [e.2.2]) cl) }).B = upd st.B r (.itr m since (seen ++ [e.2.2]) cl) from ovr_1 _ _ _]
      exact hok2
    · exact tup3 (.val _) (by rw [k1]; exact .val _) k3

theorem does_entry {x : Operand} (ho : o.op = .entry x) {r : Nat} (hx : evalC st x = .ptr r 0) {m since : Nat} {seen : List Nat} {cl : Nat} {es : List (Value × CV × Nat)} (hm : st.B m = .mpb es cl) {e : Value × CV × Nat} (he : e ∈ es) (hr : st.B r = .itr m since (seen ++ [e.2.2]) cl) (hnd : (es.map (·.2.2)).Nodup) :
    Does P base w0 st o { v := .tup [.val e.1, e.2.1] } :=
  does_pure fun E a w hok hs => by
    have hrx := evalC_ok hs x
    rw [hx] at hrx
    obtain ⟨b, e1, e2, bm, e3, e4⟩ := by
      have := hok.box r (by rw [hr]; rfl)
      rw [hr] at this
      exact this
    have hA : a.eval x = .pointer (some ⟨b, 0, none⟩) := by
      generalize a.eval x = v at hrx
      cases hrx with | ptr _ _ b' h => rw [e1] at h; cases h; rfl
    obtain ⟨b2, g1, g2, arr, g3, g4, g5⟩ := by
      have := hok.box m (by rw [hm]; rfl)
      rw [hm] at this
      exact this
    rw [e3] at g1; cases g1
    have hrel : MapRel E es arr.toList := ⟨by simpa using g4, fun i e y he hy => g5 i e y he (by simpa using hy)⟩
    obtain ⟨i, hi, rfl⟩ := List.mem_iff_getElem.1 he
    have hi' : i < arr.size := by simpa [g4] using hi
    obtain ⟨k1, k2, k3⟩ := g5 i es[i] arr[i] (by simp [hi]) (by simp [hi'])
    have hborn : arr.toList.map (·.born) = es.map (·.2.2) := by
      apply List.ext_getElem?
      intro j
      rw [List.getElem?_map, List.getElem?_map]
      by_cases hj : j < es.length
      · have hj' : j < arr.size := by simpa [g4] using hj
        obtain ⟨_, q2, _⟩ := g5 j es[j] arr[j] (by simp [hj]) (by simp [hj'])
        simp [hj, hj', q2]
      · rw [List.getElem?_eq_none (by have := hrel.1; omega), List.getElem?_eq_none (by omega)]; rfl
    have hrun := run_entry_at (P := P) w b bm since seen.toArray arr cl arr[i] (by rw [e4, k2]; simp) g3 (by simp) (by rw [hborn]; exact hnd)
    refine ⟨.tuple #[arr[i].key, arr[i].val], ?_, tup2 (by rw [k1]; exact .val _) k3⟩
    simp only [execOp, ho, hA, Sem.run_bind, hrun, Result.andThen_ok, Sem.run_pure]
end
end Go.Proofs.YtmnpjaglgalobaaGreatW.C

/-
  A canonical executor: one operation, whichever. Laws over any program; no condition.
-/
namespace Go.Proofs.YtmnpjaglgalobaaGreatW.C
open Go Go.RowKit
open Go.Proofs.YtmnpjaglgalobaaGreatW.E (upd upd_same upd_ne upd_comm splice bcat)
set_option linter.unusedVariables false
set_option linter.unusedSimpArgs false

def ovl : List (Nat × Ent) → Nat → Option Ent
  | [], _ => none
  | (k, x) :: l, j => if j = k then some x else ovl l j
theorem ovl_0 : ovl [] = fun _ => none := rfl
theorem ovl_1 (k : Nat) (x : Ent) : ovl [(k, x)] = ov1 k x := by funext j; rfl
theorem ovl_2 (k : Nat) (x : Ent) (k' : Nat) (x' : Ent) : ovl [(k', x'), (k, x)] = ov2 k x k' x' := by funext j; rfl

/-- A value; what was written. -/
abbrev Out := CV × List (Nat × Ent)
abbrev pv (v : CV) : Option Out := some (v, [])

section
variable (P : Program) (T : CTab) (nk : Nat) (ev : Operand → CV) (B : Nat → Ent) (o : Oper)

def cPick (c x y : Operand) : Option Out := match ev c with
  | .val (.bool t) => pv (if t then ev x else ev y)
  | _ => none
def cAlloc (t : TypeId) : Option Out := match T.get t, B nk with
  | some i, .un => some (.ptr nk 0, [(nk, .row (i.zero.map .val))])
  | _, _ => none
def cBox (x : Operand) : Option Out := match B nk with
  | .un => if (ev x).cells.all CV.isCell = true then some (.ptr nk 0, [(nk, .row (ev x).cells)]) else none
  | _ => none
def cBuild (t : TypeId) (parts : Array (Nat × Operand)) : Option Out := match T.get t with
  | some i => if i.fields.isEmpty = false ∧ i.fields.all (fun x => x.2.1 != 0) = true then
      (match afill (fun j => (i.fields[j]?).map fun x => (x.1, x.2.1)) (i.zero.map .val) (parts.toList.map fun p => (p.1, ev p.2)) with
        | some out => pv (.agg out)
        | none => none)
    else none
  | none => none
def cBuildSlice (t : TypeId) (n : Nat) (parts : Array (Nat × Operand)) : Option Out := match T.get t, B nk with
  | some i, .un => match i.elem with
    | some e => match T.get e with
      | some ei => if parts.toList.map (·.1) = List.range' 0 n ∧ (parts.toList.all fun p => (ev p.2).cells.length == ei.sz && (ev p.2).cells.all CV.isCell) = true ∧ n * ei.sz ≤ 16777216 then
          some (.sl ei.sz nk 0 n (some n), [(nk, .row (flatC (parts.toList.map fun p => ev p.2)))]) else none
      | none => none
    | none => none
  | _, _ => none
def cLoad (t : TypeId) (x : Operand) : Option Out := match ev x with
  | .ptr k off => match B k, T.get t with
    | .row cs, some i => match rdC i (cs.drop off) with
      | some v => pv v
      | none => none
    | _, _ => none
  | _ => none
def cStore (t : TypeId) (x y : Operand) : Option Out := match ev x with
  | .ptr k off => match B k, T.get t with
    | .row cs, some i => if (ev y).cells.all CV.isCell = true ∧ (ev y).cells.length = i.sz ∧ off + (ev y).cells.length ≤ cs.length then some (.val undef, [(k, .row (splice cs off (ev y).cells))]) else none
    | _, _ => none
  | _ => none
def cNilCheck (x : Operand) : Option Out := match ev x with
  | .ptr k off => pv (.ptr k off)
  | .fn f first caps => pv (.fn f first caps)
  | _ => none
def cFieldAddr (s : TypeId) (x : Operand) (f : Nat) : Option Out := match ev x with
  | .ptr k off => match T.get s with
    | some i => match i.fields[f]? with
      | some (o', sz, _) => if sz = 0 then none else pv (.ptr k (off + o'))
      | none => none
    | none => none
  | _ => none
def cField (s : TypeId) (x : Operand) (f : Nat) : Option Out := match ev x with
  | .agg cs => match T.get s with
    | some i => match i.fields[f]? with
      | some (o', _, false) => match cs[o']? with
        | some v => pv v
        | none => none
      | _ => none
    | none => none
  | _ => none
def cIndex (t : TypeId) (x ix : Operand) : Option Out := match ev x, ev ix with
  | .sl sz k off n _, .val (.int _ j) => match T.get t with
    | some i => match i.elem with
      | some e => match T.get e with
        | some ei => if sz = ei.sz ∧ 0 ≤ j ∧ j < n then pv (.ptr k (off + j.toNat * ei.sz)) else none
        | none => none
      | none => none
    | none => none
  | _, _ => none
def cIndexA (t : TypeId) (x ix : Operand) : Option Out := match ev x, ev ix with
  | .ptr k off, .val (.int _ j) => match P.underlying t with
    | some (.array len e) => match T.get e with
      | some ei => if 0 ≤ j ∧ j < len then pv (.ptr k (off + j.toNat * ei.sz)) else none
      | none => none
    | _ => none
  | _, _ => none
def cLen (t : TypeId) (x : Operand) : Option Out := match ev x with
  | .sl _ _ _ n _ => match T.get t with
    | some i => if i.elem.isSome = true then pv (.val (.int .i64 n)) else none
    | none => none
  | .sle => match T.get t with
    | some i => if i.elem.isSome = true then pv (.val (.int .i64 0)) else none
    | none => none
  | .res _ m r => match T.get t with
    | some i => if i.elem.isSome = true then (if m = 1004 then pv (.val (.int .i64 r)) else if m = 1005 then pv (.res .i64 1006 0) else none) else none
    | none => none
  | _ => none
def cCap (t : TypeId) (x : Operand) : Option Out := match ev x with
  | .sl _ _ _ _ (some c) => match T.get t with
    | some i => if i.elem.isSome = true then pv (.val (.int .i64 c)) else none
    | none => none
  | _ => none
/-- What an append comes to. -/
def appC (ei : CInfo) (x : CV) (m : Nat) (news : List CV) : Option Out :=
  if m = 0 then (if isSl x = true then pv x else none)
  else if 0 < ei.bytes then match capC x with
    | some c0 => match srcC B ei.sz x with
      | some (n, olds) =>
        if c0 < n + m then (if (n + m) * ei.bytes ≤ 140737488355328 then (match B nk with
          | .un => some (.sl ei.sz nk 0 (n + m) none, [(nk, .row (olds ++ news))])
          | _ => none) else none)
        else match x with
          | .sl sz k off n' (some c) => match B k with
            | .row row => if sz = ei.sz ∧ off + n' * ei.sz ≤ row.length ∧ n' + m ≤ c then some (.sl ei.sz k off (n' + m) (some c), [(k, .row (splice row (off + n' * ei.sz) news))]) else none
            | _ => none
          | _ => none
      | none => none
    | none => match x with
      | .sl sz k off n none => match B k with
        | .row row => if sz = ei.sz ∧ 0 < ei.sz ∧ off + (n + m) * ei.sz ≤ row.length then some (.sl ei.sz k off (n + m) none, [(k, .row (splice row (off + n * ei.sz) news))])
          else if sz = ei.sz ∧ off = 0 ∧ row.length = n * ei.sz ∧ (n + m) * ei.bytes ≤ 140737488355328 then (match B nk with
            | .un => some (.sl ei.sz nk 0 (n + m) none, [(nk, .row (row ++ news)), (k, .dead)])
            | _ => none)
          else none
        | _ => none
      | _ => none
  else none
def cAppend (t t2 : TypeId) (x y : Operand) : Option Out := match T.get t with
  | some i => match i.elem with
    | some e => match T.get e with
      | some ei =>
        if t2 = t then (match srcC B ei.sz (ev y) with
          | some (m, news) => appC nk B ei (ev x) m news
          | none => none)
        else match P.underlying t2, ev y, capC (ev x), srcC B ei.sz (ev x), B nk with
          | some (.int _), .val (.int .i64 j), some c0, some (n, olds), .un =>
            if 0 < j ∧ c0 < n + j.toNat ∧ 0 < ei.sz ∧ 0 < ei.bytes ∧ (n + j.toNat) * ei.bytes ≤ 140737488355328 then some (.sl ei.sz nk 0 (n + j.toNat) none, [(nk, .row (olds ++ zerosC j.toNat ei.zero))]) else none
          | _, _, _, _, _ => none
      | none => none
    | none => none
  | none => none
def cCopy (t : TypeId) (x y : Operand) : Option Out := match T.get t with
  | some i => match i.elem with
    | some e => match T.get e with
      | some ei => match ev x with
        | .sl sz k off n _ => match B k, srcC B ei.sz (ev y) with
          | .row row, some (m, cs) => if sz = ei.sz ∧ off ≤ row.length then some (.val (.int .i64 (min m n : Nat)), [(k, .row (splice row off (cs.take (min m n * ei.sz))))]) else none
          | _, _ => none
        | _ => none
      | none => none
    | none => none
  | none => none
def cDelete (t : TypeId) (x ix : Operand) : Option Out := match ev x with
  | .mp k => match B k, P.underlying t, tv (ev ix) with
    | .mpb es cl, some (.map kt et), some key => match P.underlying kt with
      | some d => match delC P d kt es cl key with
        | some e' => some (.tup [], [(k, e')])
        | none => none
      | none => none
    | _, _, _ => none
  | _ => none
def cSlice (t : TypeId) (x : Operand) (lo hi mx : Option Operand) : Option Out := match ev x with
  | .sl sz k off n c => match T.get t with
    | some i => match i.elem with
      | some e => match T.get e with
        | some ei => match bndC ev lo 0, bndC ev hi n with
          | some l, some h => if sz = ei.sz then (match mx with
              | none => (slicedC ei.sz k off n c l h none).map (·, [])
              | some mx => match bndC ev (some mx) 0 with
                | some m => if hi.isSome = true then (slicedC ei.sz k off n c l h (some m)).map (·, []) else none
                | none => none) else none
          | _, _ => none
        | none => none
      | none => none
    | none => none
  | _ => (genC P ev o).map (·, [])
def cMakeSlice (t : TypeId) (x y : Operand) : Option Out := match ev x, ev y, B nk with
  | .val (.int _ l), .val (.int _ c), .un => match T.get t with
    | some i => match i.elem with
      | some e => match T.get e with
        | some ei => if 0 ≤ l ∧ l ≤ c ∧ ei.bytes * c.toNat ≤ 281474976710656 ∧ c ≤ 9223372036854775807 ∧ c.toNat * ei.sz ≤ 16777216 then
            some (.sl ei.sz nk 0 l.toNat (some c.toNat), [(nk, .row (zerosC c.toNat ei.zero))]) else none
        | none => none
      | none => none
    | none => none
  | _, _, _ => none
def cLookup (t : TypeId) (x ix : Operand) (ok : Bool) : Option Out := match ev x with
  | .mp k => match B k, P.underlying t, tv (ev ix) with
    | .mpb es cl, some (.map kt et), some key => match P.underlying kt with
      | some d => (lookC P d kt et ok es key).map (·, [])
      | none => none
    | _, _, _ => none
  | _ => (genC P ev o).map (·, [])
def cMapUpdate (t : TypeId) (x ix y : Operand) : Option Out := match ev x with
  | .mp k => match B k, P.underlying t, tv (ev ix) with
    | .mpb es cl, some (.map kt et), some key => match P.underlying kt with
      | some d => match putC P d kt es cl key (ev y) with
        | some e' => some (.val undef, [(k, e')])
        | none => none
      | none => none
    | _, _, _ => none
  | _ => none
def cRange (t : TypeId) (x : Operand) : Option Out := match ev x with
  | .mp k => match B k, P.underlying t, B nk with
    | .mpb es cl, some (.map kt et), .un => some (.ptr nk 0, [(nk, .itr k cl [] cl)])
    | _, _, _ => none
  | _ => none
def nodupB : List Nat → Bool
  | [] => true
  | x :: xs => !xs.contains x && nodupB xs
def cEntry (x : Operand) : Option Out := match ev x with
  | .ptr r 0 => match B r with
    | .itr m since seen cl => match B m with
      | .mpb es cl' => match seen.getLast? with
        | some b => match es.find? (fun e => e.2.2 == b) with
          | some e => if cl' = cl ∧ nodupB (es.map (·.2.2)) = true then pv (.tup [.val e.1, e.2.1]) else none
          | none => none
        | none => none
      | _ => none
    | _ => none
  | _ => none
def cConv (s d : TypeId) (x : Operand) : Option Out :=
  let sl (_ : Unit) : Option Out := match P.underlying s with
    | some (.slice e) => match P.underlying e, P.underlying d with
      | some (.int .u8), some .string => match srcC B 1 (ev x) with
        | some (_, cs) => match bytsC cs with
          | some ns => pv (.val (.string (bcat ns)))
          | none => match itsC cs with
            | some ns => pv (.res .u8 1003 (encL ns))
            | none => none
        | none => none
      | some (.int .u8), some (.slice _) => if s = d then (match ev x with
          | .sl _ k _ _ _ => match B k with
            | .row cs => some (ev x, [(k, .row cs)])
            | _ => none
          | _ => none) else none
      | _, _ => none
    | _ => none
  match ev x with
  | .sl .. => sl ()
  | .sle => sl ()
  | .res _ m r => (match P.underlying s, P.underlying d with
    | some _, some (.int k') => (match convR k' m with
      | some m' => pv (.res k' m' r)
      | none => none)
    | _, _ => sl ())
  | _ => (genC P ev o).map (·, [])
def cExtract (t : Operand) (i : Nat) : Option Out := match ev t with
  | .tup vs => (vs[i]?).map (·, [])
  | _ => (genC P ev o).map (·, [])
def cBin (op : BinOp) (t : TypeId) (x y : Operand) : Option Out := match nilC P op t y (ev x) with
  | some b => pv (.val (.bool b))
  | none => match cRes op (ev x) (ev y) with
    | some v => pv v
    | none => (genC P ev o).map (·, [])
def cBuiltin (b : Builtin) (args : List Operand) (tys : List TypeId) : Option Out := match b, args, tys with
  | .append, [x, y], [t, t2] => cAppend P T nk ev B t t2 x y
  | .copy, [x, y], t :: _ => cCopy T ev B t x y
  | .delete, [x, y], t :: _ => cDelete P ev B t x y
  | .cap, [x], [t] => (cCap T ev t x).or ((genC P ev o).map (·, []))
  | .len, [x], [t] => (cLen T ev t x).or ((genC P ev o).map (·, []))
  | .append, _, _ => none
  | _, _, _ => (genC P ev o).map (·, [])

/-- What an operation makes, no Go function called. -/
def cop : Option Out := match o.op with
  | .move x => pv (ev x)
  | .assign x => pv (ev x)
  | .pick c x y => cPick ev c x y
  | .alloc t => cAlloc T nk B t
  | .box _ x => cBox nk ev B x
  | .build t parts => cBuild T ev t parts
  | .buildSlice t n parts => cBuildSlice T nk ev B t n parts
  | .load t x => cLoad T ev B t x
  | .store t x y => cStore T ev B t x y
  | .nilCheck x => cNilCheck ev x
  | .binOp op t x y _ => cBin P ev o op t x y
  | .unOp _ _ _ => (genC P ev o).map (·, [])
  | .convert s d x => cConv P ev B o s d x
  | .makeFunc (.func f) first caps => pv (.fn f (first.toList.map ev) (caps.toList.map ev))
  | .makeMap _ r => (match r, B nk with
    | none, .un => some (.mp nk, [(nk, .mpb [] 0)])
    | _, _ => none)
  | .makeSlice t x y => cMakeSlice T nk ev B t x y
  | .slice t x lo hi mx => cSlice P T ev o t x lo hi mx
  | .fieldAddr s x f => cFieldAddr T ev s x f
  | .field s x f => cField T ev s x f
  | .indexAddr t x ix => (cIndex T ev t x ix).or (cIndexA P T ev t x ix)
  | .index _ _ _ => (genC P ev o).map (·, [])
  | .lookup t x ix ok => cLookup P ev B o t x ix ok
  | .mapUpdate t x ix y => cMapUpdate P ev B t x ix y
  | .range t x => cRange P nk ev B t x
  | .entry x => cEntry ev B x
  | .extract t i => cExtract P ev o t i
  | .call c => (match c.callee with
    | .builtin b => cBuiltin P T nk ev B o b c.args.toList c.argTypes.toList
    | _ => none)
  | _ => none
end
end Go.Proofs.YtmnpjaglgalobaaGreatW.C

/-
  A canonical executor: what the dispatcher says is what operations do. Laws over any program; no condition.
-/
namespace Go.Proofs.YtmnpjaglgalobaaGreatW.C
open Go Go.RowKit
open Go.Proofs.YtmnpjaglgalobaaGreatW.E (upd upd_same upd_ne upd_comm splice bcat)
set_option linter.unusedVariables false
set_option linter.unusedSimpArgs false

/-- Boxes of which some may be hidden. -/
def Sub (B1 B : Nat → Ent) : Prop := ∀ k, B1 k ≠ .dead → B k = B1 k
theorem Sub.row {B1 B : Nat → Ent} (h : Sub B1 B) {k : Nat} {cs : List CV} (hk : B1 k = .row cs) : B k = .row cs := by rw [h k (by rw [hk]; simp), hk]
theorem Sub.un {B1 B : Nat → Ent} (h : Sub B1 B) {k : Nat} (hk : B1 k = .un) : B k = .un := by rw [h k (by rw [hk]; simp), hk]
theorem Sub.mpb {B1 B : Nat → Ent} (h : Sub B1 B) {k : Nat} {es : List (Value × CV × Nat)} {cl : Nat} (hk : B1 k = .mpb es cl) : B k = .mpb es cl := by rw [h k (by rw [hk]; simp), hk]
theorem Sub.itr {B1 B : Nat → Ent} (h : Sub B1 B) {k m s c : Nat} {l : List Nat} (hk : B1 k = .itr m s l c) : B k = .itr m s l c := by rw [h k (by rw [hk]; simp), hk]
theorem Sub.src {B1 B : Nat → Ent} (h : Sub B1 B) {sz : Nat} {a : CV} {r : Nat × List CV} (hk : srcC B1 sz a = some r) : srcC B sz a = some r := by
  unfold srcC at hk ⊢
  split at hk
  · rename_i sz' k off n c
    split at hk
    · rename_i cs hcs
      simp only [h.row hcs]
      exact hk
    · cases hk
  · exact hk
  · exact hk
  · exact hk
  · cases hk

section
variable {P : Program} {T : CTab} {nk : Nat} {B : Nat → Ent} {base : Nat → Prop} {w0 : World} {st : St} {o : Oper} {v : CV} {wr : List (Nat × Ent)}

theorem gen_ok (h : (genC P (evalC st) o).map (·, []) = some (v, wr)) : Does P base w0 st o ⟨v, ovl wr⟩ := by
  obtain ⟨u, hu, h⟩ := Option.map_eq_some_iff.1 h
  cases h
  exact does_gen hu
theorem cPick_ok {c x y : Operand} (ho : o.op = .pick c x y) (h : cPick (evalC st) c x y = some (v, wr)) : Does P base w0 st o ⟨v, ovl wr⟩ := by
  unfold cPick at h
  split at h
  · rename_i t ht
    cases h
    exact does_pick ho ht
  · cases h
theorem cAlloc_ok (hT : T.OK P) (hs : Sub B st.B) {t : TypeId} (ho : o.op = .alloc t) (h : cAlloc T nk B t = some (v, wr)) : Does P base w0 st o ⟨v, ovl wr⟩ := by
  unfold cAlloc at h
  split at h
  · rename_i i hi hk
    cases h
    rw [ovl_1]
    exact does_alloc ho (hs.un hk) (mkC_ok (hT _ _ hi))
  · cases h
theorem cBox_ok (hs : Sub B st.B) {t : TypeId} {x : Operand} (ho : o.op = .box t x) (h : cBox nk (evalC st) B x = some (v, wr)) : Does P base w0 st o ⟨v, ovl wr⟩ := by
  unfold cBox at h
  split at h
  · rename_i hk
    split at h
    · rename_i hc
      cases h
      rw [ovl_1]
      exact does_box ho (hs.un hk) hc
    · cases h
  · cases h
theorem cBuild_ok (hT : T.OK P) {t : TypeId} {parts : Array (Nat × Operand)} (ho : o.op = .build t parts) (h : cBuild T (evalC st) t parts = some (v, wr)) : Does P base w0 st o ⟨v, ovl wr⟩ := by
  unfold cBuild at h
  split at h
  · rename_i i hi
    split at h
    · rename_i hc
      split at h
      · rename_i out hout
        cases h
        exact does_build ho (mkC_ok (hT _ _ hi)) (by intro e; rw [e] at hc; simp at hc) hout hc.2
      · cases h
    · cases h
  · cases h
theorem cBuildSlice_ok (hT : T.OK P) (hs : Sub B st.B) {t : TypeId} {n : Nat} {parts : Array (Nat × Operand)} (ho : o.op = .buildSlice t n parts) (h : cBuildSlice T nk (evalC st) B t n parts = some (v, wr)) : Does P base w0 st o ⟨v, ovl wr⟩ := by
  unfold cBuildSlice at h
  split at h
  · rename_i i hi hk
    split at h
    · rename_i e he
      split at h
      · rename_i ei hei
        split at h
        · rename_i hc
          cases h
          rw [ovl_1]
          exact does_buildSlice ho (mkC_ok (hT _ _ hi)) he (mkC_ok (hT _ _ hei)) hc.1 (fun p hp => by
            have := List.all_eq_true.1 hc.2.1 p hp
            simpa using this) hc.2.2 (hs.un hk)
        · cases h
      · cases h
    · cases h
  · cases h
theorem cLoad_ok (hT : T.OK P) (hs : Sub B st.B) {t : TypeId} {x : Operand} (ho : o.op = .load t x) (h : cLoad T (evalC st) B t x = some (v, wr)) : Does P base w0 st o ⟨v, ovl wr⟩ := by
  unfold cLoad at h
  split at h
  · rename_i k off hx
    split at h
    · rename_i cs i hk hi
      split at h
      · rename_i u hu
        cases h
        exact does_load ho hx (hs.row hk) (mkC_ok (hT _ _ hi)) hu
      · cases h
    · cases h
  · cases h
theorem cStore_ok (hT : T.OK P) (hs : Sub B st.B) {t : TypeId} {x y : Operand} (ho : o.op = .store t x y) (h : cStore T (evalC st) B t x y = some (v, wr)) : Does P base w0 st o ⟨v, ovl wr⟩ := by
  unfold cStore at h
  split at h
  · rename_i k off hx
    split at h
    · rename_i cs i hk hi
      split at h
      · rename_i hc
        cases h
        rw [ovl_1]
        exact does_store ho hx (hs.row hk) (mkC_ok (hT _ _ hi)) hc.1 hc.2.1 hc.2.2
      · cases h
    · cases h
  · cases h
theorem cNilCheck_ok {x : Operand} (ho : o.op = .nilCheck x) (h : cNilCheck (evalC st) x = some (v, wr)) : Does P base w0 st o ⟨v, ovl wr⟩ := by
  unfold cNilCheck at h
  split at h
  · rename_i k off hx
    cases h
    exact does_nilCheck ho hx trivial
  · rename_i f first caps hx
    cases h
    exact does_nilCheck ho hx trivial
  · cases h
theorem cFieldAddr_ok (hT : T.OK P) {s : TypeId} {x : Operand} {f : Nat} (ho : o.op = .fieldAddr s x f) (h : cFieldAddr T (evalC st) s x f = some (v, wr)) : Does P base w0 st o ⟨v, ovl wr⟩ := by
  unfold cFieldAddr at h
  split at h
  · rename_i k off hx
    split at h
    · rename_i i hi
      split at h
      · rename_i o' sz ag hf
        split at h
        · cases h
        · rename_i hne
          cases h
          exact does_fieldAddr ho (mkC_ok (hT _ _ hi)) hf hne hx
      · cases h
    · cases h
  · cases h
theorem cField_ok (hT : T.OK P) {s : TypeId} {x : Operand} {f : Nat} (ho : o.op = .field s x f) (h : cField T (evalC st) s x f = some (v, wr)) : Does P base w0 st o ⟨v, ovl wr⟩ := by
  unfold cField at h
  split at h
  · rename_i cs hx
    split at h
    · rename_i i hi
      split at h
      · rename_i o' sz hf
        split at h
        · rename_i u hu
          cases h
          exact does_field ho (mkC_ok (hT _ _ hi)) hf hx hu
        · cases h
      · cases h
    · cases h
  · cases h
theorem cIndex_ok (hT : T.OK P) {t : TypeId} {x ix : Operand} (ho : o.op = .indexAddr t x ix) (h : cIndex T (evalC st) t x ix = some (v, wr)) : Does P base w0 st o ⟨v, ovl wr⟩ := by
  unfold cIndex at h
  split at h
  · rename_i sz k off n c kd j hx hix
    split at h
    · rename_i i hi
      split at h
      · rename_i e he
        split at h
        · rename_i ei hei
          split at h
          · rename_i hc
            obtain ⟨h1, h2, h3⟩ := hc
            subst h1
            cases h
            exact does_index ho (mkC_ok (hT _ _ hi)) he (mkC_ok (hT _ _ hei)) hx hix h2 h3
          · cases h
        · cases h
      · cases h
    · cases h
  · cases h
theorem cIndexA_ok (hT : T.OK P) {t : TypeId} {x ix : Operand} (ho : o.op = .indexAddr t x ix) (h : cIndexA P T (evalC st) t x ix = some (v, wr)) : Does P base w0 st o ⟨v, ovl wr⟩ := by
  unfold cIndexA at h
  split at h
  · rename_i k off kd j hx hix
    split at h
    · rename_i len e hu
      split at h
      · rename_i ei hei
        split at h
        · rename_i hc
          cases h
          exact does_indexA ho hu (mkC_ok (hT _ _ hei)) hx hix hc.1 hc.2
        · cases h
      · cases h
    · cases h
  · cases h
theorem cLen_ok (hT : T.OK P) {c : Call} (ho : o.op = .call c) (hc : c.callee = .builtin .len) {t : TypeId} {x : Operand} (ha : c.args.toList = [x]) (ht : c.argTypes.toList = [t]) (h : cLen T (evalC st) t x = some (v, wr)) : Does P base w0 st o ⟨v, ovl wr⟩ := by
  have ha' : c.args = #[x] := by apply Array.ext'; simpa using ha
  have ht' : c.argTypes = #[t] := by apply Array.ext'; simpa using ht
  unfold cLen at h
  split at h
  · rename_i sz k off n cp hx
    split at h
    · rename_i i hi
      split at h
      · rename_i he
        obtain ⟨e, he⟩ := Option.isSome_iff_exists.1 he
        cases h
        exact does_len ho hc ha' ht' (mkC_ok (hT _ _ hi)) he hx
      · cases h
    · cases h
  · rename_i hx
    split at h
    · rename_i i hi
      split at h
      · rename_i he
        obtain ⟨e, he⟩ := Option.isSome_iff_exists.1 he
        cases h
        exact does_len0 ho hc ha' ht' (mkC_ok (hT _ _ hi)) he hx
      · cases h
    · cases h
  · rename_i k m r hx
    split at h
    · rename_i i hi
      split at h
      · rename_i he
        obtain ⟨e, he⟩ := Option.isSome_iff_exists.1 he
        split at h
        · rename_i hm
          subst hm
          cases h
          exact does_lenR ho hc ha' ht' (mkC_ok (hT _ _ hi)) he hx
        · split at h
          · rename_i hm
            subst hm
            cases h
            exact does_lenL ho hc ha' ht' (mkC_ok (hT _ _ hi)) he hx
          · cases h
      · cases h
    · cases h
  · cases h
theorem cCap_ok (hT : T.OK P) {c : Call} (ho : o.op = .call c) (hc : c.callee = .builtin .cap) {t : TypeId} {x : Operand} (ha : c.args.toList = [x]) (ht : c.argTypes.toList = [t]) (h : cCap T (evalC st) t x = some (v, wr)) : Does P base w0 st o ⟨v, ovl wr⟩ := by
  have ha' : c.args = #[x] := by apply Array.ext'; simpa using ha
  have ht' : c.argTypes = #[t] := by apply Array.ext'; simpa using ht
  unfold cCap at h
  split at h
  · rename_i sz k off n cp hx
    split at h
    · rename_i i hi
      split at h
      · rename_i he
        obtain ⟨e, he⟩ := Option.isSome_iff_exists.1 he
        cases h
        exact does_cap ho hc ha' ht' (mkC_ok (hT _ _ hi)) he hx
      · cases h
    · cases h
  · cases h
theorem appC_ok (hs : Sub B st.B) {c : Call} (ho : o.op = .call c) (hc : c.callee = .builtin .append) {x y : Operand} (ha : c.args.toList = [x, y]) {t e : TypeId} (ht : c.argTypes.toList = [t, t]) {i ei : CInfo} (hi : COK P t i) (he : i.elem = some e) (hei : COK P e ei)
    {m : Nat} {news : List CV} (hy : srcC B ei.sz (evalC st y) = some (m, news)) (h : appC nk B ei (evalC st x) m news = some (v, wr)) : Does P base w0 st o ⟨v, ovl wr⟩ := by
  have ha' : c.args = #[x, y] := by apply Array.ext'; simpa using ha
  have ht' : c.argTypes = #[t, t] := by apply Array.ext'; simpa using ht
  have hy' := hs.src hy
  unfold appC at h
  split at h
  · rename_i hm
    subst hm
    split at h
    · rename_i hsl
      cases h
      exact does_append0 ho hc ha' ht' hi he hei hsl hy'
    · cases h
  · split at h
    · rename_i hby
      split at h
      · rename_i c0 hcap
        split at h
        · rename_i n olds hx
          split at h
          · rename_i hg
            split at h
            · rename_i hfit
              split at h
              · rename_i hk
                cases h
                rw [ovl_1]
                exact does_appendG ho hc ha' ht' hi he hei (hs.src hx) hy' hcap hg hfit hby (hs.un hk)
              · cases h
            · cases h
          · split at h
            · rename_i sz k off n' c1 hxv
              split at h
              · rename_i row hk
                split at h
                · rename_i hcc
                  obtain ⟨h1, h2, h3⟩ := hcc
                  subst h1
                  cases h
                  rw [ovl_1]
                  exact does_appendR ho hc ha' ht' hi he hei hxv (hs.row hk) h2 hy' h3
                · cases h
              · cases h
            · cases h
        · cases h
      · split at h
        · rename_i sz k off n hxv
          split at h
          · rename_i row hk
            split at h
            · rename_i hcc
              obtain ⟨h1, h2, h3⟩ := hcc
              subst h1
              cases h
              rw [ovl_1]
              exact does_appendL ho hc ha' ht' hi he hei h2 hxv (hs.row hk) hy' h3
            · split at h
              · rename_i hcc
                obtain ⟨h1, h2, h3, h4⟩ := hcc
                subst h1; subst h2
                split at h
                · rename_i hk2
                  cases h
                  rw [ovl_2]
                  exact does_appendU ho hc ha' ht' hi he hei hxv (hs.row hk) h3 hy' h4 hby (hs.un hk2)
                · cases h
              · cases h
          · cases h
        · cases h
    · cases h
theorem cAppend_ok (hT : T.OK P) (hs : Sub B st.B) {c : Call} (ho : o.op = .call c) (hc : c.callee = .builtin .append) {x y : Operand} (ha : c.args.toList = [x, y]) {t t2 : TypeId} (ht : c.argTypes.toList = [t, t2]) (h : cAppend P T nk (evalC st) B t t2 x y = some (v, wr)) : Does P base w0 st o ⟨v, ovl wr⟩ := by
  unfold cAppend at h
  split at h
  · rename_i i hi
    split at h
    · rename_i e he
      split at h
      · rename_i ei hei
        split at h
        · rename_i h2
          subst h2
          split at h
          · rename_i m news hy
            exact appC_ok hs ho hc ha ht (mkC_ok (hT _ _ hi)) he (mkC_ok (hT _ _ hei)) hy h
          · cases h
        · split at h
          · rename_i kd j c0 n olds hti hy hcap hx hk
            split at h
            · rename_i hcc
              obtain ⟨h1, h2, h3, h4, h5⟩ := hcc
              cases h
              rw [ovl_1]
              have hj : (j.toNat : Int) = j := Int.toNat_of_nonneg (by omega)
              exact does_appendN ho hc (by apply Array.ext'; simpa using ha) (by apply Array.ext'; simpa using ht) (mkC_ok (hT _ _ hi)) he (mkC_ok (hT _ _ hei)) hti (hs.src hx) (by rw [hy, hj]) hcap h2 (by omega) h3 h5 h4 (hs.un hk)
            · cases h
          · cases h
      · cases h
    · cases h
  · cases h
theorem cCopy_ok (hT : T.OK P) (hs : Sub B st.B) {c : Call} (ho : o.op = .call c) (hc : c.callee = .builtin .copy) {x y : Operand} (ha : c.args.toList = [x, y]) {t : TypeId} {ts : List TypeId} (ht : c.argTypes.toList = t :: ts) (h : cCopy T (evalC st) B t x y = some (v, wr)) : Does P base w0 st o ⟨v, ovl wr⟩ := by
  unfold cCopy at h
  split at h
  · rename_i i hi
    split at h
    · rename_i e he
      split at h
      · rename_i ei hei
        split at h
        · rename_i sz k off n cp hx
          split at h
          · rename_i row m cs hk hy
            split at h
            · rename_i hcc
              obtain ⟨h1, h2⟩ := hcc
              subst h1
              cases h
              rw [ovl_1]
              exact does_copy ho hc (by apply Array.ext'; simpa using ha) ht (mkC_ok (hT _ _ hi)) he (mkC_ok (hT _ _ hei)) hx (hs.row hk) h2 (hs.src hy)
            · cases h
          · cases h
        · cases h
      · cases h
    · cases h
  · cases h
theorem cDelete_ok (hs : Sub B st.B) {c : Call} (ho : o.op = .call c) (hc : c.callee = .builtin .delete) {x y : Operand} (ha : c.args.toList = [x, y]) {t : TypeId} {ts : List TypeId} (ht : c.argTypes.toList = t :: ts) (h : cDelete P (evalC st) B t x y = some (v, wr)) : Does P base w0 st o ⟨v, ovl wr⟩ := by
  unfold cDelete at h
  split at h
  · rename_i k hx
    split at h
    · rename_i es cl kt et key hk hu hkey
      split at h
      · rename_i d hd
        split at h
        · rename_i e' he'
          cases h
          rw [ovl_1]
          exact does_delete ho hc (by apply Array.ext'; simpa using ha) ht hu hd hx (hs.mpb hk) hkey he'
        · cases h
      · cases h
    · cases h
  · cases h
end
end Go.Proofs.YtmnpjaglgalobaaGreatW.C

/-
  A canonical executor: what the dispatcher says is what operations do (the rest). Laws over any program; no condition.
-/
namespace Go.Proofs.YtmnpjaglgalobaaGreatW.C
open Go Go.RowKit
open Go.Proofs.YtmnpjaglgalobaaGreatW.E (upd upd_same upd_ne upd_comm splice bcat)
set_option linter.unusedVariables false
set_option linter.unusedSimpArgs false

theorem nodupB_ok : ∀ {l : List Nat}, nodupB l = true → l.Nodup
  | [], _ => List.nodup_nil
  | x :: xs, h => by
    simp only [nodupB, Bool.and_eq_true, Bool.not_eq_true'] at h
    refine List.nodup_cons.2 ⟨fun hm => ?_, nodupB_ok h.2⟩
    have : xs.contains x = true := by simpa using hm
    rw [this] at h
    cases h.1

section
variable {P : Program} {T : CTab} {nk : Nat} {B : Nat → Ent} {base : Nat → Prop} {w0 : World} {st : St} {o : Oper} {v : CV} {wr : List (Nat × Ent)}

theorem cSlice_ok (hT : T.OK P) {t : TypeId} {x : Operand} {lo hi mx : Option Operand} (ho : o.op = .slice t x lo hi mx) (h : cSlice P T (evalC st) o t x lo hi mx = some (v, wr)) : Does P base w0 st o ⟨v, ovl wr⟩ := by
  unfold cSlice at h
  split at h
  · rename_i sz k off n c hx
    split at h
    · rename_i i hi'
      split at h
      · rename_i e he
        split at h
        · rename_i ei hei
          split at h
          · rename_i l hh hl hhh
            split at h
            · rename_i hsz
              subst hsz
              split at h
              · obtain ⟨u, hu, h⟩ := Option.map_eq_some_iff.1 h
                cases h
                exact does_slice ho (mkC_ok (hT _ _ hi')) he (mkC_ok (hT _ _ hei)) hx hl hhh (m := none) rfl (by simp) hu
              · rename_i mx
                split at h
                · rename_i m hm
                  split at h
                  · rename_i hsm
                    obtain ⟨u, hu, h⟩ := Option.map_eq_some_iff.1 h
                    cases h
                    exact does_slice ho (mkC_ok (hT _ _ hi')) he (mkC_ok (hT _ _ hei)) hx hl hhh (m := some m) ⟨rfl, hm⟩ (fun _ => hsm) hu
                  · cases h
                · cases h
            · cases h
          · cases h
        · cases h
      · cases h
    · cases h
  · exact gen_ok h
theorem cMakeSlice_ok (hT : T.OK P) (hs : Sub B st.B) {t : TypeId} {x y : Operand} (ho : o.op = .makeSlice t x y) (h : cMakeSlice T nk (evalC st) B t x y = some (v, wr)) : Does P base w0 st o ⟨v, ovl wr⟩ := by
  unfold cMakeSlice at h
  split at h
  · rename_i kl l kc c hx hy hk
    split at h
    · rename_i i hi
      split at h
      · rename_i e he
        split at h
        · rename_i ei hei
          split at h
          · rename_i hc
            obtain ⟨h1, h2, h3, h4, h5⟩ := hc
            cases h
            rw [ovl_1]
            have hl : (l.toNat : Int) = l := Int.toNat_of_nonneg h1
            have hcc : (c.toNat : Int) = c := Int.toNat_of_nonneg (by omega)
            exact does_makeSlice ho (mkC_ok (hT _ _ hi)) he (mkC_ok (hT _ _ hei)) (kl := kl) (kc := kc) (by rw [hx, hl]) (by rw [hy, hcc]) (by omega) h3 (by omega) h5 (hs.un hk)
          · cases h
        · cases h
      · cases h
    · cases h
  · cases h
theorem cLookup_ok (hs : Sub B st.B) {t : TypeId} {x ix : Operand} {ok : Bool} (ho : o.op = .lookup t x ix ok) (h : cLookup P (evalC st) B o t x ix ok = some (v, wr)) : Does P base w0 st o ⟨v, ovl wr⟩ := by
  unfold cLookup at h
  split at h
  · rename_i k hx
    split at h
    · rename_i es cl kt et key hk hu hkey
      split at h
      · rename_i d hd
        obtain ⟨u, hu', h⟩ := Option.map_eq_some_iff.1 h
        cases h
        exact does_lookup ho hu hd hx (hs.mpb hk) hkey hu'
      · cases h
    · cases h
  · exact gen_ok h
theorem cMapUpdate_ok (hs : Sub B st.B) {t : TypeId} {x ix y : Operand} (ho : o.op = .mapUpdate t x ix y) (h : cMapUpdate P (evalC st) B t x ix y = some (v, wr)) : Does P base w0 st o ⟨v, ovl wr⟩ := by
  unfold cMapUpdate at h
  split at h
  · rename_i k hx
    split at h
    · rename_i es cl kt et key hk hu hkey
      split at h
      · rename_i d hd
        split at h
        · rename_i e' he'
          cases h
          rw [ovl_1]
          exact does_mapUpdate ho hu hd hx (hs.mpb hk) hkey he'
        · cases h
      · cases h
    · cases h
  · cases h
theorem cRange_ok (hs : Sub B st.B) {t : TypeId} {x : Operand} (ho : o.op = .range t x) (h : cRange P nk (evalC st) B t x = some (v, wr)) : Does P base w0 st o ⟨v, ovl wr⟩ := by
  unfold cRange at h
  split at h
  · rename_i k hx
    split at h
    · rename_i es cl kt et hk hu hk2
      cases h
      rw [ovl_1]
      exact does_range ho hu hx (hs.mpb hk) (hs.un hk2)
    · cases h
  · cases h
theorem cEntry_ok (hs : Sub B st.B) {x : Operand} (ho : o.op = .entry x) (h : cEntry (evalC st) B x = some (v, wr)) : Does P base w0 st o ⟨v, ovl wr⟩ := by
  unfold cEntry at h
  split at h
  · rename_i r hx
    split at h
    · rename_i m since seen cl hr
      split at h
      · rename_i es cl' hm
        split at h
        · rename_i b hb
          split at h
          · rename_i e he
            split at h
            · rename_i hc
              obtain ⟨h1, h2⟩ := hc
              subst h1
              cases h
              have hb2 : e.2.2 = b := by have := List.find?_some he; simpa using this
              obtain ⟨ys, hys⟩ : ∃ ys, seen = ys ++ [b] := by
                obtain ⟨ys, hys⟩ := List.getLast?_eq_some_iff.1 hb
                exact ⟨ys, hys⟩
              exact does_entry ho hx (hs.mpb hm) (List.mem_of_find?_eq_some he) (by rw [hb2, ← hys]; exact hs.itr hr) (nodupB_ok h2)
            · cases h
          · cases h
        · cases h
      · cases h
    · cases h
  · cases h
theorem cConv_ok (hs : Sub B st.B) {s d : TypeId} {x : Operand} (ho : o.op = .convert s d x) (h : cConv P (evalC st) B o s d x = some (v, wr)) : Does P base w0 st o ⟨v, ovl wr⟩ := by
  have key : (match P.underlying s with
    | some (.slice e) => match P.underlying e, P.underlying d with
      | some (.int .u8), some .string => match srcC B 1 (evalC st x) with
        | some (_, cs) => match bytsC cs with
          | some ns => pv (.val (.string (bcat ns)))
          | none => match itsC cs with
            | some ns => pv (.res .u8 1003 (encL ns))
            | none => none
        | none => none
      | some (.int .u8), some (.slice _) => if s = d then (match evalC st x with
          | .sl _ k _ _ _ => match B k with
            | .row cs => some (evalC st x, [(k, .row cs)])
            | _ => none
          | _ => none) else none
      | _, _ => none
    | _ => none) = some (v, wr) → Does P base w0 st o ⟨v, ovl wr⟩ := by
    clear h
    intro h
    split at h
    · rename_i e hs1
      split at h
      · rename_i he hd
        split at h
        · rename_i n cs hx
          split at h
          · rename_i ns hn
            cases h
            exact does_b2s ho hs1 he hd (hs.src hx) hn
          · split at h
            · rename_i ns hn
              cases h
              exact does_b2sR ho hs1 he hd (hs.src hx) hn
            · cases h
        · cases h
      · rename_i e' he hd
        split at h
        · rename_i hsd
          subst hsd
          split at h
          · rename_i sz k off n c hx
            split at h
            · rename_i cs hk
              cases h
              rw [ovl_1]
              exact does_b2b ho hs1 he hx (hs.row hk)
            · cases h
          · cases h
        · cases h
      · cases h
    · cases h
  unfold cConv at h
  simp only at h
  split at h
  · exact key h
  · exact key h
  · rename_i k m r hx
    split at h
    · rename_i ts k' hs1 hd
      split at h
      · rename_i m' hk
        cases h
        exact does_resConv ho hs1 hd hk hx
      · cases h
    · exact key h
  · exact gen_ok h
theorem cExtract_ok {t : Operand} {i : Nat} (ho : o.op = .extract t i) (h : cExtract P (evalC st) o t i = some (v, wr)) : Does P base w0 st o ⟨v, ovl wr⟩ := by
  unfold cExtract at h
  split at h
  · rename_i vs hx
    obtain ⟨u, hu, h⟩ := Option.map_eq_some_iff.1 h
    cases h
    exact does_extract ho hx hu
  · exact gen_ok h
theorem cBin_ok {op : BinOp} {t u : TypeId} {x y : Operand} (ho : o.op = .binOp op t x y u) (h : cBin P (evalC st) o op t x y = some (v, wr)) : Does P base w0 st o ⟨v, ovl wr⟩ := by
  unfold cBin at h
  split at h
  · rename_i b hb
    cases h
    exact does_nil ho hb
  · split at h
    · rename_i u hu
      cases h
      exact does_res ho hu
    · exact gen_ok h
theorem cBuiltin_ok (hT : T.OK P) (hs : Sub B st.B) {c : Call} (ho : o.op = .call c) {b : Builtin} (hc : c.callee = .builtin b) (h : cBuiltin P T nk (evalC st) B o b c.args.toList c.argTypes.toList = some (v, wr)) : Does P base w0 st o ⟨v, ovl wr⟩ := by
  generalize ha : c.args.toList = args at h
  generalize ht : c.argTypes.toList = tys at h
  unfold cBuiltin at h
  split at h
  · exact cAppend_ok hT hs ho hc ha ht h
  · exact cCopy_ok hT hs ho hc ha ht h
  · exact cDelete_ok hs ho hc ha ht h
  · rename_i x t
    rcases Option.or_eq_some_iff.1 h with h | ⟨_, h⟩
    · exact cCap_ok hT ho hc ha ht h
    · exact gen_ok h
  · rename_i x t
    rcases Option.or_eq_some_iff.1 h with h | ⟨_, h⟩
    · exact cLen_ok hT ho hc ha ht h
    · exact gen_ok h
  · cases h
  · exact gen_ok h

/-- What the dispatcher says is what the operation does. -/
theorem cop_ok (hT : T.OK P) (hs : Sub B st.B) (h : cop P T nk (evalC st) B o = some (v, wr)) : Does P base w0 st o ⟨v, ovl wr⟩ := by
  unfold cop at h
  split at h
  · rename_i x ho; cases h; exact does_move (.inl ho)
  · rename_i x ho; cases h; exact does_move (.inr ho)
  · rename_i c x y ho; exact cPick_ok ho h
  · rename_i t ho; exact cAlloc_ok hT hs ho h
  · rename_i t x ho; exact cBox_ok hs ho h
  · rename_i t parts ho; exact cBuild_ok hT ho h
  · rename_i t n parts ho; exact cBuildSlice_ok hT hs ho h
  · rename_i t x ho; exact cLoad_ok hT hs ho h
  · rename_i t x y ho; exact cStore_ok hT hs ho h
  · rename_i x ho; exact cNilCheck_ok ho h
  · rename_i op t x y u ho; exact cBin_ok ho h
  · exact gen_ok h
  · rename_i s d x ho; exact cConv_ok hs ho h
  · rename_i f first caps ho
    cases h
    exact does_makeFunc ho
  · rename_i t r ho
    split at h
    · rename_i hk
      cases h
      rw [ovl_1]
      exact does_makeMap ho (hs.un hk)
    · cases h
  · rename_i t x y ho; exact cMakeSlice_ok hT hs ho h
  · rename_i t x lo hi mx ho; exact cSlice_ok hT ho h
  · rename_i s x f ho; exact cFieldAddr_ok hT ho h
  · rename_i s x f ho; exact cField_ok hT ho h
  · rename_i t x ix ho
    rcases Option.or_eq_some_iff.1 h with h | ⟨_, h⟩
    · exact cIndex_ok hT ho h
    · exact cIndexA_ok hT ho h
  · exact gen_ok h
  · rename_i t x ix ok ho; exact cLookup_ok hs ho h
  · rename_i t x ix y ho; exact cMapUpdate_ok hs ho h
  · rename_i t x ho; exact cRange_ok hs ho h
  · rename_i x ho; exact cEntry_ok hs ho h
  · rename_i t i ho; exact cExtract_ok ho h
  · rename_i c ho
    split at h
    · rename_i b hb; exact cBuiltin_ok hT hs ho hb h
    · cases h
  · cases h
end
end Go.Proofs.YtmnpjaglgalobaaGreatW.C

/-
  A canonical executor: an operation that is known where some boxes are hidden does the same where they are not; what it does hangs on its operands and on the boxes that it sees. Laws over any program; no condition.
-/
namespace Go.Proofs.YtmnpjaglgalobaaGreatW.C
open Go Go.RowKit
open Go.Proofs.YtmnpjaglgalobaaGreatW.E (upd upd_same upd_ne upd_comm)
set_option linter.unusedVariables false
set_option linter.unusedSimpArgs false

def hide (F : Nat → Bool) (B : Nat → Ent) : Nat → Ent := fun k => if F k = true then B k else .dead

section
variable {P : Program} {o : Oper} {e : Eff}

theorem ovr_hide {F : Nat → Bool} {B : Nat → Ent} {ov : Nat → Option Ent} {k : Nat} (h : F k = true) : ovr (hide F B) ov k = ovr B ov k := by
  unfold ovr hide
  rw [if_pos h]
theorem ovr_off {B : Nat → Ent} {ov : Nat → Option Ent} {k : Nat} (h : ov k = none) : ovr B ov k = B k := by
  unfold ovr; rw [h]; rfl

/-- What is hidden is not touched. -/
theorem Does.frame {n : Nat} {s1 s : Nat → CV} {B : Nat → Ent} {F : Nat → Bool} (hD : ∀ base w0, Does P base w0 ⟨n, s1, hide F B⟩ o e) (hs1 : ∀ t, s1 t = .any ∨ s1 t = s t) (hw : ∀ k, e.ov k ≠ none → F k = true) (base : Nat → Prop) (w0 : World) : Does P base w0 ⟨n, s, B⟩ o e := by
  intro E a w hok hs hn hd K Q hK
  let Own : Nat → Prop := fun b => ∃ k, F k = true ∧ (B k).live = true ∧ E.bm k = some b
  have hvis : ∀ k, (hide F B k).live = true → F k = true ∧ (B k).live = true := fun k hk => by
    unfold hide at hk
    split at hk
    · rename_i h; exact ⟨h, hk⟩
    · cases hk
  have hown : ∀ b, Own b → base b ∨ w0.heap.size ≤ b := fun b ⟨k, _, h2, h3⟩ => by
    obtain ⟨b', h4, h5, _⟩ := hok.box k h2
    rw [h3] at h4; cases h4
    exact h5
  have hok1 : OK Own w E (hide F B) w := by
    refine ⟨Keep.refl _ _, fun k hk => ?_, fun k hk => ?_, fun k k' b hne hk hk' => hok.inj k k' b hne (hvis k hk).2 (hvis k' hk').2, hok.src.inner hok.below hown⟩
    · unfold hide at hk
      split at hk
      · exact hok.un k hk
      · cases hk
    · obtain ⟨h1, h2⟩ := hvis k hk
      obtain ⟨b, h3, _, h4⟩ := hok.box k h2
      refine ⟨b, h3, .inl ⟨k, h1, h2, h3⟩, ?_⟩
      unfold hide
      rw [if_pos h1]
      exact h4
  have hs' : ∀ t, RV E (s1 t) (a.tmps.getD t undef) := fun t => by
    rcases hs1 t with h | h
    · rw [h]; exact .any _
    · rw [h]; exact hs t
  refine hD Own w E a w hok1 hs' hn hd K Q (fun v w' E' hle hbm0 hok' hv => ?_)
  have hoff0 : ∀ k, ¬ F k = true → E'.bm k = E.bm k := fun k hk => hbm0 k (by show hide F B k = _; unfold hide; rw [if_neg hk]) (by
    cases h : e.ov k with
    | none => rfl
    | some x => exact absurd (hw k (by rw [h]; simp)) hk)
  refine hK v w' E' hle (fun k hk1 hk2 => ?_) ?_ hv
  · by_cases hF : F k = true
    · exact hbm0 k (by show hide F B k = _; unfold hide; rw [if_pos hF]; exact hk1) hk2
    · exact hoff0 k hF
  have hB' : ∀ k, F k = true → (St.app ⟨n, s1, hide F B⟩ o.dst e).B k = (St.app ⟨n, s, B⟩ o.dst e).B k := fun k hk => ovr_hide hk
  have hoff : ∀ k, ¬ F k = true → e.ov k = none := fun k hk => by
    cases h : e.ov k with
    | none => rfl
    | some x => exact absurd (hw k (by rw [h]; simp)) hk
  have hBoff : ∀ k, ¬ F k = true → (St.app ⟨n, s, B⟩ o.dst e).B k = B k := fun k hk => ovr_off (hoff k hk)
  -- what is hidden: where it lies
  have hhid : ∀ k, ¬ F k = true → (B k).live = true → ∃ b, E.bm k = some b ∧ E'.bm k = some b ∧ (base b ∨ w0.heap.size ≤ b) ∧ BoxAt E w b (E.Z k) (B k) ∧ b < w.heap.size ∧ ¬ Own b := fun k hk hl => by
    obtain ⟨b, h1, h2, h3⟩ := hok.box k hl
    refine ⟨b, h1, (hle.1 k b h1).1, h2, h3, h3.lt hl, fun ⟨k', g1, g2, g3⟩ => ?_⟩
    have hne : k ≠ k' := fun e => hk (e ▸ g1)
    exact hok.inj k k' b hne hl g2 h1 g3
  refine ⟨⟨hok'.below.os.trans hok.below.os, hok'.below.tape.trans hok.below.tape, hok'.below.output.trans hok.below.output, Nat.le_trans hok.below.size hok'.below.size, fun j hj hnb => ?_⟩, fun k hk => ?_, fun k hk => ?_, fun k k' b hne hk hk' hb => ?_, by rw [hle.2]; exact hok.src⟩
  · rw [hok'.below.block j (Nat.lt_of_lt_of_le hj hok.below.size) (fun h => by rcases hown j h with h | h; exact hnb h; omega)]
    exact hok.below.block j hj hnb
  · by_cases hF : F k = true
    · exact hok'.un k ((hB' k hF).trans hk)
    · rw [hBoff k hF] at hk
      rw [hoff0 k hF]
      exact hok.un k hk
  · by_cases hF : F k = true
    · rw [← hB' k hF] at hk ⊢
      obtain ⟨b, h1, h2, h3⟩ := hok'.box k hk
      refine ⟨b, h1, ?_, h3⟩
      rcases h2 with h2 | h2
      · exact hown b h2
      · exact .inr (Nat.le_trans hok.below.size h2)
    · rw [hBoff k hF] at hk ⊢
      obtain ⟨b, h1, h2, h3, h4, h5, h6⟩ := hhid k hF hk
      refine ⟨b, h2, h3, ?_⟩
      rw [(hle.1 k b h1).2]
      exact h4.mono hle (hok'.below.block b h5 h6)
  · by_cases hF : F k = true
    · by_cases hF' : F k' = true
      · exact hok'.inj k k' b hne (by rw [hB' k hF]; exact hk) (by rw [hB' k' hF']; exact hk') hb
      · intro hb'
        rw [hBoff k' hF'] at hk'
        obtain ⟨b2, g1, g2, _, _, g5, g6⟩ := hhid k' hF' hk'
        rw [hb'] at g2; cases g2
        obtain ⟨b3, q1, q2, _⟩ := hok'.box k (by rw [hB' k hF]; exact hk)
        rw [hb] at q1; cases q1
        rcases q2 with q2 | q2
        · exact g6 q2
        · omega
    · rw [hBoff k hF] at hk
      obtain ⟨b2, g1, g2, _, _, g5, g6⟩ := hhid k hF hk
      rw [hb] at g2; cases g2
      intro hb'
      by_cases hF' : F k' = true
      · obtain ⟨b3, q1, q2, _⟩ := hok'.box k' (by rw [hB' k' hF']; exact hk')
        rw [hb'] at q1; cases q1
        rcases q2 with q2 | q2
        · exact g6 q2
        · omega
      · rw [hBoff k' hF'] at hk'
        obtain ⟨b3, q1, q2, _⟩ := hhid k' hF' hk'
        rw [hb'] at q2; cases q2
        exact hok.inj k k' b hne hk hk' g1 q1

/-- The state as an operation sees it. -/
def named (o : Oper) (t : Nat) : Bool := o.op.operands.any fun x => match x with | .tmp u => u == t | _ => false
def mskS (o : Oper) (F : Nat → Bool) (st : St) : St := ⟨st.n, fun t => if named o t = true then st.s t else .any, hide F st.B⟩
theorem named_mem {t : Nat} : named o t = true ↔ (.tmp t : Operand) ∈ o.op.operands := by
  unfold named
  rw [Array.any_eq_true]
  constructor
  · rintro ⟨i, hi, h⟩
    split at h
    · rename_i u hu
      have : u = t := by simpa using h
      subst this
      rw [← hu]
      exact Array.getElem_mem hi
    · cases h
  · intro h
    obtain ⟨i, hi, h2⟩ := Array.mem_iff_getElem.1 h
    exact ⟨i, hi, by rw [h2]; simp⟩

/-- Said of the operation whatever the state but for its operands and what lies under the keys F. -/
def EffL (P : Program) (o : Oper) (st : St) (e : Eff) (F : Nat → Bool) : Prop :=
  ∀ st', st'.n = st.n → (∀ x ∈ o.op.operands, evalC st' x = evalC st x) → (∀ k, F k = true → st'.B k = st.B k) → ∀ base w0, Does P base w0 st' o e
theorem EffL.of {st : St} {F : Nat → Bool} (h : ∀ base w0, Does P base w0 (mskS o F st) o e) (hw : ∀ k, e.ov k ≠ none → F k = true) : EffL P o st e F := by
  intro st' hn hx hB
  have heq : mskS o F st' = mskS o F st := by
    unfold mskS
    rw [hn]
    congr 1
    · funext t
      by_cases ht : named o t = true
      · rw [if_pos ht, if_pos ht]
        exact hx (.tmp t) (named_mem.1 ht)
      · rw [if_neg ht, if_neg ht]
    · funext k
      unfold hide
      by_cases hk : F k = true
      · rw [if_pos hk, if_pos hk, hB k hk]
      · rw [if_neg hk, if_neg hk]
  rw [← heq] at h
  obtain ⟨n', s', B'⟩ := st'
  exact Does.frame h (fun t => by
    by_cases ht : named o t = true
    · right; simp [ht]
    · left; simp [ht]) hw
theorem EffL.congr {st st' : St} {F : Nat → Bool} (h : EffL P o st e F) (hn : st'.n = st.n) (hx : ∀ x ∈ o.op.operands, evalC st' x = evalC st x) (hB : ∀ k, F k = true → st'.B k = st.B k) : EffL P o st' e F :=
  fun st2 hn2 hx2 hB2 => h st2 (hn2.trans hn) (fun x hxm => (hx2 x hxm).trans (hx x hxm)) (fun k hk => (hB2 k hk).trans (hB k hk))
theorem EffL.does {st : St} {F : Nat → Bool} (h : EffL P o st e F) (base : Nat → Prop) (w0 : World) : Does P base w0 st o e := h st rfl (fun _ _ => rfl) (fun _ _ => rfl) base w0
end
end Go.Proofs.YtmnpjaglgalobaaGreatW.C
