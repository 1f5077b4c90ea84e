/-
  What the row gives reads as abstract data, by its type alone; what the walk tells is what the row wants. Over any program; conditions: each slice within the form's own reach.
-/
import Derived.Deep.Slices
import Derived.SizedLaws
import Derived.ChangeArms
import Derived.Test.YtfgndnackofenaaEM1
namespace Go.Proofs.YtfgndnackofenaaW.E
open Go Go.RowKit Go.ChangeShapes Go.WideShapes
set_option linter.unusedVariables false
set_option linter.unusedSimpArgs false

theorem calls_true {P : Program} {f : FuncId} {args : List AV} {vs : Array Value} {w : World} (h : ACall P f args (bo true)) (hl : args.length = vs.size) (ha : ∀ (i : Nat) a v, args[i]? = some a → vs[i]? = some v → RD (CellsOf w) w a v) :
    Calls P f vs w fun e w' => e = .returned (.bool true) ∧ Below w.heap.size w w' := by
  refine (h.2 (CellsOf w) w vs (fun _ _ h => h) hl (fun i a v h1 h2 => .data _ _ (ha i a v h1 h2))).mono fun e w' ⟨v, he, hb, N, hN, hr⟩ => ?_
  rcases hr with hr | ⟨sz, xs, A, n, c, hr, _⟩
  · cases hr
    exact ⟨he, hb⟩
  · cases hr

def Small {H : Type} (P : Program) (t : TypeId) (d : DataW H) : Prop := ∀ n ∈ d.weights P t, n ≤ reachBytes

/-- Cells read as told. -/
def RDs (w : World) (as : List AV) (cs : List Value) : Prop := as.length = cs.length ∧ (∀ u ∈ cs, u.oneCell' = true) ∧ ∀ (i : Nat) c v, as[i]? = some c → cs[i]? = some v → RD (CellsOf w) w c v

theorem RDs.append {w : World} {as bs : List AV} {cs ds : List Value} (h : RDs w as cs) (k : RDs w bs ds) : RDs w (as ++ bs) (cs ++ ds) := by
  obtain ⟨h1, h2, h3⟩ := h
  obtain ⟨k1, k2, k3⟩ := k
  refine ⟨by simp [h1, k1], fun u hu => (List.mem_append.1 hu).elim (h2 u) (k2 u), fun i c v hc hv => ?_⟩
  by_cases hi : i < as.length
  · rw [List.getElem?_append_left hi] at hc
    rw [List.getElem?_append_left (by omega)] at hv
    exact h3 i c v hc hv
  · rw [List.getElem?_append_right (by omega)] at hc
    rw [List.getElem?_append_right (by omega), ← h1] at hv
    exact k3 _ c v hc hv
theorem RDs.one {w : World} {a : AV} {v : Value} (h : RDs w [a] [v]) : RD (CellsOf w) w a v := h.2.2 0 a v rfl rfl
theorem RDs.agg {w : World} {as : List AV} {cs : Array Value} (h : RDs w as cs.toList) : RD (CellsOf w) w (.agg as) (.agg cs) :=
  .agg as cs (by simpa using h.1) (fun v hv => h.2.1 v (by simpa using hv)) (fun i c v hc hv => h.2.2 i c v hc (by simpa using hv))

/-- Whatever reads as data of type t reads as told, and W holds of it. -/
def Opn {α : Type} (P : Program) (t : TypeId) (f : α → List AV) (W : α → Prop) : Prop :=
  ∀ (H : Type) (enc : TypeId × Value → H) (w : World) (base : Nat) (spare : Nat → Bool) (held : Bool) (fuel : Nat) (cs : List Value) (x : DataW H × List MemPlace),
    DataW.trod enc P w base spare held fuel t cs = some x → Small P t x.1 → ∃ a, RDs w (f a) cs ∧ W a

theorem opn_int {P : Program} {t : TypeId} {k : IntKind} (ht : P.underlying t = some (.int k)) : Opn P t (fun n : Int => [.val (.int k n)]) (fun x => (Lit.int k x).wf = true) := by
  intro H enc w base spare held fuel cs x h _
  obtain ⟨n, rfl, _, hw⟩ := DataW.trod_int ht h
  refine ⟨n, ⟨rfl, by simp [Value.oneCell'], fun i c v hc hv => ?_⟩, hw⟩
  cases i with
  | zero => cases hc; cases hv; exact .val _
  | succ i => simp at hc
theorem opn_bool {P : Program} {t : TypeId} (ht : P.underlying t = some .bool) : Opn P t (fun b : Bool => [.val (.bool b)]) (fun _ => True) := by
  intro H enc w base spare held fuel cs x h _
  obtain ⟨b, rfl, _⟩ := DataW.trod_bool ht h
  refine ⟨b, ⟨rfl, by simp [Value.oneCell'], fun i c v hc hv => ?_⟩, trivial⟩
  cases i with
  | zero => cases hc; cases hv; exact .val _
  | succ i => simp at hc

theorem list_of {α : Type} {n : Nat} {p : Nat → α → Prop} (h : ∀ i, i < n → ∃ x, p i x) : ∃ l : List α, l.length = n ∧ ∀ i x, l[i]? = some x → p i x := by
  induction n with
  | zero => exact ⟨[], rfl, fun i x hx => by simp at hx⟩
  | succ n ih =>
    obtain ⟨l, hl, hp⟩ := ih (fun i hi => h i (Nat.lt_succ_of_lt hi))
    obtain ⟨x, hx⟩ := h n (Nat.lt_succ_self n)
    refine ⟨l ++ [x], by simp [hl], fun i y hy => ?_⟩
    rcases Nat.lt_or_ge i l.length with hi | hi
    · rw [List.getElem?_append_left hi] at hy
      exact hp i y hy
    · have hlt := (List.getElem?_eq_some_iff.1 hy).1
      rw [List.length_append, List.length_singleton] at hlt
      have hil : i = l.length := by omega
      subst hil
      have hxy : x = y := by simpa using hy
      subst hxy
      rw [hl]
      exact hx

theorem cell_sub {w : World} {a : Addr} {v : Value} (h : w.cell? a = some v) : a = ⟨a.block, a.off, none⟩ := by
  unfold World.cell? at h
  split at h
  · split at h
    · cases h
    · rename_i hn
      obtain ⟨b, o, s⟩ := a
      cases s with
      | none => rfl
      | some x => simp at hn
  · cases h

/-- Rows of values: from their cells. -/
theorem rd_rows {α : Type} {w : World} {a : Addr} {c sz : Nat} {g : α → AV} {l : List α} (hsz : 0 < sz) (hc : l.length ≤ c) (hz : ∀ x, (g x).cells.length = sz)
    (h : ∀ (i : Nat) x, l[i]? = some x → ∃ cs, RDs w (g x).cells cs ∧ ∀ (j : Nat) u, cs[j]? = some u → w.cell? (a.add (i * sz + j)) = some u) : RD (CellsOf w) w (.list sz (l.map g) .no) (.slice (some a) l.length c) := by
  have e2 : (Value.slice (some a) l.length c) = .slice (some a) (l.map g).length c := by rw [List.length_map]
  have hz' : ∀ x ∈ l.map g, x.cells.length = sz := fun x hx => by obtain ⟨y, _, rfl⟩ := List.mem_map.1 hx; exact hz y
  have hsub : l ≠ [] → a = ⟨a.block, a.off, none⟩ := fun hn => by
    cases l with
    | nil => exact absurd rfl hn
    | cons x l =>
      obtain ⟨cs, h1, h2⟩ := h 0 x rfl
      have hlen : 0 < cs.length := by rw [← h1.1, hz]; exact hsz
      have := h2 0 cs[0] (by simp [hlen])
      rw [Nat.zero_mul, Nat.add_zero] at this
      have e0 : a.add 0 = a := by simp [Addr.add]
      rw [e0] at this
      exact cell_sub this
  rw [e2]
  refine RD.list_iff.2 ⟨some a, c, a.block, a.off, rfl, by simpa using hc, fun hn => congrArg some (hsub (by simpa using hn)), hz', fun i y hy => ?_, .inl rfl⟩
  have hfl := flat_len (l.map g) hz'
  have hi : i < l.length * sz := by have := (List.getElem?_eq_some_iff.1 hy).1; rw [hfl, List.length_map] at this; exact this
  have hq : i / sz < l.length := Nat.div_lt_of_lt_mul (by rwa [Nat.mul_comm] at hi)
  have hr : i % sz < sz := Nat.mod_lt _ hsz
  have hdm : i / sz * sz + i % sz = i := by rw [Nat.mul_comm]; exact Nat.div_add_mod i sz
  obtain ⟨cs, h1, h2⟩ := h (i / sz) l[i / sz] (by simp [hq])
  have hrl : i % sz < cs.length := by rw [← h1.1, hz]; exact hr
  have hrl' : i % sz < (g l[i / sz]).cells.length := by rw [hz]; exact hr
  have hcell := h2 (i % sz) cs[i % sz] (by simp [hrl])
  have hget := flat_get (l.map g) hz' (i / sz) (g l[i / sz]) (by simp [hq]) (i % sz) (g l[i / sz]).cells[i % sz] (by simp [hrl'])
  rw [hdm, hy] at hget
  cases hget
  rw [hdm] at hcell
  have hne : l ≠ [] := fun e => by rw [e] at hq; simp at hq
  have ead : a.add i = ⟨a.block, a.off + i, none⟩ := by
    have := hsub hne
    unfold Addr.add
    split
    · rename_i h0; subst h0; exact this
    · rfl
  rw [ead] at hcell
  exact ⟨⟨_, hcell⟩, _, hcell, h1.2.1 _ (List.getElem_mem hrl), h1.2.2 (i % sz) _ _ (by simp [hrl']) (by simp [hrl])⟩

theorem opn_slice {α : Type} {P : Program} {t e : TypeId} {f : α → List AV} {g : α → AV} {W : α → Prop} {B sz : Nat} (ht : P.underlying t = some (.slice e)) (hc : P.cellsOf e = sz) (hB : P.bytesOf e = B) (hg : ∀ x, (g x).cells = f x) (hz : ∀ x, (f x).length = sz) (hsz : 0 < sz) (hd : Opn P e f W) :
    Opn P t (fun xs : List α => [.list sz (xs.map g) .no]) (fun xs => xs.length ≤ maxLen ∧ xs.length * B ≤ 140737488351232 ∧ ∀ x ∈ xs, W x) := by
  intro H enc w base spare held fuel cs x h hs
  rcases Deep.open_slice ht h with ⟨rfl, _⟩ | ⟨a, len, cap, m, n, D, Pl, rfl, hb, hl, hm, hmm, rfl, hx⟩
  · refine ⟨[], ⟨rfl, by simp [Value.oneCell'], fun i c v hc hv => ?_⟩, Nat.zero_le _, by simp, fun x hx => by cases hx⟩
    cases i with
    | zero =>
      cases hc; cases hv
      exact .list sz [] .no none 0 0 0 (fun _ => .bool true) (by simp) (fun h => absurd rfl h) (by simp) (by simp [flat]) (by simp [flat]) (.inl rfl)
    | succ i => simp at hc
  · have hlm : len ≤ m := by rw [hmm]; split <;> omega
    have hS : ∀ i, i < len → Small P e (D i) := by
      intro i hi k hk
      refine hs k ?_
      simp only [DataW.weights, ht]
      refine List.mem_cons_of_mem _ (List.mem_append_left _ ?_)
      clear hs hx h hmm
      have hmem : D i ∈ (List.range len).map D := List.mem_map.2 ⟨i, List.mem_range.2 hi, rfl⟩
      generalize (List.range len).map D = l at hmem
      induction l with
      | nil => cases hmem
      | cons y l ih =>
        simp only [DataW.weightsAll, List.mem_append]
        rcases List.mem_cons.1 hmem with rfl | h'
        · exact Or.inl hk
        · exact Or.inr (ih h')
    obtain ⟨l, hlen, hp⟩ := list_of (n := len) (p := fun i z => ∃ c, RDs w (f z) c ∧ W z ∧ ∀ j u, c[j]? = some u → w.cell? (a.add (i * sz + j)) = some u) (fun i hi => by
      obtain ⟨cs', h1, h2⟩ := hx i (by omega)
      obtain ⟨z, hK, hW⟩ := hd H enc w base spare held n cs' _ h2 (hS i hi)
      obtain ⟨_, hl', hcell⟩ := World.cells?_some h1
      refine ⟨z, cs', hK, hW, fun j u hu => ?_⟩
      have hj : j < P.cellsOf e := by rw [← hl']; exact (List.getElem?_eq_some_iff.1 hu).1
      have := hcell j hj
      rw [Deep.add_add, hc] at this
      rw [this, hu])
    have hM : maxLen = 9223372036854775807 := by decide
    subst hlen
    refine ⟨l, ⟨rfl, by simp [Value.oneCell'], fun i c v hc' hv => ?_⟩, by omega, ?_, fun z hz => ?_⟩
    · cases i with
      | zero =>
        cases hc'; cases hv
        refine rd_rows hsz hl (fun x => by rw [hg, hz]) (fun i x hx => ?_)
        obtain ⟨cs, h1, _, h3⟩ := hp i x hx
        exact ⟨cs, by rw [hg]; exact h1, h3⟩
      | succ i => simp at hc'
    · have := hs ((((List.range l.length).map D).length + ((List.range (m - l.length)).map fun j => D (l.length + j)).length) * P.bytesOf e) (by simp only [DataW.weights, ht]; exact List.mem_cons_self)
      simp only [List.length_map, List.length_range] at this
      rw [hB] at this
      exact Nat.le_trans (Nat.mul_le_mul_right _ (Nat.le_add_right _ _)) this
    · obtain ⟨i, hi⟩ := List.getElem?_of_mem hz
      obtain ⟨_, _, hW, _⟩ := hp i z hi
      exact hW

/-- The fields from one on: they read as told. -/
def OpnFs {α : Type} (P : Program) (fs : List Field) (off sz : Nat) (f : α → List AV) (W : α → Prop) : Prop :=
  ∀ (H : Type) (enc : TypeId × Value → H) (w : World) (base : Nat) (spare : Nat → Bool) (held : Bool) (n : Nat) (cs : List Value) (xs : List (DataW H × List MemPlace)),
    cs.length = off + sz → xs.length = fs.length → (∀ (i : Nat) (f : Field), fs[i]? = some f → DataW.trod enc P w base spare held n f.type ((cs.drop f.offset).take (P.cellsOf f.type)) = xs[i]?) →
    (∀ (i : Nat) (f : Field) (y : DataW H × List MemPlace), fs[i]? = some f → xs[i]? = some y → Small P f.type y.1) → ∃ a, RDs w (f a) (cs.drop off) ∧ W a

theorem opnFs_one {α : Type} {P : Program} {f : Field} {off sz : Nat} {d : α → List AV} {W : α → Prop} (ho : f.offset = off) (hc : P.cellsOf f.type = sz) (hd : Opn P f.type d W) : OpnFs P [f] off sz d W := by
  intro H enc w base spare held n cs xs hcs hxs hx hs
  have h0 := hx 0 f rfl
  obtain ⟨y, hy⟩ : ∃ y, xs[0]? = some y := ⟨_, List.getElem?_eq_getElem (by simp at hxs; omega)⟩
  rw [hy, ho, hc, List.take_of_length_le (by rw [List.length_drop]; omega)] at h0
  exact hd H enc w base spare held n _ y h0 (hs 0 f y rfl hy)

theorem opnFs_cons {α β : Type} {P : Program} {f : Field} {fs : List Field} {off s1 s2 : Nat} {d : α → List AV} {dr : β → List AV} {W : α → Prop} {Wr : β → Prop} (ho : f.offset = off) (hc : P.cellsOf f.type = s1) (hd : Opn P f.type d W) (hr : OpnFs P fs (off + s1) s2 dr Wr) :
    OpnFs P (f :: fs) off (s1 + s2) (fun p : α × β => d p.1 ++ dr p.2) (fun p => W p.1 ∧ Wr p.2) := by
  intro H enc w base spare held n cs xs hcs hxs hx hs
  match xs, hxs with
  | y :: ys, hxs =>
    have h0 := hx 0 f rfl
    rw [ho, hc] at h0
    obtain ⟨a, hK, hW⟩ := hd H enc w base spare held n _ y h0 (hs 0 f y rfl rfl)
    obtain ⟨b, hKr, hWr⟩ := hr H enc w base spare held n cs ys (by omega) (by simpa using hxs) (fun i g hg => hx (i + 1) g hg) (fun i g z hg hz => hs (i + 1) g z hg hz)
    refine ⟨(a, b), ?_, hW, hWr⟩
    have := hK.append hKr
    rwa [← List.drop_drop, List.take_append_drop] at this

theorem opn_struct {α : Type} {P : Program} {t : TypeId} {fs : Array Field} {sz : Nat} {d : α → List AV} {W : α → Prop} (ht : P.underlying t = some (.struct fs)) (hc : P.cellsOf t = sz) (hf : OpnFs P fs.toList 0 sz d W) : Opn P t d W := by
  intro H enc w base spare held fuel cs x h hs
  obtain ⟨xs, n, _, rfl, hcs, hxs, hx⟩ := DataW.trod_struct ht h
  have := hf H enc w base spare held n cs xs (by omega) (by simpa using hxs) (fun i f hf => hx i f (by simpa using hf)) (fun i f y hf hy k hk => hs k (by
    simp only [DataW.weights, ht]
    exact DataW.weights_mem_each (j := i) (t := f.type) (d := y.1) (by simp [List.getElem?_map, hf]) (by simp [List.getElem?_map, hy]) k hk))
  simpa using this

theorem Opn.map {α β : Type} {P : Program} {t : TypeId} {d : α → List AV} {d' : β → List AV} {W : α → Prop} {W' : β → Prop} (h : Opn P t d W) (g : α → β) (hd : ∀ a, d a = d' (g a)) (hW : ∀ a, W a → W' (g a)) : Opn P t d' W' := by
  intro H enc w base spare held fuel cs x hx hs
  obtain ⟨a, hK, h1⟩ := h H enc w base spare held fuel cs x hx hs
  exact ⟨g a, by rw [← hd]; exact hK, hW a h1⟩
end Go.Proofs.YtfgndnackofenaaW.E
