/-
  What reads as data of a type reads as of its kind: integers, bools, slices, structs, in one another. Conditions: each slice within the form's own reach. (Own words of this claim; over any program.)
-/
import Derived.Deep.Slices
import Derived.SizedLaws
import Derived.ChangeArms
import Derived.Test.YtfgndnackofenaaWWords
namespace Go.Proofs.YtfgndnackofenaaW.PJ
open Go Go.ChangeShapes Go.WideShapes Go.Proofs.YtfgndnackofenaaW.PrintWords

def Small {H : Type} (P : Program) (t : TypeId) (d : DataW H) : Prop := ∀ n ∈ d.weights P t, n ≤ reachBytes

/-- Whatever reads as data of type t reads as of kind d, and W holds of it. -/
def Opn {α : Type} (P : Program) (t : TypeId) (d : Kd α) (W : α → Prop) : Prop :=
  ∀ (H : Type) (enc : TypeId × Value → H) (w : World) (base : Nat) (spare : Nat → Bool) (held : Bool) (fuel : Nat) (cs : List Value) (x : DataW H × List MemPlace),
    DataW.trod enc P w base spare held fuel t cs = some x → Small P t x.1 → ∃ a, d.K w a cs ∧ W a

theorem opn_int {P : Program} {t : TypeId} {k : IntKind} (ht : P.underlying t = some (.int k)) : Opn P t (Kd.int k) (fun x => (Lit.int k x).wf = true) := by
  intro H enc w base spare held fuel cs x h _
  obtain ⟨n, rfl, _, hw⟩ := DataW.trod_int ht h
  exact ⟨n, rfl, hw⟩
theorem opn_bool {P : Program} {t : TypeId} (ht : P.underlying t = some .bool) : Opn P t Kd.bool (fun _ => True) := by
  intro H enc w base spare held fuel cs x h _
  obtain ⟨b, rfl, _⟩ := DataW.trod_bool ht h
  exact ⟨b, rfl, trivial⟩

theorem list_of {α : Type} {n : Nat} {p : Nat → α → Prop} (h : ∀ i, i < n → ∃ x, p i x) : ∃ l : List α, l.length = n ∧ ∀ i x, l[i]? = some x → p i x := by
  induction n with
  | zero => exact ⟨[], rfl, fun i x hx => by simp at hx⟩
  | succ n ih =>
    obtain ⟨l, hl, hp⟩ := ih (fun i hi => h i (Nat.lt_succ_of_lt hi))
    obtain ⟨x, hx⟩ := h n (Nat.lt_succ_self n)
    refine ⟨l ++ [x], by simp [hl], fun i y hy => ?_⟩
    rcases Nat.lt_or_ge i l.length with hi | hi
    · rw [List.getElem?_append_left hi] at hy
      exact hp i y hy
    · have hlt := (List.getElem?_eq_some_iff.1 hy).1
      rw [List.length_append, List.length_singleton] at hlt
      have hil : i = l.length := by omega
      subst hil
      have hxy : x = y := by simpa using hy
      subst hxy
      rw [hl]
      exact hx

theorem opn_slice {α : Type} {P : Program} {t e : TypeId} {d : Kd α} {W : α → Prop} {B : Nat} (ht : P.underlying t = some (.slice e)) (hc : P.cellsOf e = d.sz) (hB : P.bytesOf e = B) (hd : Opn P e d W) :
    Opn P t (Kd.slice e d) (fun xs => xs.length ≤ maxLen ∧ xs.length * B ≤ 140737488351232 ∧ ∀ x ∈ xs, W x) := by
  intro H enc w base spare held fuel cs x h hs
  rcases Deep.open_slice ht h with ⟨rfl, _⟩ | ⟨a, len, cap, m, n, D, Pl, rfl, hb, hl, hm, hmm, rfl, hx⟩
  · exact ⟨[], ⟨none, 0, rfl, Nat.le_refl _, rfl, Nat.zero_le _, fun h => absurd h (Nat.lt_irrefl 0)⟩, Nat.zero_le _, by simp, fun x hx => by cases hx⟩
  · have hlm : len ≤ m := by rw [hmm]; split <;> omega
    have hS : ∀ i, i < len → Small P e (D i) := by
      intro i hi k hk
      refine hs k ?_
      simp only [DataW.weights, ht]
      refine List.mem_cons_of_mem _ (List.mem_append_left _ ?_)
      clear hs hx h hmm
      have hmem : D i ∈ (List.range len).map D := List.mem_map.2 ⟨i, List.mem_range.2 hi, rfl⟩
      generalize (List.range len).map D = l at hmem
      induction l with
      | nil => cases hmem
      | cons y l ih =>
        simp only [DataW.weightsAll, List.mem_append]
        rcases List.mem_cons.1 hmem with rfl | h'
        · exact Or.inl hk
        · exact Or.inr (ih h')
    obtain ⟨l, hlen, hp⟩ := list_of (n := len) (p := fun i z => ∃ c, c.length = d.sz ∧ d.K w z c ∧ W z ∧ ∀ j u, c[j]? = some u → w.cell? (a.add (i * d.sz + j)) = some u) (fun i hi => by
      obtain ⟨cs', h1, h2⟩ := hx i (by omega)
      obtain ⟨z, hK, hW⟩ := hd H enc w base spare held n cs' _ h2 (hS i hi)
      obtain ⟨_, hl', hcell⟩ := World.cells?_some h1
      refine ⟨z, cs', hl'.trans hc, hK, hW, fun j u hu => ?_⟩
      have hj : j < P.cellsOf e := by rw [← hl']; exact (List.getElem?_eq_some_iff.1 hu).1
      have := hcell j hj
      rw [Deep.add_add, hc] at this
      rw [this, hu])
    have hM : maxLen = 9223372036854775807 := by decide
    refine ⟨l, ⟨some a, cap, by rw [hlen], by rw [hlen]; exact hl, rfl, by rw [hlen]; omega, fun _ => ⟨a, rfl, fun j p hj => ?_⟩⟩, by rw [hlen]; omega, ?_, fun z hz => ?_⟩
    · obtain ⟨c, h1, h2, _, h3⟩ := hp j p hj
      exact ⟨c, h1, h2, h3⟩
    · have := hs ((((List.range len).map D).length + ((List.range (m - len)).map fun j => D (len + j)).length) * P.bytesOf e) (by simp only [DataW.weights, ht]; exact List.mem_cons_self)
      simp only [List.length_map, List.length_range] at this
      rw [hB] at this
      rw [hlen]
      exact Nat.le_trans (Nat.mul_le_mul_right _ (Nat.le_add_right _ _)) this
    · obtain ⟨i, hi⟩ := List.getElem?_of_mem hz
      obtain ⟨_, _, _, hW, _⟩ := hp i z hi
      exact hW

/-- The fields from one on: they read as of kind d. -/
def OpnFs {α : Type} (P : Program) (fs : List Field) (off : Nat) (d : Kd α) (W : α → Prop) : Prop :=
  ∀ (H : Type) (enc : TypeId × Value → H) (w : World) (base : Nat) (spare : Nat → Bool) (held : Bool) (n : Nat) (cs : List Value) (xs : List (DataW H × List MemPlace)),
    cs.length = off + d.sz → xs.length = fs.length → (∀ (i : Nat) (f : Field), fs[i]? = some f → DataW.trod enc P w base spare held n f.type ((cs.drop f.offset).take (P.cellsOf f.type)) = xs[i]?) →
    (∀ (i : Nat) (f : Field) (y : DataW H × List MemPlace), fs[i]? = some f → xs[i]? = some y → Small P f.type y.1) → ∃ a, d.K w a (cs.drop off) ∧ W a

theorem opnFs_one {α : Type} {P : Program} {f : Field} {off : Nat} {d : Kd α} {W : α → Prop} (ho : f.offset = off) (hc : P.cellsOf f.type = d.sz) (hd : Opn P f.type d W) : OpnFs P [f] off d W := by
  intro H enc w base spare held n cs xs hcs hxs hx hs
  have h0 := hx 0 f rfl
  obtain ⟨y, hy⟩ : ∃ y, xs[0]? = some y := ⟨_, List.getElem?_eq_getElem (by simp at hxs; omega)⟩
  rw [hy, ho, hc, List.take_of_length_le (by rw [List.length_drop]; omega)] at h0
  exact hd H enc w base spare held n _ y h0 (hs 0 f y rfl hy)

theorem opnFs_cons {α β : Type} {P : Program} {f : Field} {fs : List Field} {off off' : Nat} {d : Kd α} {dr : Kd β} {W : α → Prop} {Wr : β → Prop} (ho : f.offset = off) (hc : P.cellsOf f.type = d.sz) (hoff : off' = off + d.sz) (hd : Opn P f.type d W) (hr : OpnFs P fs off' dr Wr) :
    OpnFs P (f :: fs) off (Kd.pair d dr) (fun p => W p.1 ∧ Wr p.2) := by
  subst hoff
  intro H enc w base spare held n cs xs hcs hxs hx hs
  have hsz : (Kd.pair d dr).sz = d.sz + dr.sz := rfl
  rw [hsz] at hcs
  match xs, hxs with
  | y :: ys, hxs =>
    have h0 := hx 0 f rfl
    rw [ho, hc] at h0
    obtain ⟨a, hK, hW⟩ := hd H enc w base spare held n _ y h0 (hs 0 f y rfl rfl)
    obtain ⟨b, hKr, hWr⟩ := hr H enc w base spare held n cs ys (by omega) (by simpa using hxs) (fun i g hg => hx (i + 1) g hg) (fun i g z hg hz => hs (i + 1) g z hg hz)
    refine ⟨(a, b), ⟨(cs.drop off).take d.sz, cs.drop (off + d.sz), ?_, hK, hKr⟩, hW, hWr⟩
    rw [← List.drop_drop, List.take_append_drop]

theorem opn_struct {α : Type} {P : Program} {t : TypeId} {fs : Array Field} {d : Kd α} {W : α → Prop} (ht : P.underlying t = some (.struct fs)) (hc : P.cellsOf t = d.sz) (hf : OpnFs P fs.toList 0 d W) : Opn P t d W := by
  intro H enc w base spare held fuel cs x h hs
  obtain ⟨xs, n, _, rfl, hcs, hxs, hx⟩ := DataW.trod_struct ht h
  have := hf H enc w base spare held n cs xs (by omega) (by simpa using hxs) (fun i f hf => hx i f (by simpa using hf)) (fun i f y hf hy k hk => hs k (by
    simp only [DataW.weights, ht]
    exact DataW.weights_mem_each (j := i) (t := f.type) (d := y.1) (by simp [List.getElem?_map, hf]) (by simp [List.getElem?_map, hy]) k hk))
  simpa using this

theorem opn_iso {α β : Type} {P : Program} {t : TypeId} {d : Kd β} {W : β → Prop} (f : α → β) (g : β → α) (hfg : ∀ b, f (g b) = b) (h : Opn P t d W) : Opn P t (Kd.iso d f) (fun a => W (f a)) := by
  intro H enc w base spare held fuel cs x hx hs
  obtain ⟨b, hK, hW⟩ := h H enc w base spare held fuel cs x hx hs
  exact ⟨g b, by show d.K w (f (g b)) cs; rw [hfg]; exact hK, by show W (f (g b)); rw [hfg]; exact hW⟩
theorem Opn.imp {α : Type} {P : Program} {t : TypeId} {d : Kd α} {W W' : α → Prop} (h : Opn P t d W) (hW : ∀ a, W a → W' a) : Opn P t d W' := by
  intro H enc w base spare held fuel cs x hx hs
  obtain ⟨a, hK, h1⟩ := h H enc w base spare held fuel cs x hx hs
  exact ⟨a, hK, hW a h1⟩
end Go.Proofs.YtfgndnackofenaaW.PJ
