/-
  What the row gives of a list of bytes; a number whose digits are told. Conditions: as each theorem says.
-/
import Derived.Deep.Slices
import Derived.ChangeArms
import Derived.ChangeShapes
import Derived.Test.YtmnpjaglgalobaaGreatEKH
namespace Go.Proofs.YtmnpjaglgalobaaGreat.K
open Go Go.RowKit Go.ChangeShapes Go.WideShapes Go.Proofs.YtmnpjaglgalobaaGreatW.C Go.Proofs.YtmnpjaglgalobaaGreatW.D
set_option linter.unusedVariables false

/-- A list of bytes in memory. -/
def BytesAt (w : World) (v : Value) : Prop := v = .slice none 0 0 ∨ ∃ (A : Addr) (l : List Nat) (c : Nat), v = .slice (some A) l.length c ∧ l.length ≤ c ∧ (∀ x ∈ l, x < 256) ∧ ∀ (i : Nat) x, l[i]? = some x → w.cell? (A.add i) = some (.int .u8 (x : Int))
theorem list_of {n : Nat} {p : Nat → Nat → Prop} (h : ∀ i, i < n → ∃ x, p i x) : ∃ l : List Nat, l.length = n ∧ ∀ i x, l[i]? = some x → p i x := by
  induction n with
  | zero => exact ⟨[], rfl, fun i x hx => by simp at hx⟩
  | succ n ih =>
    obtain ⟨l, hl, hp⟩ := ih (fun i hi => h i (Nat.lt_succ_of_lt hi))
    obtain ⟨x, hx⟩ := h n (Nat.lt_succ_self n)
    refine ⟨l ++ [x], by simp [hl], fun i y hy => ?_⟩
    rcases Nat.lt_or_ge i l.length with hi | hi
    · rw [List.getElem?_append_left hi] at hy
      exact hp i y hy
    · have hlt := (List.getElem?_eq_some_iff.1 hy).1
      rw [List.length_append, List.length_singleton] at hlt
      have hil : i = l.length := by omega
      subst hil
      have hxy : x = y := by simpa using hy
      subst hxy
      rw [hl]
      exact hx
theorem bytes_at {H : Type} {enc : TypeId × Value → H} {w : World} {base : Nat} {spare : Nat → Bool} {held : Bool} {fuel : Nat} {v : Value} {x : DataW H × List MemPlace} (h : DataW.trod enc Tryz.prog w base spare held fuel 22 [v] = some x) : BytesAt w v := by
  rcases Deep.open_slice1 Tryz.underlying22 (by kernel_rfl) h with ⟨e, _⟩ | ⟨a, len, cap, m, n, V, D, Pl, e, hb, hl, hm, hmm, rfl, hx⟩
  · cases e; exact .inl rfl
  · cases e
    have hlm : len ≤ m := by rw [hmm]; split <;> omega
    obtain ⟨l, hlen, hp⟩ := list_of (n := len) (p := fun i z => w.cell? (a.add i) = some (.int .u8 (z : Int)) ∧ z < 256) (fun i hi => by
      obtain ⟨h1, h2⟩ := hx i (by omega)
      obtain ⟨z, e, _, hw⟩ := DataW.trod_int Tryz.underlying5 h2
      have hz : 0 ≤ z ∧ z < 256 := w8 hw
      have e2 : V i = .int .u8 z := by injection e
      exact ⟨z.toNat, by rw [h1, e2, show ((z.toNat : Nat) : Int) = z by omega], by omega⟩)
    subst hlen
    refine .inr ⟨a, l, cap, rfl, hl, fun x hx => ?_, fun i x hi => (hp i x hi).1⟩
    obtain ⟨i, hi⟩ := List.getElem?_of_mem hx
    exact (hp i x hi).2

/-! ### Digits -/
def digs : List Nat → Nat
  | [] => 0
  | d :: l => d + 256 * digs l
theorem digs_byte : ∀ (L : List Nat) (j : Nat) (d : Nat), (∀ x ∈ L, x < 256) → L[j]? = some d → digs L / 256 ^ j % 256 = d
  | [], j, d, _, h => by simp at h
  | x :: l, 0, d, hl, h => by
    cases h
    have := hl x List.mem_cons_self
    simp only [digs, Nat.pow_zero, Nat.div_one]
    omega
  | x :: l, j + 1, d, hl, h => by
    have h1 := hl x List.mem_cons_self
    have ih := digs_byte l j d (fun y hy => hl y (List.mem_cons_of_mem _ hy)) h
    have e : digs (x :: l) / 256 = digs l := by simp only [digs]; omega
    rw [Nat.pow_succ, Nat.mul_comm, ← Nat.div_div_eq_div_mul, e]
    exact ih
/-- The bytes, and a number of two bytes at 100. -/
def numOf (l : List Nat) (c : Nat) : Nat := digs (l ++ List.replicate (100 - l.length) 0 ++ [c % 256, c / 256])
theorem num_ok {l : List Nat} {c : Nat} (hl : ∀ x ∈ l, x < 256) (hn : l.length ≤ 100) (hc : c < 65536) (b off n : Nat) :
    (∀ i x, l[i]? = some x → (Src.mk (numOf l c) b off n).byte i = x) ∧ (Src.mk (numOf l c) b off n).wide 100 = c := by
  have hall : ∀ x ∈ l ++ List.replicate (100 - l.length) 0 ++ [c % 256, c / 256], x < 256 := fun x hx => by
    simp only [List.mem_append, List.mem_replicate, List.mem_cons, List.not_mem_nil, or_false] at hx
    rcases hx with (hx | ⟨_, rfl⟩) | rfl | rfl
    · exact hl x hx
    · decide
    · omega
    · omega
  have hget : ∀ j, 100 ≤ j → (l ++ List.replicate (100 - l.length) 0 ++ [c % 256, c / 256])[j]? = [c % 256, c / 256][j - 100]? := fun j hj => by
    rw [List.getElem?_append_right (by simp; omega)]
    congr 1
    simp; omega
  refine ⟨fun i x hi => ?_, ?_⟩
  · have hlt := (List.getElem?_eq_some_iff.1 hi).1
    refine digs_byte _ i x hall ?_
    rw [List.getElem?_append_left (by simp; omega), List.getElem?_append_left hlt]
    exact hi
  · rw [Src.wide_eq]
    have e1 : (Src.mk (numOf l c) b off n).byte 100 = c % 256 := digs_byte _ 100 _ hall (by rw [hget 100 (by omega)]; rfl)
    have e2 : (Src.mk (numOf l c) b off n).byte (100 + 1) = c / 256 := digs_byte _ 101 _ hall (by rw [hget 101 (by omega)]; rfl)
    rw [e1, e2]
    omega
theorem w16 {x : Int} (h : (Lit.int .u16 x).wf = true) : 0 ≤ x ∧ x < 65536 := by simp [Lit.wf, IntKind.min, IntKind.max, IntKind.bits, IntKind.signed] at h; omega
theorem run_okS {g : FuncId} {args : List CV} {vs : Array Value} {w : World} {sr : Src} (hsr : SrcOK (fun _ => False) w sr) (h : run g args = .yes) (hl : args.length = vs.size)
    (ha : ∀ (i : Nat) a v, args[i]? = some a → vs[i]? = some v → RV (env0 sr) a v) : Calls Tryz.prog g vs w fun e w' => e = .returned (.bool true) ∧ Below w.heap.size w w' := by
  unfold run at h
  exact calls_runS pk hsr isT_ok h hl ha
end Go.Proofs.YtmnpjaglgalobaaGreat.K
