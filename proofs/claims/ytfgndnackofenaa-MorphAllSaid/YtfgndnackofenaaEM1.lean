/-
  Sets of categories as lists, in plain Lean. No condition.
-/
import Derived.Test.YtfgndnackofenaaE15
namespace Go.Proofs.YtfgndnackofenaaW.E
open Go Go.RowKit
set_option linter.unusedVariables false
set_option linter.unusedSimpArgs false

structure Pr where
  c : Int
  l : Int
@[reducible] def u16 (c : Int) : AV := .val (.int .u16 c)
@[reducible] def u8 (c : Int) : AV := .val (.int .u8 c)
@[reducible] def i64 (c : Int) : AV := .val (.int .i64 c)
@[reducible] def bo (b : Bool) : AV := .val (.bool b)
@[reducible] def prA (p : Pr) : AV := .agg [.val (.int .u16 p.c), .val (.int .u8 p.l)]
@[reducible] def lab (d : Int) (l : List Pr) : AV := .agg [.val (.int .u8 d), .list 2 (l.map prA) .no]
@[reducible] def l16 (l : List Int) : AV := .list 1 (l.map u16) .no
@[reducible] def f16 (l : List Int) : AV := .list 1 (l.map u16) fresh
@[reducible] def sts (s i o : List Int) : AV := .agg [l16 s, l16 i, l16 o]

theorem get_map {α : Type} (f : α → AV) (l : List α) (j : Nat) (h : j < l.length) : (l.map f)[j]? = some (f l[j]) := by simp [h]
theorem get_mapi {α : Type} (f : α → AV) (l : List α) (j : Nat) (h : j < l.length) : (l.map f)[j]? = some (f l[j]) := by simp [h]
theorem take_map_all {α : Type} (f : α → AV) (l : List α) : List.take l.length (l.map f) = l.map f := List.take_of_length_le (by simp)
theorem take_snoc {α : Type} (l : List α) (j : Nat) (h : j < l.length) : l.take (j + 1) = l.take j ++ [l[j]] := List.take_succ_eq_append_getElem h
theorem wup (i : Nat) (h : i < 9223372036854775807) : IntKind.i64.wrap ((i : Int) + 1) = ((i + 1 : Nat) : Int) := by
  rw [IntWalk.i64_in _ (by omega)]; omega
theorem wdn (i : Nat) (h : i < 9223372036854775807) (h1 : 1 ≤ i) : IntKind.i64.wrap ((i : Int) - 1) = ((i - 1 : Nat) : Int) := by
  rw [IntWalk.i64_in _ (by omega)]; omega

/-- The categories of a that are (are not) in b. -/
def fil (q : Bool) (a b : List Int) : List Int := a.filter fun c => decide (c ∈ b) == q
theorem fil_len (q : Bool) (a b : List Int) : (fil q a b).length ≤ a.length := List.length_filter_le _ _

/-- Categories rise. -/
def asc : List Int → Bool
  | a :: b :: l => decide (a < b) && asc (b :: l)
  | _ => true

theorem asc_snoc : ∀ (l : List Int) (b a : Int), asc (l ++ [b] ++ [a]) = (asc (l ++ [b]) && decide (b < a))
  | [], b, a => by simp [asc]
  | [x], b, a => by simp [asc]
  | x :: y :: l, b, a => by
    have ih := asc_snoc (y :: l) b a
    simp only [List.cons_append] at ih ⊢
    simp only [asc]
    rw [ih, Bool.and_assoc]
theorem asc_take_succ (l : List Int) (i : Nat) (h1 : 1 ≤ i) (hi : i < l.length) : asc (l.take (i + 1)) = (asc (l.take i) && decide (l[i - 1] < l[i])) := by
  obtain ⟨j, rfl⟩ : ∃ j, i = j + 1 := ⟨i - 1, by omega⟩
  rw [take_snoc l (j + 1) hi, take_snoc l j (by omega), asc_snoc]
  rfl
theorem asc_pre : ∀ (l m : List Int), asc (l ++ m) = true → asc l = true
  | [], _, _ => rfl
  | [x], _, _ => rfl
  | x :: y :: l, m, h => by
    simp only [List.cons_append, asc, Bool.and_eq_true] at h ⊢
    exact ⟨h.1, asc_pre (y :: l) m h.2⟩
theorem asc_take_false (l : List Int) (i : Nat) (h : asc (l.take i) = false) : asc l = false := by
  cases h2 : asc l with
  | false => rfl
  | true =>
    rw [← List.take_append_drop i l] at h2
    rw [asc_pre _ _ h2] at h
    cases h
theorem asc_one (l : List Int) : asc (l.take 1) = true := by
  cases l <;> rfl

/-- How many at the begin are less. -/
def kpos (out : List Int) (c : Int) : Nat := (out.takeWhile fun x => decide (x < c)).length
def ins (out : List Int) (c : Int) : List Int :=
  if kpos out c = out.length ∨ out[kpos out c]? ≠ some c then out.take (kpos out c) ++ [c] ++ out.drop (kpos out c) else out
def mk (l : List Int) : List Int := l.foldl ins []
theorem kpos_of : ∀ (out : List Int) (c : Int) (k : Nat) (hk : k ≤ out.length), (∀ (m : Nat) (h : m < k), out[m]'(by omega) < c) → (k = out.length ∨ ∃ h : k < out.length, ¬ out[k] < c) → kpos out c = k
  | [], c, k, hk, _, _ => by simp at hk; subst hk; rfl
  | x :: out, c, 0, hk, h, h2 => by
    rcases h2 with h2 | ⟨_, h2⟩
    · simp at h2
    · simp at h2
      simp [kpos, List.takeWhile_cons, h2]
  | x :: out, c, k + 1, hk, h, h2 => by
    have hx := h 0 (by omega)
    simp at hx
    have ih := kpos_of out c k (by simpa using hk) (fun m hm => by have := h (m + 1) (by omega); simpa using this) (by simpa using h2)
    unfold kpos at ih ⊢
    simp [List.takeWhile_cons, hx, ih]
theorem ins_len (out : List Int) (c : Int) : (ins out c).length ≤ out.length + 1 := by
  unfold ins; split <;> simp <;> omega
theorem mk_foldl_len : ∀ (l out : List Int), (l.foldl ins out).length ≤ out.length + l.length
  | [], out => by simp
  | c :: l, out => by
    have := mk_foldl_len l (ins out c)
    have := ins_len out c
    simp only [List.foldl_cons, List.length_cons]
    omega
theorem mk_len (l : List Int) : (mk l).length ≤ l.length := by have := mk_foldl_len l []; simpa [mk] using this
theorem mk_snoc (l : List Int) (c : Int) : mk (l ++ [c]) = ins (mk l) c := by simp [mk]
theorem mk_take_len (l : List Int) (j : Nat) (h : j ≤ l.length) : (mk (l.take j)).length ≤ j := by have := mk_len (l.take j); simp at this; omega

def kOr : Bool → Bool → Bool := fun _ _ => true
def kAnd : Bool → Bool → Bool := fun x y => x && y
def kLess : Bool → Bool → Bool := fun _ y => !y
/-- Two sets walked through together: which of a category's sides are kept? -/
def mrg (keep : Bool → Bool → Bool) : List Int → List Int → List Int
  | [], [] => []
  | x :: a, [] => (if keep true false then [x] else []) ++ mrg keep a []
  | [], y :: b => (if keep false true then [y] else []) ++ mrg keep [] b
  | x :: a, y :: b =>
    if x < y then (if keep true false then [x] else []) ++ mrg keep a (y :: b)
    else if y < x then (if keep false true then [y] else []) ++ mrg keep (x :: a) b
    else (if keep true true then [x] else []) ++ mrg keep a b
termination_by a b => a.length + b.length
abbrev un (a b : List Int) : List Int := mrg kOr a b
abbrev inter (a b : List Int) : List Int := mrg kAnd a b
abbrev less (a b : List Int) : List Int := mrg kLess a b
/-- All of a is in b. -/
def sub (a b : List Int) : Bool := decide (less a b = [])
theorem mrg_len (keep : Bool → Bool → Bool) : ∀ (a b : List Int), (mrg keep a b).length ≤ a.length + b.length := by
  intro a b
  fun_induction mrg keep a b <;> simp_all only [List.length_append, List.length_cons, List.length_nil] <;> (try split) <;> simp <;> omega
end Go.Proofs.YtfgndnackofenaaW.E
