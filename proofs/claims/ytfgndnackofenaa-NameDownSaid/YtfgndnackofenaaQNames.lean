/-
  Names: the numbers of a name, its path, as the code and as the document's answer tell them. No condition but that numbers are of 64 bits.
-/
import Derived.Test.YtfgndnackofenaaPNx1
import Derived.Test.YtfgndnackofenaaPNx2
import Derived.Test.YtfgndnackofenaaXEv
import Derived.Laws.BitsLemmas
namespace Go.Proofs.Ytfgndnackofenaa.PN
open Go Go.RowKit Go.Proofs.YtfgndnackofenaaW.PrintWords Go.Proofs.YtfgndnackofenaaW.PJ

theorem Cm.of_ex {α : Type} {F : Nat → Option α} {v : α} (h : ∀ k, LeO (F k) (F (k + 1))) (n : Nat) (e : F n = some v) : Cm F v := ⟨n, fun _ hk => at_rounds h hk e⟩
theorem rd_at (l : List Int) (i : Nat) (h : i < l.length) : rd l (i : Int) = l[i] := by
  unfold rd; simp [List.getD_eq_getElem?_getD, h]
theorem wup (i : Nat) (h : i < 4611686018427387904) : wrap64 ((i : Int) + 1) = ((i + 1 : Nat) : Int) := by unfold wrap64; omega
theorem w64 {n : Int} (h : -9223372036854775808 ≤ n) (h' : n ≤ 9223372036854775807) : wrap64 n = n := by unfold wrap64; omega
theorem wu64 (n : Int) : IntKind.u64.wrap n = n % 18446744073709551616 := by simp [IntKind.wrap, IntKind.bits, IntKind.signed]
theorem wu {n : Int} (h : 0 ≤ n) (h' : n < 18446744073709551616) : IntKind.u64.wrap n = n := by rw [wu64]; omega
theorem wraps_u64 (n : Int) (h₀ : 0 ≤ n) (h₁ : n < 2 ^ 64) : IntKind.u64.wrap n = n := wu h₀ (by simpa using h₁)
theorem and63 (n : Nat) (h : n < 18446744073709551616) : wrap64 (bits .and .u64 (n : Int) 63) = ((n % 64 : Nat) : Int) := by
  have : bits .and .u64 (n : Int) 63 = (n : Int) % 64 := bits_mask .u64 64 (by decide) wraps_u64 6 (by decide) n (by omega) (by simpa using (by omega : (n : Int) < 18446744073709551616))
  rw [this, w64 (by omega) (by omega)]
  omega
theorem or64 (n d : Nat) (h : n * 64 + d < 18446744073709551616) (hd : d < 64) : bits .or .u64 (IntKind.u64.wrap ((n : Int) * 64)) (IntKind.u64.wrap (d : Int)) = ((n * 64 + d : Nat) : Int) := by
  rw [wu (by omega) (by omega), wu (by omega) (by omega)]
  rw [bits_join .u64 64 (by decide) wraps_u64 6 (n * 64 : Int) d (by omega) (by simp) (by simp; omega) (by omega) (by simp; omega) (by simp; omega)]
  omega

/-- The names from id up to the root, the root left out. -/
def ch : Nat → Nat → Option (List Nat)
  | 0, id => if id = 1 then some [] else none
  | f + 1, id => if id = 1 then some [] else if 1 < id ∧ 0 < id % 64 then (ch f (id / 64)).map (id :: ·) else none
def Chn : Nat → List Nat → Prop
  | id, [] => id = 1
  | id, x :: c => x = id ∧ 1 < id ∧ 0 < id % 64 ∧ Chn (id / 64) c
theorem ch_iff : ∀ (f id : Nat) (c : List Nat), ch f id = some c ↔ Chn id c ∧ c.length ≤ f
  | 0, id, c => by
    cases c with
    | nil => simp [ch, Chn]
    | cons x c =>
      simp only [ch, List.length_cons]
      split <;> simp
  | f + 1, id, c => by
    have ih := ch_iff f (id / 64)
    simp only [ch]
    split
    · next h =>
      subst h
      cases c with
      | nil => simp [Chn]
      | cons x c => simp [Chn]
    · next h =>
      split
      · next h2 =>
        cases c with
        | nil => simp [Chn, h]
        | cons x c =>
          simp only [Option.map_eq_some_iff, Chn, List.length_cons]
          constructor
          · rintro ⟨d, hd, he⟩
            obtain ⟨rfl, rfl⟩ := List.cons.inj he
            have := (ih d).1 hd
            exact ⟨⟨rfl, h2.1, h2.2, this.1⟩, by omega⟩
          · rintro ⟨⟨rfl, _, _, hc⟩, hl⟩
            exact ⟨c, (ih c).2 ⟨hc, by omega⟩, rfl⟩
      · next h2 =>
        cases c with
        | nil => simp [Chn, h]
        | cons x c =>
          constructor
          · intro h3; cases h3
          · rintro ⟨⟨_, h4, h5, _⟩, _⟩; exact absurd ⟨h4, h5⟩ h2
theorem Chn_one : ∀ {id : Nat} {c d : List Nat}, Chn id c → Chn id d → c = d
  | _, [], [], _, _ => rfl
  | _, [], _ :: _, h, k => by have h : _ = 1 := h; have := k.2.1; omega
  | _, _ :: _, [], h, k => by have k : _ = 1 := k; have := h.2.1; omega
  | _, _ :: _, _ :: _, ⟨rfl, _, _, h⟩, ⟨rfl, _, _, k⟩ => by rw [Chn_one h k]
/-- A name's chain. -/
def nm (id : Nat) : Option (List Nat) := ch 6 id
def path (id : Nat) : List Nat := match nm id with | some c => 1 :: c.reverse | none => []
def ints (l : List Nat) : List Int := l.map fun (n : Nat) => (n : Int)
theorem ints_len (l : List Nat) : (ints l).length = l.length := by simp [ints]
theorem ints_at (l : List Nat) (i : Nat) (h : i < l.length) : rd (ints l) (i : Int) = ((l[i] : Nat) : Int) := by
  rw [rd_at _ _ (by rw [ints_len]; exact h)]; simp [ints]
theorem ints_inj : ∀ {l m : List Nat}, ints l = ints m → l = m
  | [], [], _ => rfl
  | [], _ :: _, h => by cases h
  | _ :: _, [], h => by cases h
  | a :: l, b :: m, h => by
    have := List.cons.inj h
    rw [ints_inj this.2, Int.ofNat.inj this.1]

theorem numbers_l0 : ∀ (f id : Nat) (acc : List Int), id < 18446744073709551616 → acc.length + f = 6 →
    Cm (fun k => name_numbers.l0 k (id : Int) acc) (match ch f id with | some c => (acc ++ ints (c.map (· % 64)), true) | none => ([], false))
  | 0, id, acc, hid, hl => by
    refine Cm.step (fun _ => name_numbers.l0.eq_2 ..) (Cm.ite (fun h => ?_) (fun h => ?_))
    · obtain rfl : id = 1 := by omega
      exact Cm.eq (by simp [ch, ints])
    · have h' : ¬ id = 1 := by omega
      have e : ch 0 id = none := by simp [ch, h']
      rw [e, and63 id hid]
      exact Cm.ite (fun h => Cm.ite (fun h => Cm.neg (by omega) (Cm.here _)) (fun h => Cm.here _)) (fun h => Cm.here _)
  | f + 1, id, acc, hid, hl => by
    refine Cm.step (fun _ => name_numbers.l0.eq_2 ..) (Cm.ite (fun h => ?_) (fun h => ?_))
    · obtain rfl : id = 1 := by omega
      exact Cm.eq (by simp [ch, ints])
    · have h' : ¬ id = 1 := by omega
      rw [and63 id hid, ch, if_neg h']
      refine Cm.ite (fun h => Cm.ite (fun h2 => ?_) (fun h2 => ?_)) (fun h => ?_)
      · rw [if_pos ⟨by omega, by omega⟩]
        refine Cm.pos (by omega) (Cm.pos (by omega) ?_)
        have e : (id : Int) / 64 = ((id / 64 : Nat) : Int) := by omega
        rw [e]
        refine (numbers_l0 f (id / 64) _ (by omega) (by simp; omega)).of ?_
        cases ch f (id / 64) <;> simp [ints]
      · rw [if_neg (by omega)]; exact Cm.here _
      · rw [if_neg (by omega)]; exact Cm.here _
theorem numbers_cm (id : Nat) (h : id < 18446744073709551616) : Cm (fun k => name_numbers.f k (id : Int)) (match nm id with | some c => (ints (c.map (· % 64)), true) | none => ([], false)) :=
  (numbers_l0 6 id [] h rfl).of (by unfold nm; cases ch 6 id <;> simp)
theorem May_cm (id : Nat) (h : id < 18446744073709551616) : Cm (fun k => name_May.f k (id : Int)) (nm id).isSome :=
  Cm.bind (numbers_cm id h) (Cm.eq (by cases nm id <;> rfl))
theorem Depth_cm (id : Nat) (h : id < 18446744073709551616) : Cm (fun k => name_Depth.f k (id : Int)) ((path id).length - 1 : Nat) :=
  Cm.bind (numbers_cm id h) (Cm.eq (by unfold path; cases nm id <;> simp [ints]))
theorem nm_chn {id : Nat} {c : List Nat} (h : nm id = some c) : Chn id c ∧ c.length ≤ 6 := (ch_iff 6 id c).1 h
theorem chn_nm {id : Nat} {c : List Nat} (h : Chn id c) (hl : c.length ≤ 6) : nm id = some c := (ch_iff 6 id c).2 ⟨h, hl⟩

def par (id : Nat) : Nat := if (path id).length < 2 then 0 else id / 64
def num (id : Nat) : Nat := if (path id).length < 2 then 0 else id % 64
theorem Parent_cm (id : Nat) (h : id < 18446744073709551616) : Cm (fun k => name_Parent.f k (id : Int)) (par id : Int) := by
  refine Cm.bind (numbers_cm id h) ?_
  unfold par path
  cases hn : nm id with
  | none => exact Cm.pos (by simp) (Cm.eq (by simp))
  | some c =>
    cases c with
    | nil => exact Cm.pos (by simp [ints]) (Cm.eq (by simp))
    | cons x c => exact Cm.neg (by simp [ints]; omega) (Cm.eq (by rw [if_neg (by simp)]; omega))
theorem Number_cm (id : Nat) (h : id < 18446744073709551616) : Cm (fun k => name_Number.f k (id : Int)) (num id : Int) := by
  refine Cm.bind (numbers_cm id h) ?_
  unfold num path
  cases hn : nm id with
  | none => exact Cm.neg (by simp) (Cm.eq (by simp))
  | some c =>
    cases c with
    | nil => exact Cm.neg (by simp [ints]) (Cm.eq (by simp))
    | cons x c =>
      obtain ⟨⟨rfl, _⟩, _⟩ := nm_chn hn
      exact Cm.pos (by simp [ints]) (Cm.pos (by simp [ints]) (Cm.eq (by rw [if_neg (by simp)]; simp [ints, rd])))

/-- What stands above x in a chain. -/
theorem chn_at : ∀ {id : Nat} {p s : List Nat} {x : Nat}, Chn id (p ++ x :: s) → Chn x (x :: s)
  | _, [], _, _, h => by have := h.1; subst this; exact h
  | _, _ :: p, s, x, h => chn_at (p := p) h.2.2.2
theorem chn_up {x : Nat} {s : List Nat} (h : Chn x (x :: s)) : s.headD 1 = x / 64 := by
  have h := h.2.2.2
  cases s with
  | nil => exact h.symm
  | cons y s => exact h.1
theorem chn_le : ∀ {id : Nat} {c : List Nat}, Chn id c → ∀ x ∈ c, x ≤ id
  | _, [], _, x, hx => by cases hx
  | id, y :: c, h, x, hx => by
    rcases List.mem_cons.1 hx with rfl | hx
    · exact Nat.le_of_eq h.1
    · have := chn_le h.2.2.2 x hx; omega
theorem Path_l0 (id : Nat) (hid : id < 18446744073709551616) (c : List Nat) (hc : Chn id c) (h6 : c.length ≤ 6) : ∀ (n : Nat) (p s : List Nat), p.length = n → c = p ++ s →
    Cm (fun k => name_Path.l0 k (ints (c.map (· % 64))) (ints (1 :: s.reverse)) ((p.length : Int) - 1)) (ints (1 :: c.reverse))
  | 0, p, s, hp, he => by
    obtain rfl := List.eq_nil_of_length_eq_zero hp
    subst he
    exact Cm.step (fun _ => name_Path.l0.eq_2 ..) (Cm.neg (by simp) (Cm.eq (by simp)))
  | n + 1, p, s, hp, he => by
    obtain ⟨q, x, rfl⟩ : ∃ q x, p = q ++ [x] := ⟨p.dropLast, p.getLast (by intro h; rw [h] at hp; cases hp), (List.dropLast_concat_getLast _).symm⟩
    have hq : q.length = n := by simp at hp; exact hp
    have hlen : c.length = q.length + 1 + s.length := by rw [he]; simp; omega
    have he' : c = q ++ x :: s := by rw [he]; simp
    have hx : Chn x (x :: s) := chn_at (he' ▸ hc)
    have hup := chn_up hx
    have hxl : x ≤ id := chn_le hc x (by rw [he']; simp)
    have e1 : ((q ++ [x]).length : Int) - 1 = ((q.length : Nat) : Int) := by simp
    rw [e1]
    have e2 : wrap64 (((ints (1 :: s.reverse)).length : Int) - 1) = ((s.length : Nat) : Int) := by rw [ints_len]; simp only [List.length_cons, List.length_reverse]; rw [w64 (by omega) (by omega)]; omega
    refine Cm.step (fun _ => name_Path.l0.eq_2 ..) ?_
    rw [e2, ints_at _ _ (by simp)]
    have hq' : q.length < (c.map (· % 64)).length := by simp; omega
    rw [ints_at _ _ hq']
    have e3 : (c.map (· % 64))[q.length] = x % 64 := by subst he'; simp
    have e4 : (1 :: s.reverse)[s.length]'(by simp) = x / 64 := by
      rw [← hup]
      cases s with
      | nil => rfl
      | cons y s => simp
    rw [e3, e4]
    refine Cm.pos (by omega) (Cm.pos (by omega) (Cm.pos (by rw [ints_len]; simp; omega) (Cm.pos (by omega) (Cm.pos (by rw [ints_len]; simp; omega) (Cm.pos (by rw [ints_len]; simp; omega) ?_)))))
    rw [or64 (x / 64) (x % 64) (by omega) (by omega), (by omega : x / 64 * 64 + x % 64 = x)]
    have e5 : ints (1 :: s.reverse) ++ [(x : Int)] = ints (1 :: (x :: s).reverse) := by simp [ints]
    have e6 : wrap64 (((q.length : Nat) : Int) - 1) = (q.length : Int) - 1 := w64 (by omega) (by omega)
    rw [e5, e6]
    exact Path_l0 id hid c hc h6 n q (x :: s) hq he'
theorem Path_cm (id : Nat) (h : id < 18446744073709551616) : Cm (fun k => name_Path.f k (id : Int)) (ints (path id)) := by
  refine Cm.bind (numbers_cm id h) ?_
  unfold path
  cases hn : nm id with
  | none => exact Cm.neg (by simp) (Cm.eq rfl)
  | some c =>
    obtain ⟨hc, hl⟩ := nm_chn hn
    refine Cm.pos rfl ?_
    have e : wrap64 (((ints (c.map (· % 64))).length : Int) - 1) = (c.length : Int) - 1 := by rw [ints_len, List.length_map]; exact w64 (by omega) (by omega)
    show Cm (fun k => name_Path.l0 k (ints (c.map (· % 64))) [1] (wrap64 (((ints (c.map (· % 64))).length : Int) - 1))) _
    rw [e]
    exact Path_l0 id h c hc hl c.length c [] rfl (by simp)

theorem Index_l0 (l : List Int) (c : Int) (hl : l.length < 4611686018427387904) : ∀ (n i : Nat), i ≤ l.length → l.length - i ≤ n → Cm (fun k => (slices_Index_uint64_uint64.l0 k l c (l.length : Int) (i : Int)).bind fun t => some (decide (t ≥ 0))) (decide (c ∈ l.drop i))
  | 0, i, hi', hn => by
    refine Cm.bind (Cm.step (fun _ => slices_Index_uint64_uint64.l0.eq_2 ..) (Cm.neg (by omega) (Cm.here _))) ?_
    rw [List.drop_eq_nil_of_le (by omega)]
    exact Cm.eq (by simp)
  | n + 1, i, hi', hn => by
    by_cases h : i < l.length
    · have ih := Index_l0 l c hl n (i + 1) (by omega) (by omega)
      by_cases he : c = l[i]
      · refine Cm.bind (Cm.step (fun _ => slices_Index_uint64_uint64.l0.eq_2 ..) (Cm.pos (by omega) (Cm.pos (by omega) (Cm.pos (by omega) (Cm.pos (by rw [rd_at l i h]; exact he) (Cm.here _)))))) (Cm.eq ?_)
        rw [List.drop_eq_getElem_cons h, ← he]; simp
      · obtain ⟨k0, hk⟩ := ih
        refine ⟨k0 + 1, fun k hk' => ?_⟩
        obtain ⟨j, rfl⟩ : ∃ j, k = j + 1 := ⟨k - 1, by omega⟩
        have := hk j (by omega)
        simp only [slices_Index_uint64_uint64.l0]
        rw [if_pos (by omega), if_pos (by omega), if_pos (by omega), rd_at l i h, if_neg he, wup i (by omega)]
        refine this.trans ?_
        rw [List.drop_eq_getElem_cons h]
        generalize l.drop (i + 1) = A
        generalize l[i] = y at *
        simp [he]
    · refine Cm.bind (Cm.step (fun _ => slices_Index_uint64_uint64.l0.eq_2 ..) (Cm.neg (by omega) (Cm.here _))) ?_
      rw [List.drop_eq_nil_of_le (by omega)]
      exact Cm.eq (by simp)
theorem ints_mem (c : Nat) (l : List Nat) : (c : Int) ∈ ints l ↔ c ∈ l := by
  unfold ints
  rw [List.mem_map]
  constructor
  · rintro ⟨a, ha, he⟩; rw [← Int.ofNat.inj he]; exact ha
  · exact fun h => ⟨c, h, rfl⟩
theorem path_len (id : Nat) : (path id).length ≤ 7 := by
  unfold path
  cases hn : nm id with
  | none => simp
  | some c => have := (nm_chn hn).2; simp; omega
theorem Within_cm (id b : Nat) (h : id < 18446744073709551616) : Cm (fun k => name_Within.f k (id : Int) (b : Int)) (decide (b ∈ path id)) := by
  have hp := path_len id
  refine Cm.bind (Path_cm id h) (Cm.bind ((Index_l0 (ints (path id)) b (by rw [ints_len]; omega) _ 0 (by omega) (Nat.le_refl _)).of ?_) (Cm.here _))
  simp only [List.drop_zero, ints_mem]

theorem Of_j0 (id : Nat) (n : Int) : Cm (fun k => name_Of.j0 k id n true) (0, 1) := Cm.step (fun _ => name_Of.j0.eq_2 ..) (Cm.pos rfl (Cm.here _))
def ofv (id : Nat) (n : Int) : Int × Int := if (nm id).isSome = true ∧ 1 ≤ n ∧ n ≤ 63 then (if (path id).length = 7 then (0, 13) else ((id : Int) * 64 + n, 0)) else (0, 1)
theorem chn_bound : ∀ {id : Nat} {c : List Nat}, Chn id c → id < 64 ^ c.length * 2
  | _, [], h => by have h : _ = 1 := h; subst h; decide
  | id, y :: c, h => by
    have := chn_bound h.2.2.2
    rw [List.length_cons, Nat.pow_succ]
    omega
theorem nm_bound {id : Nat} {c : List Nat} (h : nm id = some c) (h5 : c.length ≤ 5) : id < 2147483648 := by
  have h1 := chn_bound (nm_chn h).1
  have h2 : 64 ^ c.length ≤ 64 ^ 5 := Nat.pow_le_pow_right (by decide) h5
  have h3 : 64 ^ 5 * 2 = 2147483648 := by decide
  omega
theorem Of_cm (id : Nat) (n : Int) (h : id < 18446744073709551616) : Cm (fun k => name_Of.f k (id : Int) n) (ofv id n) := by
  have hj := Of_j0 id n
  unfold ofv
  refine Cm.bind (May_cm id h) (Cm.ite (fun hm => Cm.ite (fun hn => ?_) (fun hn => ?_)) (fun hm => ?_))
  · rw [if_neg (by omega)]; exact hj
  · cases hd : decide (n > 63) with
    | true => rw [if_neg (by simp at hd; omega)]; exact hj
    | false =>
      have hd : n ≤ 63 := by simpa using hd
      rw [if_pos ⟨hm, by omega, hd⟩]
      refine Cm.step (fun _ => name_Of.j0.eq_2 ..) (Cm.neg (by simp) (Cm.bind (Depth_cm id h) (Cm.ite (fun h6 => ?_) (fun h6 => ?_))))
      · rw [if_pos (by omega)]; exact Cm.here _
      · have hp := path_len id
        rw [if_neg (by omega)]
        obtain ⟨c, hc⟩ := Option.isSome_iff_exists.1 hm
        have hlen : (path id).length = c.length + 1 := by unfold path; rw [hc]; simp
        have hb := nm_bound hc (by omega)
        obtain ⟨m, rfl⟩ := Int.eq_ofNat_of_zero_le (by omega : 0 ≤ n)
        refine Cm.eq ?_
        rw [or64 id m (by omega) (by omega)]
        simp
  · rw [if_neg (by simp [hm])]; exact hj

theorem RPath_l0 : ∀ (f id : Nat) (l : List Nat) (n : Nat), id < 64 ^ f → n + f ≤ 20 → id < 18446744073709551616 → l.length = n →
    Cm (fun k => transomref14_Path.l0 k (id : Int) (ints l) (n : Int)) (match ch f id with | some c => if 6 < l.length + c.length then [] else ints (1 :: (c.reverse ++ l)) | none => []) := by
  have stop : ∀ (id : Nat) (l : List Nat) (n : Nat), l.length ≤ 20 → ¬ 1 < id → Cm (fun k => transomref14_Path.l0 k (id : Int) (ints l) (n : Int)) (if id = 1 then (if 6 < l.length then [] else ints (1 :: l)) else []) := by
    intro id l n hl hid
    refine Cm.step (fun _ => transomref14_Path.l0.eq_2 ..) (Cm.neg (by omega) (Cm.step (fun _ => transomref14_Path.j1.eq_2 ..) (Cm.neg (by simp) (Cm.ite (fun h => ?_) (fun h => ?_)))))
    · rw [if_pos (by omega : id = 1), ints_len]
      refine Cm.ite (fun h => ?_) (fun h => ?_)
      · rw [if_pos (by omega)]; exact Cm.here _
      · rw [if_neg (by omega)]
        exact Cm.bind (Cm.here _) (Cm.pos (by simp; omega) (Cm.eq (by simp [ints])))
    · rw [if_neg (by omega)]; exact Cm.here _
  intro f
  induction f with
  | zero =>
    intro id l n hid hn h64 hl
    obtain rfl : id = 0 := by simpa using hid
    exact (stop 0 l n (by omega) (by omega)).of (by simp [ch])
  | succ f ih =>
    intro id l n hid hn h64 hl
    by_cases h1 : 1 < id
    · have e1 : Int.tmod (id : Int) 64 = ((id % 64 : Nat) : Int) := by rw [Int.tmod_eq_emod_of_nonneg (by omega)]; omega
      have e2 : IntKind.u64.wrap (Int.tdiv (id : Int) 64) = ((id / 64 : Nat) : Int) := by rw [Int.tdiv_eq_ediv_of_nonneg (by omega), wu (by omega) (by omega)]; omega
      have hne : ¬ id = 1 := by omega
      rw [ch, if_neg hne]
      refine Cm.step (fun _ => transomref14_Path.l0.eq_2 ..) (Cm.pos (by omega) ?_)
      rw [decide_eq_true (by omega : (n : Int) < 20)]
      refine Cm.step (fun _ => transomref14_Path.j1.eq_2 ..) (Cm.pos rfl ?_)
      rw [e1, e2]
      refine Cm.ite (fun h => ?_) (fun h => ?_)
      · rw [if_neg (by omega)]; exact Cm.here _
      · rw [if_pos ⟨h1, by omega⟩]
        refine Cm.bind (Cm.here _) (Cm.pos (by rw [ints_len]; simp; omega) ?_)
        rw [wup n (by omega)]
        have e3 : [(id : Int)] ++ ints l = ints (id :: l) := rfl
        rw [e3]
        refine (ih (id / 64) (id :: l) (n + 1) (by rw [Nat.pow_succ] at hid; omega) (by omega) (by omega) (by simp [hl])).of ?_
        cases ch f (id / 64) with
        | none => rfl
        | some c => simp; congr 1; simp; omega
    · refine (stop id l n (by omega) h1).of ?_
      rw [ch]
      split
      · simp
      · rw [if_neg (by omega)]
theorem RPath_cm (id : Nat) (h : id < 18446744073709551616) : Cm (fun k => transomref14_Path.f k (id : Int)) (ints (path id)) := by
  refine (RPath_l0 11 id [] 0 (by have : (64 : Nat) ^ 11 = 73786976294838206464 := by decide
                                  omega) (by omega) h rfl).of ?_
  unfold path
  cases hc : ch 11 id with
  | none =>
    cases hn : nm id with
    | none => rfl
    | some c =>
      have := nm_chn hn
      rw [(ch_iff 11 id c).2 ⟨this.1, by omega⟩] at hc
      cases hc
  | some c =>
    have h1 := (ch_iff 11 id c).1 hc
    by_cases h6 : c.length ≤ 6
    · rw [chn_nm h1.1 h6]
      simp
      omega
    · cases hn : nm id with
      | none => show (if 6 < ([] : List Nat).length + c.length then [] else _) = _; rw [if_pos (by simp; omega)]; rfl
      | some d =>
        have h2 := nm_chn hn
        rw [Chn_one h2.1 h1.1] at h2
        omega
theorem RMay_cm (id : Nat) (h : id < 18446744073709551616) : Cm (fun k => transomref14_May.f k (id : Int)) (nm id).isSome :=
  Cm.bind (RPath_cm id h) (Cm.eq (by rw [ints_len]; unfold path; cases nm id <;> simp))
theorem ROf_j0 (id : Nat) (n : Int) : Cm (fun k => transomref14_Of.j0 k id n true) (0, 1) := Cm.step (fun _ => transomref14_Of.j0.eq_2 ..) (Cm.pos rfl (Cm.here _))
theorem ROf_cm (id : Nat) (n : Int) (h : id < 18446744073709551616) : Cm (fun k => transomref14_Of.f k (id : Int) n) (ofv id n) := by
  have hj := ROf_j0 id n
  unfold ofv
  refine Cm.bind (RMay_cm id h) (Cm.ite (fun hm => Cm.ite (fun hn => ?_) (fun hn => ?_)) (fun hm => ?_))
  · rw [if_neg (by omega)]; exact hj
  · cases hd : decide (n > 63) with
    | true => rw [if_neg (by simp at hd; omega)]; exact hj
    | false =>
      have hd : n ≤ 63 := by simpa using hd
      rw [if_pos ⟨hm, by omega, hd⟩]
      have hp := path_len id
      refine Cm.step (fun _ => transomref14_Of.j0.eq_2 ..) (Cm.neg (by simp) (Cm.bind (RPath_cm id h) ?_))
      rw [ints_len]
      refine Cm.ite (fun h6 => ?_) (fun h6 => ?_)
      · rw [if_pos (by omega)]; exact Cm.here _
      · rw [if_neg (by omega)]
        obtain ⟨c, hc⟩ := Option.isSome_iff_exists.1 hm
        have hlen : (path id).length = c.length + 1 := by unfold path; rw [hc]; simp
        have hb := nm_bound hc (by omega)
        refine Cm.eq ?_
        rw [wu (n := (id : Int) * 64) (by omega) (by omega), wu (n := n) (by omega) (by omega), wu (by omega) (by omega)]
  · rw [if_neg (by simp [hm])]; exact hj
theorem RParent_cm (id : Nat) (h : id < 18446744073709551616) : Cm (fun k => transomref14_Parent.f k (id : Int)) (par id : Int) := by
  have hp := path_len id
  refine Cm.bind (RPath_cm id h) ?_
  unfold par
  rw [ints_len]
  refine Cm.ite (fun h2 => ?_) (fun h2 => ?_)
  · rw [if_pos (by omega)]; exact Cm.here _
  · have hi : ¬ (path id).length < 2 := by omega
    rw [if_neg hi]
    have e : wrap64 (((path id).length : Int) - 2) = (((path id).length - 2 : Nat) : Int) := by rw [w64 (by omega) (by omega)]; omega
    rw [e]
    refine Cm.pos (by omega) (Cm.pos (by omega) (Cm.eq ?_))
    rw [ints_at _ _ (by omega)]
    congr 1
    cases hn : nm id with
    | none => unfold path at h2; rw [hn] at h2; simp at h2
    | some c =>
      obtain ⟨hc, _⟩ := nm_chn hn
      have e2 : path id = 1 :: c.reverse := by unfold path; rw [hn]
      cases c with
      | nil => rw [e2] at h2; simp at h2
      | cons x c =>
        obtain ⟨rfl, h3, h4, h5⟩ := hc
        have hup : c.headD 1 = x / 64 := by
          cases c with
          | nil => exact h5.symm
          | cons y c => exact h5.1
        have e3 : path x = (1 :: c.reverse) ++ [x] := by rw [e2]; simp
        simp only [e3]
        rw [List.getElem_append_left (by simp)]
        rw [← hup]
        cases c with
        | nil => rfl
        | cons y c => simp
theorem RNumber_cm (id : Nat) (h : id < 18446744073709551616) : Cm (fun k => transomref14_Number.f k (id : Int)) (num id : Int) := by
  refine Cm.bind (RPath_cm id h) ?_
  unfold num
  rw [ints_len]
  refine Cm.ite (fun h2 => ?_) (fun h2 => ?_)
  · rw [if_pos (by omega)]; exact Cm.here _
  · rw [if_neg (by omega)]
    refine Cm.eq ?_
    rw [Int.tmod_eq_emod_of_nonneg (by omega), w64 (by omega) (by omega)]
    omega
theorem RDepth_cm (id : Nat) (h : id < 18446744073709551616) : Cm (fun k => transomref14_Depth.f k (id : Int)) ((path id).length - 1 : Nat) := by
  have hp := path_len id
  refine Cm.bind (RPath_cm id h) (Cm.eq ?_)
  rw [ints_len, w64 (by omega) (by omega)]
  unfold mx
  split <;> omega
theorem begun14_cm : Cm (fun k => transomlaw14_begun.f k) true := Cm.of_ex (transomlaw14_begun.mono) 40 (by decide +kernel)
end Go.Proofs.Ytfgndnackofenaa.PN
