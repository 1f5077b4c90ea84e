/-
  Labels out of bytes, in plain Lean. No condition.
-/
import Derived.Test.YtkmdeahnkfdhjaaEM8
namespace Go.Proofs.YtkmdeahnkfdhjaaW.E
open Go Go.RowKit
set_option linter.unusedVariables false
set_option linter.unusedSimpArgs false

def isB (x : Int) : Prop := 0 ≤ x ∧ x < 256
/-- The j-th pair that the bytes say. -/
def prB (b : List Int) (j : Nat) : Pr := ⟨IntKind.u16.wrap (tkv (b.drop (2 + 3 * j)) 2), b.getD (4 + 3 * j) 0⟩
def tps (b : List Int) (n : Nat) : List Pr := (List.range n).map (prB b)
theorem tps_succ (b : List Int) (n : Nat) : tps b (n + 1) = tps b n ++ [prB b n] := by simp [tps, List.range_succ]
theorem tps_len (b : List Int) (n : Nat) : (tps b n).length = n := by simp [tps]
def kB (b : List Int) : Nat := (b.getD 1 0).toNat
def longB (b : List Int) : Bool := decide (2 ≤ b.length) && decide (2 + 3 * kB b ≤ b.length)
def goodB (b : List Int) : Bool := longB b && mayL (b.getD 0 0) (tps b (kB b))
def tkD (b : List Int) : Int := if goodB b then b.getD 0 0 else 0
def tkL (b : List Int) : List Pr := if goodB b then tps b (kB b) else []
def tkN (b : List Int) : Int := if goodB b then ((2 + 3 * kB b : Nat) : Int) else 0
def tkE (b : List Int) : Int := if goodB b then 0 else if longB b then 2 else 3

theorem wrap64 {x : Int} (h : 0 ≤ x) (h2 : x < 9223372036854775808) : IntKind.u64.wrap x = x := by simp [IntKind.wrap, IntKind.bits]; omega
theorem wrap16 {x : Int} (h : 0 ≤ x) (h2 : x < 65536) : IntKind.u16.wrap x = x := by simp [IntKind.wrap, IntKind.bits, IntKind.signed]; omega
theorem wrap8 {x : Int} (h : isB x) : IntKind.u8.wrap x = x := by obtain ⟨h, h2⟩ := h; simp [IntKind.wrap, IntKind.bits, IntKind.signed]; omega
theorem or_lo (x y : Nat) (hx : x < 256) (hy : y < 256) : (BitVec.ofInt 64 ((x * 256 : Nat) : Int) ||| BitVec.ofInt 64 ((y : Nat) : Int)).toNat = x * 256 + y := by
  rw [BitVec.toNat_or, BitVec.ofInt_natCast, BitVec.ofInt_natCast, BitVec.toNat_ofNat, BitVec.toNat_ofNat, Nat.mod_eq_of_lt (by omega), Nat.mod_eq_of_lt (by omega)]
  have := Nat.shiftLeft_add_eq_or_of_lt (b := y) (i := 8) (by omega) x
  rw [Nat.shiftLeft_eq] at this
  exact this.symm
theorem tkv2 (x y : Int) (l : List Int) (hx : isB x) (hy : isB y) : tkv (x :: y :: l) 2 = x * 256 + y := by
  obtain ⟨hx1, hx2⟩ := hx
  obtain ⟨hy1, hy2⟩ := hy
  obtain ⟨a, rfl⟩ : ∃ n : Nat, x = n := ⟨x.toNat, by omega⟩
  obtain ⟨c, rfl⟩ : ∃ n : Nat, y = n := ⟨y.toNat, by omega⟩
  have e1 : tkv ((a : Int) :: (c : Int) :: l) 1 = a := by
    simp only [tkv, List.getD_cons_zero]
    have h0 : IntKind.u64.wrap (0 * 2 ^ min (8 : Int).toNat IntKind.u64.bits) = ((0 * 256 : Nat) : Int) := by rw [Int.zero_mul]; rfl
    rw [h0, wrap64 (x := (a : Int)) (by omega) (by omega)]
    show IntKind.u64.wrap ((BitVec.ofInt 64 ((0 * 256 : Nat) : Int) ||| BitVec.ofInt 64 (a : Int)).toNat : Int) = a
    rw [or_lo 0 a (by omega) (by omega), wrap64 (by omega) (by omega)]; omega
  rw [show (2 : Nat) = 1 + 1 from rfl, tkv, e1]
  simp only [List.getD_cons_succ, List.getD_cons_zero]
  have h0 : IntKind.u64.wrap ((a : Int) * 2 ^ min (8 : Int).toNat IntKind.u64.bits) = ((a * 256 : Nat) : Int) := by
    have : (2 : Int) ^ min (8 : Int).toNat IntKind.u64.bits = 256 := by decide
    rw [this, wrap64 (by omega) (by omega)]; omega
  rw [h0, wrap64 (x := (c : Int)) (by omega) (by omega)]
  show IntKind.u64.wrap ((BitVec.ofInt 64 ((a * 256 : Nat) : Int) ||| BitVec.ofInt 64 (c : Int)).toNat : Int) = a * 256 + c
  rw [or_lo a c (by omega) (by omega), wrap64 (by omega) (by omega)]; omega

/-- A pair's bytes, plainly. -/
def enS (p : Pr) : List Int := [p.c / 256, p.c % 256, p.l]
def encS (d : Int) (l : List Pr) : List Int := [d, (l.length : Int)] ++ l.flatMap enS
def wfP (p : Pr) : Prop := 0 ≤ p.c ∧ p.c < 65536 ∧ isB p.l
theorem pb1 {x : Int} (h : isB x) : pb (IntKind.u64.wrap x) 1 = [x] := by
  have h' := h
  obtain ⟨h1, h2⟩ := h'
  rw [wrap64 h1 (by omega)]
  simp only [pb, byteAt]
  have : (2 : Int) ^ min (8 * 0) IntKind.u64.bits = 1 := by decide
  rw [this, Int.fdiv_one, wrap8 h]
theorem pb2 {x : Int} (h1 : 0 ≤ x) (h2 : x < 65536) : pb (IntKind.u64.wrap x) 2 = [x / 256, x % 256] := by
  rw [wrap64 h1 (by omega)]
  simp only [pb, byteAt]
  have e1 : (2 : Int) ^ min (8 * 0) IntKind.u64.bits = 1 := by decide
  have e2 : (2 : Int) ^ min (8 * 1) IntKind.u64.bits = 256 := by decide
  rw [e1, e2, Int.fdiv_one, Int.fdiv_eq_ediv_of_nonneg _ (by omega)]
  rw [wrap8 (x := x / 256) ⟨by omega, by omega⟩]
  have e3 : IntKind.u8.wrap x = x % 256 := by simp [IntKind.wrap, IntKind.bits, IntKind.signed]
  rw [e3]
theorem enp_S {p : Pr} (h : wfP p) : enp p = enS p := by
  obtain ⟨h1, h2, h3⟩ := h
  simp [enp, pb2 h1 h2, pb1 h3, enS]
theorem fm_congr {f g : Pr → List Int} : ∀ {l : List Pr}, (∀ p ∈ l, f p = g p) → l.flatMap f = l.flatMap g
  | [], _ => rfl
  | p :: l, h => by rw [List.flatMap_cons, List.flatMap_cons, h p List.mem_cons_self, fm_congr fun q hq => h q (List.mem_cons_of_mem _ hq)]
theorem enc_S {d : Int} {l : List Pr} (hd : isB d) (hl : l.length < 256) (h : ∀ p ∈ l, wfP p) : enc d l = encS d l := by
  unfold enc encS
  rw [pb1 hd, pb1 ⟨by omega, by omega⟩, fm_congr fun p hp => enp_S (h p hp)]
  rfl
theorem enS_len (p : Pr) : (enS p).length = 3 := rfl
theorem fmS_len : ∀ l : List Pr, (l.flatMap enS).length = 3 * l.length
  | [] => rfl
  | p :: l => by rw [List.flatMap_cons, List.length_append, fmS_len l, List.length_cons, enS_len]; omega
theorem encS_len (d : Int) (l : List Pr) : (encS d l).length = 2 + 3 * l.length := by
  unfold encS; rw [List.length_append, fmS_len]; rfl
/-- The bytes from the j-th pair on. -/
theorem fmS_drop (m : List Int) : ∀ (l : List Pr) (j : Nat) (h : j < l.length), (l.flatMap enS ++ m).drop (3 * j) = enS l[j] ++ ((l.drop (j + 1)).flatMap enS ++ m)
  | p :: l, 0, _ => by simp
  | p :: l, j + 1, h => by
    have ih := fmS_drop m l j (by simpa using h)
    rw [List.flatMap_cons, List.append_assoc, show 3 * (j + 1) = 3 + 3 * j by omega, ← List.drop_drop, List.drop_left' (by rfl), ih]
    simp
theorem encS_drop (d : Int) (l : List Pr) (m : List Int) (j : Nat) (h : j < l.length) : (encS d l ++ m).drop (2 + 3 * j) = enS l[j] ++ ((l.drop (j + 1)).flatMap enS ++ m) := by
  unfold encS
  rw [List.append_assoc, ← List.drop_drop]
  exact fmS_drop m l j h
theorem getD_drop (b : List Int) (n i : Nat) : b.getD (n + i) 0 = (b.drop n).getD i 0 := by simp [List.getD_eq_getElem?_getD, List.getElem?_drop]
theorem prB_enc (d : Int) (l : List Pr) (m : List Int) (j : Nat) (h : j < l.length) (hw : wfP l[j]) : prB (encS d l ++ m) j = l[j] := by
  have e := encS_drop d l m j h
  obtain ⟨h1, h2, h3⟩ := hw
  unfold prB
  rw [show 4 + 3 * j = (2 + 3 * j) + 2 by omega, getD_drop, e]
  have : tkv (enS l[j] ++ ((l.drop (j + 1)).flatMap enS ++ m)) 2 = l[j].c := by
    simp only [enS, List.cons_append]
    rw [tkv2 _ _ _ ⟨by omega, by omega⟩ ⟨by omega, by omega⟩]; omega
  rw [this]
  have e2 : IntKind.u16.wrap l[j].c = l[j].c := by simp [IntKind.wrap, IntKind.bits, IntKind.signed]; omega
  rw [e2]
  rfl
theorem tps_enc (d : Int) (l : List Pr) (m : List Int) (hw : ∀ p ∈ l, wfP p) : tps (encS d l ++ m) l.length = l := by
  apply List.ext_getElem?
  intro j
  unfold tps
  by_cases h : j < l.length
  · rw [List.getElem?_map, List.getElem?_range h]
    simp only [Option.map_some, prB_enc d l m j h (hw _ (List.getElem_mem h)), h, List.getElem?_eq_getElem]
  · simp [h]
/-- What is put is taken. -/
theorem take_enc (d : Int) (l : List Pr) (m : List Int) (hw : ∀ p ∈ l, wfP p) (hm : mayL d l = true) : let b := encS d l ++ m
    goodB b = true ∧ tkD b = d ∧ tkL b = l ∧ tkN b = ((2 + 3 * l.length : Nat) : Int) ∧ tkE b = 0 := by
  have k : kB (encS d l ++ m) = l.length := by simp [kB, encS]
  have d0 : (encS d l ++ m).getD 0 0 = d := by simp [encS]
  have t := tps_enc d l m hw
  have hl : (encS d l ++ m).length = 2 + 3 * l.length + m.length := by rw [List.length_append, encS_len]
  have hg : goodB (encS d l ++ m) = true := by
    simp only [goodB, longB, k, t, d0, hm, Bool.and_true, Bool.and_eq_true, decide_eq_true_eq]; omega
  refine ⟨hg, ?_, ?_, ?_, ?_⟩
  · simp only [tkD, hg, if_true, d0]
  · simp only [tkL, hg, if_true, k, t]
  · simp only [tkN, hg, if_true, k]
  · simp only [tkE, hg, if_true]
/-- What is cut off is short. -/
theorem take_cut (d : Int) (l : List Pr) (n : Nat) (h : n < 2 + 3 * l.length) : tkE ((encS d l).take n) = 3 := by
  have hl := encS_len d l
  have hlong : longB ((encS d l).take n) = false := by
    unfold longB
    rw [List.length_take]
    by_cases h2 : 2 ≤ n
    · have k : kB ((encS d l).take n) = l.length := by
        unfold kB
        rw [List.getD_eq_getElem?_getD, List.getElem?_take_of_lt (by omega)]
        simp [encS]
      rw [k]
      simp; omega
    · simp; omega
  simp [tkE, goodB, hlong]
/-- What is taken is put as it was. -/
theorem enc_take (b : List Int) (hb : ∀ x ∈ b, isB x) (h : goodB b = true) : encS (tkD b) (tkL b) = b.take (2 + 3 * kB b) := by
  have h' := h
  simp only [goodB, longB, Bool.and_eq_true, decide_eq_true_eq] at h'
  obtain ⟨⟨h1, h2⟩, _⟩ := h'
  have hB : ∀ j, j < b.length → isB (b.getD j 0) := fun j hj => by
    rw [List.getD_eq_getElem?_getD, List.getElem?_eq_getElem hj]; exact hb _ (List.getElem_mem hj)
  have hk := hB 1 (by omega)
  have hk' : ((kB b : Nat) : Int) = b.getD 1 0 := by unfold kB; have := hk.1; omega
  simp only [tkD, tkL, h, if_true]
  have key : ∀ n, 2 + 3 * n ≤ b.length → [b.getD 0 0, b.getD 1 0] ++ (tps b n).flatMap enS = b.take (2 + 3 * n) := by
    intro n
    induction n with
    | zero =>
      intro _
      match b, h1 with
      | x :: y :: b, _ => simp [tps]
    | succ n ih =>
      intro hn
      have hsplit : b.take (2 + 3 * (n + 1)) = b.take (2 + 3 * n) ++ [b.getD (2 + 3 * n) 0, b.getD (2 + 3 * n + 1) 0, b.getD (2 + 3 * n + 2) 0] := by
        rw [show 2 + 3 * (n + 1) = 2 + 3 * n + 1 + 1 + 1 by omega]
        rw [take_snoc b (2 + 3 * n + 1 + 1) (by omega), take_snoc b (2 + 3 * n + 1) (by omega), take_snoc b (2 + 3 * n) (by omega)]
        simp only [List.append_assoc, List.cons_append, List.nil_append]
        simp [List.getD_eq_getElem?_getD, show 2 + 3 * n < b.length by omega, show 2 + 3 * n + 1 < b.length by omega, show 2 + 3 * n + 2 < b.length by omega]
      rw [tps_succ, List.flatMap_append, ← List.append_assoc, ih (by omega), hsplit]
      congr 1
      simp only [List.flatMap_cons, List.flatMap_nil, List.append_nil]
      have ha := hB (2 + 3 * n) (by omega)
      have hc := hB (2 + 3 * n + 1) (by omega)
      have hd : b.drop (2 + 3 * n) = b.getD (2 + 3 * n) 0 :: b.getD (2 + 3 * n + 1) 0 :: b.drop (2 + 3 * n + 2) := by
        rw [List.drop_eq_getElem_cons (by omega), List.drop_eq_getElem_cons (by omega)]
        simp [List.getD_eq_getElem?_getD, show 2 + 3 * n < b.length by omega, show 2 + 3 * n + 1 < b.length by omega]
      unfold enS prB
      rw [hd, tkv2 _ _ _ ha hc, show 4 + 3 * n = 2 + 3 * n + 2 by omega]
      obtain ⟨a1, a2⟩ := ha
      obtain ⟨c1, c2⟩ := hc
      have e : IntKind.u16.wrap (b.getD (2 + 3 * n) 0 * 256 + b.getD (2 + 3 * n + 1) 0) = b.getD (2 + 3 * n) 0 * 256 + b.getD (2 + 3 * n + 1) 0 := wrap16 (by omega) (by omega)
      simp only [e]
      congr 1
      · omega
      · congr 1
        omega
  have := key (kB b) h2
  unfold encS
  rw [tps_len, hk']
  exact this
/-- Two labels with one text are one. -/
theorem encS_inj {d d' : Int} {l l' : List Pr} (hw : ∀ p ∈ l, wfP p) (hw' : ∀ p ∈ l', wfP p) (h : encS d l = encS d' l') : d = d' ∧ l = l' := by
  have h0 : d = d' := by have := congrArg (fun x => x.getD 0 0) h; simpa [encS] using this
  have h1 : l.length = l'.length := by have := congrArg List.length h; rw [encS_len, encS_len] at this; omega
  have e1 := tps_enc d l [] hw
  have e2 := tps_enc d' l' [] hw'
  rw [h, h1, e2] at e1
  exact ⟨h0, e1.symm⟩
theorem mem_take_enc {d : Int} {l : List Pr} (hd : isB d) (hl : l.length < 256) (hw : ∀ p ∈ l, wfP p) : ∀ x ∈ encS d l, isB x := by
  intro x hx
  unfold encS at hx
  simp only [List.mem_append, List.mem_cons, List.not_mem_nil, or_false, List.mem_flatMap] at hx
  rcases hx with (rfl | rfl) | ⟨p, hp, hx⟩
  · exact hd
  · exact ⟨by omega, by omega⟩
  · obtain ⟨a1, a2, a3⟩ := hw p hp
    simp only [enS, List.mem_cons, List.not_mem_nil, or_false] at hx
    rcases hx with rfl | rfl | rfl
    · exact ⟨by omega, by omega⟩
    · exact ⟨by omega, by omega⟩
    · exact a3
/-- Bytes as a string. -/
theorem bcat_data (ns : List Int) (hb : ∀ x ∈ ns, isB x) : (bcat ns).data.toList.map (fun x => (x.toNat : Int)) = ns := by
  have key : ∀ (ns : List Int) (r : ByteArray), (∀ x ∈ ns, isB x) → (ns.foldl (fun r n => r.push (UInt8.ofNat n.toNat)) r).data.toList.map (fun x => (x.toNat : Int)) = r.data.toList.map (fun x => (x.toNat : Int)) ++ ns := by
    intro ns
    induction ns with
    | nil => intro r _; simp
    | cons n ns ih =>
      intro r h
      rw [List.foldl_cons, ih _ (fun x hx => h x (List.mem_cons_of_mem _ hx))]
      obtain ⟨h1, h2⟩ := h n List.mem_cons_self
      have : ((UInt8.ofNat n.toNat).toNat : Int) = n := by
        rw [UInt8.toNat_ofNat']; omega
      simp only [ByteArray.push, Array.toList_push, List.map_append, List.map_cons, List.map_nil, this, List.append_assoc, List.cons_append, List.nil_append]
  have := key ns ByteArray.empty hb
  simpa [bcat] using this
theorem bcat_inj {a b : List Int} (ha : ∀ x ∈ a, isB x) (hb : ∀ x ∈ b, isB x) (h : bcat a = bcat b) : a = b := by
  rw [← bcat_data a ha, ← bcat_data b hb, h]
end Go.Proofs.YtkmdeahnkfdhjaaW.E
