/-
  Slices that are written to in place: their cells stand in a box. What copy, clear, append and len, cap, elements, parts make of them. Laws over any program; no condition.
-/
import Derived.Test.YtkmdeahnkfdhjaaE9
namespace Go.Proofs.YtkmdeahnkfdhjaaW.E
open Go Go.RowKit
set_option linter.unusedVariables false
set_option linter.unusedSimpArgs false

/-- The first m elements of a slice, cell by cell. -/
def srcCells (st : St) (sz m : Nat) : AV → Option (List AV)
  | .list sz' ys _ => if (sz' = sz ∨ ys.isEmpty = true) ∧ m ≤ ys.length then some ((flat ys).take (m * sz)) else none
  | .bsl k g off n _ => if (st.B k).1 = g ∧ m ≤ n ∧ off + m * sz ≤ (st.B k).2.length then some (((st.B k).2.drop off).take (m * sz)) else none
  | _ => none
def srcLen : AV → Option Nat
  | .list _ ys _ => some ys.length
  | .bsl _ _ _ n _ => some n
  | _ => none

section
variable {P : Program} {base : Nat} {w0 : Entry} {st : St} {o : Oper}

theorem RV.bsl_inv {E : Env} {w : World} {k g off n c : Nat} {v : Value} (h : RV E w (.bsl k g off n c) v) : ∃ b, v = .slice (some ⟨b, off, none⟩) n c ∧ (g = E.G k → b = E.bm k) := by
  cases h with
  | pure _ _ h => cases h with | data _ _ h => cases h
  | bsl _ _ _ _ _ b hg hb => exact ⟨b, rfl, hb⟩

theorem first_any (sz m n c : Nat) (A : Option Addr) : Builtin.firstCells sz m (.slice A n c) = Builtin.firstCells sz m (.slice A m c) := by cases A <;> rfl

theorem src_ok {E : Env} {B : Nat → Nat × List AV} {L : Nat → Nat} {w : World} (hok : OK base w0 E B L w) {st : St} (hB : st.B = B) {a : AV} {v : Value} (hr : RV E w a v) {sz m n : Nat} {cs : List AV} (hn : srcLen a = some n) (h : srcCells st sz m a = some cs) :
    ∃ (A : Option Addr) (c : Nat) (us : List Value), v = .slice A n c ∧ n ≤ n ∧ us.length = cs.length ∧ cs.length = m * sz ∧ (∀ u ∈ us, u.oneCell' = true) ∧ (∀ (i : Nat) y u, cs[i]? = some y → us[i]? = some u → RV E w y u) ∧ (Builtin.firstCells sz m v).run P w = .ok us.toArray w := by
  subst hB
  cases a with
  | list sz' ys ow =>
    simp only [srcLen, Option.some.injEq] at hn
    subst hn
    simp only [srcCells] at h
    split at h
    · rename_i hc
      obtain ⟨h1, h2⟩ := hc
      cases h
      obtain ⟨A, c, b, off, hv, _, hA, hz, hrow, _⟩ := RD.list_iff.1 hr.list_no
      subst hv
      have hz' : ∀ y ∈ ys, y.cells.length = sz := fun y hy => by
        rcases h1 with h | h
        · rw [← h]; exact hz y hy
        · have : ys = [] := by simpa using h
          rw [this] at hy; simp at hy
      have hfl := flat_len ys hz'
      have hrow' : Row E.S w (RD E.S w) b off ((flat ys).take (m * sz)) := fun i y hy => by
        have hi : i < m * sz := by have := (List.getElem?_eq_some_iff.1 hy).1; simp at this; omega
        rw [List.getElem?_take_of_lt hi] at hy
        exact hrow i y hy
      obtain ⟨us, e1, e2, e3, e4⟩ := row_vals hrow'
      have hlen : ((flat ys).take (m * sz)).length = m * sz := by rw [List.length_take, hfl]; exact Nat.min_eq_left (Nat.mul_le_mul_right _ h2)
      refine ⟨A, c, us, rfl, Nat.le_refl _, e1, hlen, e3, fun i y u hy hu => .pure _ _ (.data _ _ (e4 i y u hy hu)), ?_⟩
      rw [first_any]
      exact run_first (P := P) (b := b) (off := off) (fun hm => hA (fun e => by rw [e] at h2; simp at h2; exact hm h2)) (by rw [e1, hlen]) e2
    · cases h
  | bsl k g off n' c =>
    simp only [srcLen, Option.some.injEq] at hn
    subst hn
    simp only [srcCells] at h
    split at h
    · rename_i hc
      obtain ⟨h1, h2, h3⟩ := hc
      cases h
      obtain ⟨b, rfl, hb⟩ := hr.bsl_inv
      have hb' : b = E.bm k := hb (by rw [hok.G k]; exact h1.symm)
      subst hb'
      have hlen : (((st.B k).2.drop off).take (m * sz)).length = m * sz := by simp; omega
      have hcell : ∀ i, i < m * sz → ∃ y u, (((st.B k).2.drop off).take (m * sz))[i]? = some y ∧ w.cell? ⟨E.bm k, off + i, none⟩ = some u ∧ u.oneCell' = true ∧ RV E w y u := fun i hi => by
        have hne : (st.B k).2 ≠ [] := fun e => by rw [e] at h3; simp at h3; omega
        obtain ⟨_, _, t, ccs, b3, b4, b5⟩ := hok.box k hne
        have hlt : off + i < ccs.size := by omega
        have hlt2 : off + i < (st.B k).2.length := by omega
        obtain ⟨b6, b7⟩ := b5 (off + i) (st.B k).2[off + i] ccs[off + i] (by simp [hlt2]) (by simp [hlt])
        refine ⟨(st.B k).2[off + i], ccs[off + i], ?_, ?_, b6, b7⟩
        · rw [List.getElem?_take_of_lt hi, List.getElem?_drop]; simp [hlt2]
        · simp [World.cell?, b3, hlt]
      refine ⟨_, c, (List.range (m * sz)).map fun i => (w.cell? ⟨E.bm k, off + i, none⟩).getD undef, rfl, Nat.le_refl _, by rw [hlen]; simp, hlen, fun u hu => ?_, fun i y u hy hu => ?_, ?_⟩
      · obtain ⟨i, hi, rfl⟩ := List.mem_map.1 hu
        obtain ⟨y, u, _, h5, h6, _⟩ := hcell i (by simpa using hi)
        rw [h5]; exact h6
      · have hi : i < m * sz := by have := (List.getElem?_eq_some_iff.1 hy).1; omega
        obtain ⟨y', u', h4, h5, _, h7⟩ := hcell i hi
        rw [h4] at hy; cases hy
        rw [List.getElem?_map, List.getElem?_range hi] at hu
        cases hu
        simpa only [h5, Option.getD_some] using h7
      · refine run_firstCells_some (P := P) w sz m ⟨E.bm k, off, none⟩ n' c _ (by simp) (fun j v hj => ?_)
        have hi : j < m * sz := by have := (List.getElem?_eq_some_iff.1 hj).1; simpa using this
        obtain ⟨_, u', _, h5, _, _⟩ := hcell j hi
        rw [List.getElem?_map, List.getElem?_range hi] at hj
        cases hj
        rw [Addr.add_mid, h5]
        simp only [h5, Option.getD_some]
    · cases h
  | _ => simp [srcLen] at hn

/-- Cells stored into a box. -/
theorem OK.spliceBox {E : Env} {B : Nat → Nat × List AV} {L : Nat → Nat} {w : World} (hok : OK base w0 E B L w) (k : Nat) (hne : (B k).2 ≠ []) (p : Nat) (cs : List AV) (us : List Value) (hl : us.length = cs.length) (hfit : p + cs.length ≤ (B k).2.length)
    (h1 : ∀ u ∈ us, u.oneCell' = true) (h2 : ∀ (i : Nat) y u, cs[i]? = some y → us[i]? = some u → RV E w y u) :
    ∃ w', (storeCells ⟨E.bm k, p, none⟩ us).run P w = .ok () w' ∧ E.Le w E w' ∧ OK base w0 E (upd B k ((B k).1, splice (B k).2 p cs)) L w' := by
  obtain ⟨b1, b2, bt, old, b3, b4, b5⟩ := hok.box k hne
  have hst := run_storeCells_at P (E.bm k) p bt us 0 old w b3 (by omega) h1
  have hnew : ((old.toList.take (p + 0) ++ us ++ old.toList.drop (p + 0 + us.length)).toArray) = (splice old.toList p us).toArray := by simp [splice]
  rw [hnew] at hst
  have hlen : p + us.length ≤ old.toList.length := by simp; omega
  obtain ⟨hle, hok'⟩ := hok.setBox k hne (splice (B k).2 p cs) (splice old.toList p us).toArray (splice_len _ _ _ hfit) (by rw [splice_len _ _ _ hfit, List.size_toArray, splice_len _ _ _ hlen]; simp [b4]) (fun j c v hcj hvj => by
    rw [splice_get _ _ _ hfit] at hcj
    rw [List.getElem?_toArray, splice_get _ _ _ hlen] at hvj
    split at hcj
    · rename_i hin
      rw [if_pos (by omega)] at hvj
      exact ⟨h1 v (List.mem_of_getElem? hvj), h2 _ c v hcj hvj⟩
    · rename_i hin
      rw [if_neg (by omega)] at hvj
      rw [Array.getElem?_toList] at hvj
      exact b5 j c v hcj hvj)
  exact ⟨_, hst, hle, hok'⟩

theorem does_copy {c : Call} (ho : o.op = .call c) (hc : c.callee = .builtin .copy) {x y : Operand} (hx : c.args = #[x, y]) {t e : TypeId} {ts : List TypeId} (ht : c.argTypes.toList = t :: ts) {i ei : TInfo} (hT : TOK P t i) (he : i.elem = some e) (hE : TOK P e ei)
    {k g off n cp ly : Nat} (hxv : evalA st x = .bsl k g off n cp) (hly : srcLen (evalA st y) = some ly) {cs : List AV} (hcs : srcCells st ei.sz (min ly n) (evalA st y) = some cs) (hg : (st.B k).1 = g) (hne : (st.B k).2 ≠ []) (hfit : off + cs.length ≤ (st.B k).2.length) :
    Does P base w0 st o { v := .val (.int .i64 (min ly n : Nat)), box := some (k, g, splice (st.B k).2 off cs) } := by
  intro E a w hok hs hn0 hd0 K Q hK
  have hrx := evalA_ok hs x
  rw [hxv] at hrx
  obtain ⟨b, hv, hb⟩ := hrx.bsl_inv
  have hb' : b = E.bm k := hb (by rw [hok.G k]; exact hg.symm)
  subst hb'
  obtain ⟨A, cy, us, hvy, _, ul, cl, u1, u2, u3⟩ := src_ok (P := P) hok (st := st) rfl (evalA_ok hs y) hly hcs
  obtain ⟨w', s1, s2, s3⟩ := hok.spliceBox (P := P) k hne off cs us ul hfit u1 u2
  have hty : c.argTypes[0]? = some t := by rw [← Array.getElem?_toList, ht]; rfl
  have hmin : Nat.min ly n = min ly n := rfl
  rw [hvy] at u3
  have hrun : (execOp a.eval o).run P w = .ok (.value (.int .i64 (min ly n : Nat))) w' := by
    simp [execOp, ho, resolve, hc, hx, hv, hvy, invoke, builtin, Builtin.copy_, hty, run_underlying (hT.elem e he) w, Builtin.lenOf, hmin, hE.size w, u3, s1, goInt]
  unfold Oper.wp
  rw [hrun]
  subst hg
  exact hK _ _ _ s2 s3 (RV.val_iff.2 rfl)

theorem does_appendIn {c : Call} (ho : o.op = .call c) (hc : c.callee = .builtin .append) {x y : Operand} (hx : c.args = #[x, y]) {t e : TypeId} (ht : c.argTypes = #[t, t]) {i ei : TInfo} (hT : TOK P t i) (he : i.elem = some e) (hE : TOK P e ei)
    {k g off n cp m : Nat} (hxv : evalA st x = .bsl k g off n cp) (hly : srcLen (evalA st y) = some m) {cs : List AV} (hcs : srcCells st ei.sz m (evalA st y) = some cs) (hroom : n + m ≤ cp) (hg : (st.B k).1 = g) (hne : (st.B k).2 ≠ []) (hfit : off + n * ei.sz + cs.length ≤ (st.B k).2.length) :
    Does P base w0 st o { v := .bsl k g off (n + m) cp, box := some (k, g, splice (st.B k).2 (off + n * ei.sz) cs) } := by
  intro E a w hok hs hn0 hd0 K Q hK
  obtain ⟨d, inf, z, _, hinf, hz, _, hsz, _⟩ := hE.ex
  have hrx := evalA_ok hs x
  rw [hxv] at hrx
  obtain ⟨b, hv, hb⟩ := hrx.bsl_inv
  have hb' : b = E.bm k := hb (by rw [hok.G k]; exact hg.symm)
  subst hb'
  obtain ⟨A, cy, us, hvy, _, ul, cl, u1, u2, u3⟩ := src_ok (P := P) hok (st := st) rfl (evalA_ok hs y) hly hcs
  obtain ⟨w', s1, s2, s3⟩ := hok.spliceBox (P := P) k hne (off + n * ei.sz) cs us ul hfit u1 u2
  rw [hvy, hsz] at u3
  rw [hsz] at s1
  have hrun0 := run_append_room' (P := P) (ty := o.type) (A := some ⟨E.bm k, off, none⟩) (n := n) (c := cp) (w' := w') (hT.elem e he) hinf u3 hroom (fun a' ha' => by cases ha'; rw [Addr.add_mid]; exact s1) (fun h => by cases h)
  have hrun : (execOp a.eval o).run P w = .ok (.value (.slice (some ⟨E.bm k, off, none⟩) (n + m) cp)) w' := by
    simp [execOp, ho, resolve, hc, hx, ht, hv, hvy, invoke, builtin, hrun0]
  unfold Oper.wp
  rw [hrun]
  subst hg
  exact hK _ _ _ s2 s3 (.bsl _ _ _ _ _ _ (Nat.le_of_eq (hok.G k).symm) (fun _ => rfl))

/-- n elements of zeros. -/
def zerosA (n : Nat) (z : List AV) : List AV := (List.replicate n z).flatten
theorem zerosA_len (n : Nat) (z : List AV) : (zerosA n z).length = n * z.length := by simp [zerosA]
theorem zerosA_get (z : List AV) : ∀ (n j : Nat), j < n * z.length → (zerosA n z)[j]? = z[j % z.length]?
  | 0, j, h => by omega
  | n + 1, j, h => by
    have e : zerosA (n + 1) z = z ++ zerosA n z := by simp [zerosA, List.replicate_succ]
    rw [e]
    rw [Nat.succ_mul] at h
    by_cases hj : j < z.length
    · rw [List.getElem?_append_left hj, Nat.mod_eq_of_lt hj]
    · rw [List.getElem?_append_right (by omega), zerosA_get z n (j - z.length) (by omega)]
      congr 1
      conv => rhs; rw [show j = j - z.length + z.length by omega, Nat.add_mod_right]
theorem zeros_ok {e : TypeId} {ei : TInfo} (hE : TOK P e ei) : ∃ inf z, P.info? e = some inf ∧ inf.zero = some z ∧ z.cells.size = ei.sz ∧ ei.zero.length = ei.sz ∧ ∀ n, (Builtin.zeroCells z.cells n).size = n * ei.sz ∧ (∀ u ∈ (Builtin.zeroCells z.cells n).toList, u.oneCell' = true) ∧
    ∀ (S : Pl) (w : World) (i : Nat) y u, (zerosA n ei.zero)[i]? = some y → (Builtin.zeroCells z.cells n)[i]? = some u → RD S w y u := by
  obtain ⟨d, inf, z, _, hinf, hz, _, hsz, _, hzsz, hone, hzlen, hzero⟩ := hE.ex
  have h1 : z.cells.size = ei.sz := by rw [hzsz, hsz]
  refine ⟨inf, z, hinf, hz, h1, by omega, fun n => ⟨by rw [size_zeroCells, h1], fun u hu => ?_, fun S w i y u hy hu => ?_⟩⟩
  · obtain ⟨i, hi, rfl⟩ := List.mem_iff_getElem.1 hu
    simp only [Builtin.zeroCells, Array.getElem_toList, Array.getElem_map, Array.getElem_range]
    have hi' : i < n * z.cells.size := by simpa [Builtin.zeroCells] using hi
    have hpos : 0 < z.cells.size := Nat.pos_of_ne_zero fun e => by rw [e] at hi'; simp at hi'
    have hlt := Nat.mod_lt i hpos
    rw [getElem!_pos z.cells _ hlt]
    exact hone _ (Array.getElem_mem hlt)
  · have hi : i < n * ei.zero.length := by have := (List.getElem?_eq_some_iff.1 hy).1; rw [zerosA_len] at this; exact this
    rw [zerosA_get _ _ _ hi] at hy
    have hi' : i < n * z.cells.size := by rw [h1]; rw [show ei.zero.length = ei.sz by omega] at hi; exact hi
    have hpos : 0 < z.cells.size := Nat.pos_of_ne_zero fun e => by rw [e] at hi'; simp at hi'
    have hlt := Nat.mod_lt i hpos
    have hu' : z.cells[i % z.cells.size]? = some u := by
      simp only [Builtin.zeroCells, Array.getElem?_map] at hu
      rw [Array.getElem?_range, if_pos hi'] at hu
      simp only [Option.map_some, Option.some.injEq] at hu
      rw [getElem!_pos z.cells _ hlt] at hu
      rw [Array.getElem?_eq_getElem hlt, hu]
    rw [show ei.zero.length = z.cells.size by omega] at hy
    exact hzero S w _ y u hy hu'

theorem does_clear {c : Call} (ho : o.op = .call c) (hc : c.callee = .builtin .clear) {x : Operand} (hx : c.args = #[x]) {t e : TypeId} (ht : c.argTypes = #[t]) {i ei : TInfo} (hT : TOK P t i) (he : i.elem = some e) (hE : TOK P e ei)
    {k g off n cp : Nat} (hxv : evalA st x = .bsl k g off n cp) (hg : (st.B k).1 = g) (hne : (st.B k).2 ≠ []) (hfit : off + n * ei.sz ≤ (st.B k).2.length) :
    Does P base w0 st o { v := .val undef, box := some (k, g, splice (st.B k).2 off (zerosA n ei.zero)) } := by
  intro E a w hok hs hn0 hd0 K Q hK
  have hrx := evalA_ok hs x
  rw [hxv] at hrx
  obtain ⟨b, hv, hb⟩ := hrx.bsl_inv
  have hb' : b = E.bm k := hb (by rw [hok.G k]; exact hg.symm)
  subst hb'
  obtain ⟨inf, z, hinf, hz, h1, h2, h3⟩ := zeros_ok (P := P) hE
  obtain ⟨z1, z2, z3⟩ := h3 n
  have hl : (zerosA n ei.zero).length = n * ei.sz := by rw [zerosA_len, h2]
  obtain ⟨w', s1, s2, s3⟩ := hok.spliceBox (P := P) k hne off (zerosA n ei.zero) (Builtin.zeroCells z.cells n).toList (by simp [z1, hl]) (by omega) z2 (fun i y u hy hu => .pure _ _ (.data _ _ (z3 _ _ i y u hy (by simpa using hu))))
  have hrun : (execOp a.eval o).run P w = .ok (.value undef) w' := by
    cases n with
    | zero =>
      have hw : w' = w := by
        have : (Builtin.zeroCells z.cells 0).toList = [] := by simp [Builtin.zeroCells]
        rw [this] at s1
        have e : (storeCells ⟨E.bm k, off, none⟩ []).run P w = .ok () w := rfl
        rw [e] at s1
        cases s1; rfl
      subst hw
      simp [execOp, ho, resolve, hc, hx, ht, hv, invoke, builtin, Builtin.clear_, run_underlying (hT.elem e he) w', undef]
    | succ n =>
      simp [execOp, ho, resolve, hc, hx, ht, hv, invoke, builtin, Builtin.clear_, run_underlying (hT.elem e he) w, zeroValue, typeInfo, hinf, hz, s1, undef]
  unfold Oper.wp
  rw [hrun]
  subst hg
  exact hK _ _ _ s2 s3 (RV.val_iff.2 rfl)

/-- len, cap, an element, a part of such a slice. -/
theorem does_lenB {c : Call} (ho : o.op = .call c) (hc : c.callee = .builtin .len) {x : Operand} (hx : c.args = #[x]) {t e : TypeId} (ht : c.argTypes = #[t]) {i : TInfo} (hT : TOK P t i) (he : i.elem = some e) {k g off n cp : Nat} (hv : evalA st x = .bsl k g off n cp) :
    Does P base w0 st o { v := .val (.int .i64 n) } :=
  does_pure fun E a w hok hs => by
    have hr := evalA_ok hs x
    rw [hv] at hr
    obtain ⟨b, hA, _⟩ := hr.bsl_inv
    refine ⟨.int .i64 n, ?_, RV.val_iff.2 rfl⟩
    simp [execOp, ho, resolve, hc, hx, ht, hA, invoke, builtin, Builtin.len_, run_underlying (hT.elem e he) w, goInt]
theorem does_capB {c : Call} (ho : o.op = .call c) (hc : c.callee = .builtin .cap) {x : Operand} (hx : c.args = #[x]) {t e : TypeId} (ht : c.argTypes = #[t]) {i : TInfo} (hT : TOK P t i) (he : i.elem = some e) {k g off n cp : Nat} (hv : evalA st x = .bsl k g off n cp) :
    Does P base w0 st o { v := .val (.int .i64 cp) } :=
  does_pure fun E a w hok hs => by
    have hr := evalA_ok hs x
    rw [hv] at hr
    obtain ⟨b, hA, _⟩ := hr.bsl_inv
    refine ⟨.int .i64 cp, ?_, RV.val_iff.2 rfl⟩
    simp [execOp, ho, resolve, hc, hx, ht, hA, invoke, builtin, Builtin.cap_, run_underlying (hT.elem e he) w, goInt]
theorem does_indexB {t e : TypeId} {x ix : Operand} (ho : o.op = .indexAddr t x ix) {i ei : TInfo} (hT : TOK P t i) (he : i.elem = some e) (hE : TOK P e ei)
    {k g off n cp : Nat} (hx : evalA st x = .bsl k g off n cp) {kd : IntKind} {j : Int} (hix : evalA st ix = .val (.int kd j)) (h0 : 0 ≤ j) (hlt : j.toNat < n) :
    Does P base w0 st o { v := .ptr k g (off + j.toNat * ei.sz) } :=
  does_pure fun E a w hok hs => by
    have h1 := evalA_ok hs x
    rw [hx] at h1
    have h2 := evalA_ok hs ix
    rw [hix, RV.val_iff] at h2
    cases hav : a.eval x with
    | slice A n' c' =>
      rw [hav] at h1
      cases h1 with
      | pure _ _ h => cases h with | data _ _ h => cases h
      | bsl _ _ _ _ _ b hg hb =>
        refine ⟨.pointer (some ⟨b, off + j.toNat * ei.sz, none⟩), ?_, .ptr _ _ _ b hg hb⟩
        have hcond : 0 ≤ j ∧ j < (n : Int) := ⟨h0, by omega⟩
        simp only [execOp, ho, hav, h2, Instr.indexAt, asIntOf, Sem.run_bind, Sem.run_pure, Result.andThen_ok, run_underlying (hT.elem e he) w]
        simp only [Sem.run_ite, hcond, and_self, if_true, Sem.run_bind, hE.size w, Result.andThen_ok, Sem.run_pure]
        simp [Addr.add_mid, hcond, hE.size w]
    | _ => rw [hav] at h1; cases h1 with | pure _ _ h => cases h with | data _ _ h => cases h
theorem does_sliceB {t e : TypeId} {x : Operand} {lo hi mx : Option Operand} (ho : o.op = .slice t x lo hi mx) {i ei : TInfo} (hT : TOK P t i) (he : i.elem = some e) (hE : TOK P e ei)
    {k g off n cp : Nat} (hx : evalA st x = .bsl k g off n cp) {l h m : Nat} (hl : bnd st lo 0 = some l) (hh : bnd st hi n = some h) (hm : bnd st mx cp = some m) (h1 : l ≤ h) (h2 : h ≤ m) (h3 : m ≤ cp) (hmx : mx.isSome = true → hi.isSome = true) :
    Does P base w0 st o { v := .bsl k g (if m = l then off else off + l * ei.sz) (h - l) (m - l) } :=
  does_pure fun E a w hok hs => by
    have hr := evalA_ok hs x
    rw [hx] at hr
    cases hav : a.eval x with
    | slice A n' c' =>
      rw [hav] at hr
      cases hr with
      | pure _ _ h => cases h with | data _ _ h => cases h
      | bsl _ _ _ _ _ b hg hb =>
        have hM : (Instr.sliceBounds true n cp (lo.map a.eval) (hi.map a.eval) (mx.map a.eval)).run P w = .ok (l, h, m) w := by
          cases mx with
          | none =>
            simp [bnd] at hm
            subst hm
            cases hi with
            | none =>
              simp [bnd] at hh; subst hh
              cases lo with
              | none => simp [bnd] at hl; subst hl; simp [Instr.sliceBounds]
              | some lo => simp [Instr.sliceBounds, run_bound hs hl _ h1]
            | some hi =>
              cases lo with
              | none => simp [bnd] at hl; subst hl; simp [Instr.sliceBounds, run_bound hs hh cp (by omega)]
              | some lo => simp [Instr.sliceBounds, run_bound hs hl _ h1, run_bound hs hh cp (by omega)]
          | some mx =>
            cases hi with
            | none => simp at hmx
            | some hi =>
              cases lo with
              | none => simp [bnd] at hl; subst hl; simp [Instr.sliceBounds, run_bound hs hh m h2, run_bound hs hm cp (by omega)]
              | some lo => simp [Instr.sliceBounds, run_bound hs hl _ h1, run_bound hs hh m h2, run_bound hs hm cp (by omega)]
        refine ⟨.slice (some ⟨b, if m = l then off else off + l * ei.sz, none⟩) (h - l) (m - l), ?_, .bsl _ _ _ _ _ b hg hb⟩
        simp only [execOp, ho, hav, Instr.sliceAt, Sem.run_bind, run_underlying (hT.elem e he) w, Result.andThen_ok, Instr.slice, hM, hE.size w, Sem.run_pure]
        by_cases e0 : m = l
        · simp [e0]
        · simp [e0, Addr.add_mid]
    | _ => rw [hav] at hr; cases hr with | pure _ _ h => cases h with | data _ _ h => cases h
end
end Go.Proofs.YtkmdeahnkfdhjaaW.E
