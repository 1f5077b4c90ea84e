/-
  What single operations make of a state in abstract values: boxes, loads, stores, fields, elements, parts of slices. Laws over any program; no condition.
-/
import Derived.Test.YtkmdeahnkfdhjaaE4
namespace Go.Proofs.YtkmdeahnkfdhjaaW.E
open Go Go.RowKit
set_option linter.unusedVariables false
set_option linter.unusedSimpArgs false

section flat
theorem flat_cons (x : AV) (xs : List AV) : flat (x :: xs) = x.cells ++ flat xs := by simp [flat]
theorem flat_append (xs ys : List AV) : flat (xs ++ ys) = flat xs ++ flat ys := by simp [flat]
theorem flat_len {sz : Nat} : ∀ (xs : List AV), (∀ x ∈ xs, x.cells.length = sz) → (flat xs).length = xs.length * sz
  | [], _ => by simp [flat]
  | x :: xs, h => by
    rw [flat_cons, List.length_append, flat_len xs (fun y hy => h y (List.mem_cons_of_mem _ hy)), h x List.mem_cons_self, List.length_cons, Nat.succ_mul, Nat.add_comm]
theorem flat_get {sz : Nat} : ∀ (xs : List AV), (∀ x ∈ xs, x.cells.length = sz) → ∀ (j : Nat) x, xs[j]? = some x → ∀ (i : Nat) c, x.cells[i]? = some c → (flat xs)[j * sz + i]? = some c
  | [], _, j, x, hx, i, c, hc => by simp at hx
  | y :: xs, h, 0, x, hx, i, c, hc => by
    simp at hx; subst hx
    rw [flat_cons, Nat.zero_mul, Nat.zero_add, List.getElem?_append_left (List.getElem?_eq_some_iff.1 hc).1]
    exact hc
  | y :: xs, h, j + 1, x, hx, i, c, hc => by
    have h0 := h y List.mem_cons_self
    rw [flat_cons, List.getElem?_append_right (by rw [h0, Nat.succ_mul]; omega), h0]
    have : (j + 1) * sz + i - sz = j * sz + i := by rw [Nat.succ_mul]; omega
    rw [this]
    exact flat_get xs (fun y hy => h y (List.mem_cons_of_mem _ hy)) j x (by simpa using hx) i c hc
theorem flat_drop {sz : Nat} : ∀ (n : Nat) (xs : List AV), (∀ x ∈ xs, x.cells.length = sz) → flat (xs.drop n) = (flat xs).drop (n * sz)
  | 0, xs, _ => by simp
  | n + 1, [], _ => by simp [flat]
  | n + 1, x :: xs, h => by
    have h0 := h x List.mem_cons_self
    rw [List.drop_succ_cons, flat_drop n xs (fun y hy => h y (List.mem_cons_of_mem _ hy)), flat_cons, List.drop_append, h0]
    have e1 : (n + 1) * sz - sz = n * sz := by rw [Nat.succ_mul]; omega
    have e2 : List.drop ((n + 1) * sz) x.cells = [] := List.drop_eq_nil_of_le (by rw [h0, Nat.succ_mul]; omega)
    rw [e1, e2, List.nil_append]
theorem flat_take {sz : Nat} : ∀ (n : Nat) (xs : List AV), (∀ x ∈ xs, x.cells.length = sz) → flat (xs.take n) = (flat xs).take (n * sz)
  | 0, xs, _ => by simp [flat]
  | n + 1, [], _ => by simp [flat]
  | n + 1, x :: xs, h => by
    have h0 := h x List.mem_cons_self
    rw [List.take_succ_cons, flat_cons, flat_take n xs (fun y hy => h y (List.mem_cons_of_mem _ hy)), flat_cons, List.take_append, h0]
    have e1 : (n + 1) * sz - sz = n * sz := by rw [Nat.succ_mul]; omega
    have e2 : List.take ((n + 1) * sz) x.cells = x.cells := List.take_of_length_le (by rw [h0, Nat.succ_mul]; omega)
    rw [e1, e2]
end flat

section
variable {P : Program} {base : Nat} {w0 : Entry} {st : St} {o : Oper}

/-- A pointer into a box that is there: its block, and its cells from there on. -/
theorem box_row {E : Env} {w : World} (hok : OK base w0 E st.B st.L w) {k g off : Nat} {v : Value} (hv : RV E w (.ptr k g off) v) (hg : (st.B k).1 = g) (hne : (st.B k).2 ≠ []) :
    v = .pointer (some ⟨E.bm k, off, none⟩) ∧ ∀ (j : Nat) y, ((st.B k).2.drop off)[j]? = some y → ∃ u, w.cell? ⟨E.bm k, off + j, none⟩ = some u ∧ u.oneCell' = true ∧ RV E w y u := by
  cases hv with
  | pure _ _ h => cases h with | data _ _ h => cases h
  | ptr _ _ _ b h1 h2 =>
    have hb : b = E.bm k := h2 (by rw [hok.G k]; exact hg.symm)
    subst hb
    refine ⟨rfl, fun j y hy => ?_⟩
    obtain ⟨_, _, t, ccs, h3, h4, h5⟩ := hok.box k hne
    rw [List.getElem?_drop] at hy
    have hlt : off + j < ccs.size := by rw [h4]; exact (List.getElem?_eq_some_iff.1 hy).1
    refine ⟨ccs[off + j], by simp [World.cell?, h3, hlt], ?_⟩
    exact h5 (off + j) y _ hy (by simp [hlt])

theorem does_load_ptr {t : TypeId} {x : Operand} (ho : o.op = .load t x) {k g off : Nat} (hx : evalA st x = .ptr k g off) (hg : (st.B k).1 = g) (hne : (st.B k).2 ≠ []) {i : TInfo} (hT : TOK P t i) {v : AV}
    (h : rdCells i ((st.B k).2.drop off) = some v) : Does P base w0 st o { v } :=
  does_pure fun E a w hok hs => by
    have h1 := evalA_ok hs x
    rw [hx] at h1
    obtain ⟨h2, h3⟩ := box_row hok h1 hg hne
    obtain ⟨u, hu, hr⟩ := run_loadVar_cells hT (R := RV E w) h h3
    refine ⟨u, ?_, ?_⟩
    · simp only [execOp, ho, h2, Instr.loadAt, Instr.sureAddr, Sem.run_bind, Sem.run_pure, Result.andThen_ok, hu]
    · rcases hr with ⟨vs, us, rfl, rfl, h4, h5, h6⟩ | hr
      · exact .agg vs us h4 h5 h6
      · exact hr

theorem RV.pelt_inv {E : Env} {w : World} {cs : List AV} {v : Value} (h : RV E w (.pelt cs) v) : ∃ b off, v = .pointer (some ⟨b, off, none⟩) ∧ Row E.F w (RP E.S E.F w) b off cs := by
  cases h with | pure _ _ h => exact RP.pelt_iff.1 h

theorem does_load_pelt {t : TypeId} {x : Operand} (ho : o.op = .load t x) {cs : List AV} (hx : evalA st x = .pelt cs) {i : TInfo} (hT : TOK P t i) {v : AV}
    (h : rdCells i cs = some v) : Does P base w0 st o { v } :=
  does_pure fun E a w hok hs => by
    have h1 := evalA_ok hs x
    rw [hx] at h1
    obtain ⟨b, off, h2, h3⟩ := h1.pelt_inv
    obtain ⟨u, hu, hr⟩ := run_loadVar_cells (w := w) (b := b) (off := off) hT (R := RV E w) h (fun j y hy => let ⟨_, u, a1, a2, a3⟩ := h3 j y hy; ⟨u, a1, a2, .pure _ _ a3⟩)
    refine ⟨u, ?_, ?_⟩
    · simp only [execOp, ho, h2, Instr.loadAt, Instr.sureAddr, Sem.run_bind, Sem.run_pure, Result.andThen_ok, hu]
    · rcases hr with ⟨vs, us, rfl, rfl, h4, h5, h6⟩ | hr
      · exact .agg vs us h4 h5 h6
      · exact hr

theorem does_box {t : TypeId} {x : Operand} (ho : o.op = .box t x) {key : Nat} (hc : (evalA st x).cells.all AV.isCell = true) :
    Does P base w0 st o { v := .ptr key ((st.B key).1 + 1) 0, box := some (key, (st.B key).1 + 1, (evalA st x).cells) } := by
  intro E a w hok hs hn hd K Q hK
  obtain ⟨h1, h2, h3⟩ := (evalA_ok hs x).cells hc
  obtain ⟨hle, hok'⟩ := hok.newBox key (evalA st x).cells (a.eval x).cells t h1 (fun i c v hc hv => ⟨h2 v (Array.mem_of_getElem? hv), h3 i c v hc hv⟩)
  have hrun : (execOp a.eval o).run P w = .ok (.value (.pointer (some ⟨w.heap.size, 0, none⟩))) (w.alloc (.cells (a.eval x).cells t)) := by
    simp only [execOp, ho, Instr.box, newVar, newRow, Sem.run_bind, run_newObj, Result.andThen_ok, Sem.run_pure]; rfl
  unfold Oper.wp
  rw [hrun]
  refine hK _ _ _ hle hok' (.ptr _ _ _ _ ?_ ?_)
  · simp [upd_same]
  · simp [upd_same]

theorem does_alloc {t : TypeId} (ho : o.op = .alloc t) {key : Nat} {i : TInfo} (hT : TOK P t i) :
    Does P base w0 st o { v := .ptr key ((st.B key).1 + 1) 0, box := some (key, (st.B key).1 + 1, i.zero) } := by
  intro E a w hok hs hn hd K Q hK
  obtain ⟨d, inf, z, _, hinf, hz, _, _, _, _, hone, hzlen, hzero⟩ := hT.ex
  obtain ⟨hle, hok'⟩ := hok.newBox key i.zero z.cells t hzlen.symm (fun j c v hc hv => ⟨hone v (Array.mem_of_getElem? hv), .pure _ _ (.data _ _ (hzero _ _ j c v hc hv))⟩)
  have hrun : (execOp a.eval o).run P w = .ok (.value (.pointer (some ⟨w.heap.size, 0, none⟩))) (w.alloc (.cells z.cells t)) := by
    simp only [execOp, ho, Instr.alloc, zeroValue, typeInfo, newVar, newRow, Sem.run_bind, run_program, hinf, hz, run_newObj, Result.andThen_ok, Sem.run_pure]; rfl
  unfold Oper.wp
  rw [hrun]
  refine hK _ _ _ hle hok' (.ptr _ _ _ _ ?_ ?_)
  · simp [upd_same]
  · simp [upd_same]

def splice {α : Type} (cs : List α) (off : Nat) (xs : List α) : List α := cs.take off ++ xs ++ cs.drop (off + xs.length)
theorem splice_get {α : Type} (cs xs : List α) (off : Nat) (h : off + xs.length ≤ cs.length) (i : Nat) : (splice cs off xs)[i]? = if off ≤ i ∧ i < off + xs.length then xs[i - off]? else cs[i]? := by
  unfold splice
  rw [List.append_assoc]
  by_cases h1 : i < off
  · rw [List.getElem?_append_left (by simp; omega), List.getElem?_take_of_lt h1, if_neg (by omega)]
  · rw [List.getElem?_append_right (by simp; omega)]
    have : (cs.take off).length = off := by simp; omega
    rw [this]
    by_cases h2 : i < off + xs.length
    · rw [List.getElem?_append_left (by omega), if_pos ⟨by omega, h2⟩]
    · rw [List.getElem?_append_right (by omega), List.getElem?_drop, if_neg (by omega)]
      congr 1
      omega
theorem splice_len {α : Type} (cs xs : List α) (off : Nat) (h : off + xs.length ≤ cs.length) : (splice cs off xs).length = cs.length := by
  simp [splice]; omega

theorem does_store {t : TypeId} {x y : Operand} (ho : o.op = .store t x y) {k g off : Nat} (hx : evalA st x = .ptr k g off) (hg : (st.B k).1 = g) (hne : (st.B k).2 ≠ []) {i : TInfo} (hT : TOK P t i)
    (hc : (evalA st y).cells.all AV.isCell = true) (hsz : (evalA st y).cells.length = i.sz) (hfit : off + (evalA st y).cells.length ≤ (st.B k).2.length) :
    Does P base w0 st o { v := .val undef, box := some (k, g, splice (st.B k).2 off (evalA st y).cells) } := by
  intro E a w hok hs hn hd K Q hK
  have h1 := evalA_ok hs x
  rw [hx] at h1
  obtain ⟨hp, _⟩ := box_row hok h1 hg hne
  obtain ⟨d, inf, z, _, hinf, hz, _, hsz', _⟩ := hT.ex
  obtain ⟨c1, c2, c3⟩ := (evalA_ok hs y).cells hc
  obtain ⟨b1, b2, bt, old, b3, b4, b5⟩ := hok.box k hne
  have hst := run_storeCells_at P (E.bm k) off bt (a.eval y).cells.toList 0 old w b3 (by simp; omega) (by simpa using c2)
  have hnew : ((old.toList.take (off + 0) ++ (a.eval y).cells.toList ++ old.toList.drop (off + 0 + (a.eval y).cells.toList.length)).toArray) = (splice old.toList off (a.eval y).cells.toList).toArray := by
    simp [splice]
  rw [hnew] at hst
  have hlen : off + (a.eval y).cells.toList.length ≤ old.toList.length := by simp; omega
  obtain ⟨hle, hok'⟩ := hok.setBox k hne (splice (st.B k).2 off (evalA st y).cells) (splice old.toList off (a.eval y).cells.toList).toArray (splice_len _ _ _ hfit)
    (by rw [splice_len _ _ _ hfit, List.size_toArray, splice_len _ _ _ hlen]; simp [b4]) (fun j c v hcj hvj => by
      rw [splice_get _ _ _ hfit] at hcj
      rw [List.getElem?_toArray, splice_get _ _ _ hlen] at hvj
      simp only [Array.length_toList, c1] at hvj
      split at hcj
      · rename_i hin
        rw [if_pos hin] at hvj
        rw [Array.getElem?_toList] at hvj
        exact ⟨c2 v (Array.mem_of_getElem? hvj), c3 _ c v hcj hvj⟩
      · rename_i hin
        rw [if_neg hin] at hvj
        rw [Array.getElem?_toList] at hvj
        exact b5 j c v hcj hvj)
  have hrun : (execOp a.eval o).run P w = .ok .skip (w.setRow (E.bm k) (splice old.toList off (a.eval y).cells.toList).toArray) := by
    simp only [execOp, ho, hp, Instr.storeAt, Instr.sureAddr, storeVar, sizeOf, typeInfo, Sem.run_bind, run_program, hinf, Result.andThen_ok, Sem.run_pure]
    rw [if_neg (by rw [c1, hsz, hsz']; simp)]
    simp only [Sem.run_pure, Sem.run_bind, Result.andThen_ok, hst]
  unfold Oper.wp
  rw [hrun]
  subst hg
  exact hK undef _ _ hle hok' (RV.val_iff.2 rfl)

/-- A field's offset, its cells, is it a row? -/
theorem fieldAt_run {s : TypeId} {f : Nat} {i : TInfo} (hT : TOK P s i) {off sz : Nat} {ag : Bool} (hf : i.fields[f]? = some (off, sz, ag)) (hsz : sz ≠ 0) (w : World) (b o' : Nat) :
    (Instr.fieldAt s (.pointer (some ⟨b, o', none⟩)) f).run P w = .ok (.pointer (some ⟨b, o' + off, none⟩)) w := by
  obtain ⟨fs, fd, h1, h2, h3⟩ := hT.fields f _ hf
  simp only [Prod.mk.injEq] at h3
  obtain ⟨rfl, h4, h5⟩ := h3
  cases hi : P.info? fd.type with
  | none => simp [hi] at h4; exact absurd h4 hsz
  | some inf =>
    have h6 : inf.size = sz := by simp [hi] at h4; exact h4.symm
    simp only [Instr.fieldAt, Sem.run_bind, run_underlying h1 w, Result.andThen_ok, h2, Instr.sureAddr, Sem.run_pure, fieldPlace, sizeOf, typeInfo, run_program, hi, h6]
    rw [Sem.run_ite, if_neg hsz]
    simp [Addr.add_mid]

theorem does_fieldAddr_ptr {s : TypeId} {x : Operand} {f : Nat} (ho : o.op = .fieldAddr s x f) {i : TInfo} (hT : TOK P s i) {off sz : Nat} {ag : Bool} (hf : i.fields[f]? = some (off, sz, ag)) (hsz : sz ≠ 0)
    {k g o' : Nat} (hx : evalA st x = .ptr k g o') : Does P base w0 st o { v := .ptr k g (o' + off) } :=
  does_pure fun E a w hok hs => by
    have h1 := evalA_ok hs x
    rw [hx] at h1
    cases hp : a.eval x with
    | pointer A =>
      rw [hp] at h1
      cases h1 with
      | pure _ _ h => cases h with | data _ _ h => cases h
      | ptr _ _ _ b h2 h3 =>
        refine ⟨.pointer (some ⟨b, o' + off, none⟩), ?_, .ptr _ _ _ b h2 h3⟩
        simp only [execOp, ho, hp, Sem.run_bind, fieldAt_run hT hf hsz, Result.andThen_ok, Sem.run_pure]
    | _ => rw [hp] at h1; cases h1 with | pure _ _ h => cases h with | data _ _ h => cases h

theorem does_fieldAddr_pelt {s : TypeId} {x : Operand} {f : Nat} (ho : o.op = .fieldAddr s x f) {i : TInfo} (hT : TOK P s i) {off sz : Nat} {ag : Bool} (hf : i.fields[f]? = some (off, sz, ag)) (hsz : sz ≠ 0)
    {cs : List AV} (hx : evalA st x = .pelt cs) : Does P base w0 st o { v := .pelt (cs.drop off) } :=
  does_pure fun E a w hok hs => by
    have h1 := evalA_ok hs x
    rw [hx] at h1
    obtain ⟨b, o', h2, h3⟩ := h1.pelt_inv
    refine ⟨.pointer (some ⟨b, o' + off, none⟩), ?_, .pure _ _ (RP.pelt_iff.2 ⟨b, o' + off, rfl, fun j y hy => ?_⟩)⟩
    · simp only [execOp, ho, h2, Sem.run_bind, fieldAt_run hT hf hsz, Result.andThen_ok, Sem.run_pure]
    · rw [List.getElem?_drop] at hy
      have := h3 (off + j) y hy
      rwa [Nat.add_assoc]

theorem does_field {s : TypeId} {x : Operand} {f : Nat} (ho : o.op = .field s x f) {i : TInfo} (hT : TOK P s i) {off sz : Nat} (hf : i.fields[f]? = some (off, sz, false)) 
    {cs : List AV} (hx : evalA st x = .agg cs) {v : AV} (hv : cs[off]? = some v) : Does P base w0 st o { v } :=
  does_pure fun E a w hok hs => by
    have h1 := evalA_ok hs x
    rw [hx] at h1
    obtain ⟨vs, h2, h3, h4, h5⟩ := RV.agg_iff.1 h1
    obtain ⟨fs, fd, h6, h7, h8⟩ := hT.fields f _ hf
    simp only [Prod.mk.injEq] at h8
    obtain ⟨rfl, h9, h10⟩ := h8
    have hlt : fd.offset < vs.size := by rw [← h3]; exact (List.getElem?_eq_some_iff.1 hv).1
    refine ⟨vs[fd.offset], ?_, h5 _ v _ hv (by simp [hlt])⟩
    cases hu : P.underlying fd.type with
    | none => simp [hu] at h10
    | some d =>
      have : (isAgg fd.type).run P w = .ok false w := by
        unfold isAgg
        rw [Sem.run_bind, run_underlying hu w]
        simp [hu] at h10
        cases d <;> simp_all [isRow]
      simp [execOp, ho, h2, Instr.field, Sem.run_bind, run_underlying h6 w, h7, part, this, asAgg, hlt]
end

end Go.Proofs.YtkmdeahnkfdhjaaW.E
