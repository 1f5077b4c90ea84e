/-
  What single operations make of a state in abstract values: new slices, appends. Laws over any program; no condition.
-/
import Derived.Test.YtkmdeahnkfdhjaaE6
namespace Go.Proofs.YtkmdeahnkfdhjaaW.E
open Go Go.RowKit
set_option linter.unusedVariables false
set_option linter.unusedSimpArgs false

def AV.data0 : AV → AV
  | .list sz xs _ => .list sz xs .no
  | .val v => .val v
  | _ => .any
def AV.data : AV → AV
  | .agg vs => .agg (vs.map AV.data0)
  | a => a.data0

theorem RV.data0 {E : Env} {w : World} {a : AV} {v : Value} (h : RV E w a v) : RD E.S w a.data0 v := by
  cases a with
  | list sz xs o => exact h.list_no
  | val u => rw [RV.val_iff] at h; subst h; exact .val _
  | _ => exact .any v

theorem cells_data (a : AV) : a.data.cells = a.cells.map AV.data0 := by cases a <;> rfl

theorem RV.data {E : Env} {w : World} {a : AV} {v : Value} (h : RV E w a v) : RD E.S w a.data v := by
  cases a with
  | agg vs =>
    obtain ⟨cs, rfl, h1, h2, h3⟩ := RV.agg_iff.1 h
    refine .agg _ _ (by simp [h1]) h2 (fun i c v hc hv => ?_)
    simp only [List.getElem?_map, Option.map_eq_some_iff] at hc
    obtain ⟨x, hx, rfl⟩ := hc
    exact (h3 i x v hx hv).data0
  | list sz xs o => exact h.list_no
  | val u => rw [RV.val_iff] at h; subst h; exact .val _
  | _ => exact .any v

def bumpL (ks : List Nat) (L : Nat → Nat) : Nat → Nat := ks.foldl (fun L k => upd L k (L k + 1)) L
theorem bumpL_le : ∀ (ks : List Nat) (L : Nat → Nat) (j : Nat), L j ≤ bumpL ks L j ∧ (j ∈ ks → L j < bumpL ks L j)
  | [], L, j => by simp [bumpL]
  | k :: ks, L, j => by
    have ih := bumpL_le ks (upd L k (L k + 1)) j
    show L j ≤ bumpL ks (upd L k (L k + 1)) j ∧ (_ → L j < bumpL ks (upd L k (L k + 1)) j)
    by_cases e : j = k
    · subst e
      rw [upd_same] at ih
      exact ⟨by omega, fun _ => by omega⟩
    · rw [upd_ne _ _ e] at ih
      refine ⟨ih.1, fun h => ?_⟩
      rcases List.mem_cons.1 h with h | h
      · exact absurd h e
      · exact ih.2 h
theorem bumpL_ne : ∀ (ks : List Nat) (L : Nat → Nat) (j : Nat), j ∉ ks → bumpL ks L j = L j
  | [], L, j, _ => rfl
  | k :: ks, L, j, h => by
    simp only [List.mem_cons, not_or] at h
    show bumpL ks (upd L k (L k + 1)) j = L j
    rw [bumpL_ne ks _ j h.2, upd_ne _ _ h.1]

theorem row_vals {S : Pl} {w : World} {R : AV → Value → Prop} {b off : Nat} : ∀ {cs : List AV}, Row S w R b off cs →
    ∃ us : List Value, us.length = cs.length ∧ (∀ (j : Nat) u, us[j]? = some u → w.cell? ⟨b, off + j, none⟩ = some u) ∧ (∀ u ∈ us, u.oneCell' = true) ∧ ∀ (j : Nat) y u, cs[j]? = some y → us[j]? = some u → R y u := by
  intro cs h
  refine ⟨(List.range cs.length).map fun j => (w.cell? ⟨b, off + j, none⟩).getD undef, by simp, fun j u hu => ?_, fun u hu => ?_, fun j y u hy hu => ?_⟩
  · simp only [List.getElem?_map, Option.map_eq_some_iff] at hu
    obtain ⟨j', hj', rfl⟩ := hu
    have hj1 : j < cs.length := by have := (List.getElem?_eq_some_iff.1 hj').1; simpa using this
    rw [List.getElem?_range hj1] at hj'
    cases hj'
    obtain ⟨_, v, h2, _⟩ := h j cs[j] (by simp [hj1])
    simp [h2]
  · simp only [List.mem_map, List.mem_range] at hu
    obtain ⟨j, hj, rfl⟩ := hu
    obtain ⟨_, v, h2, h3, _⟩ := h j cs[j] (by simp [hj])
    simpa [h2] using h3
  · simp only [List.getElem?_map, Option.map_eq_some_iff] at hu
    obtain ⟨j', hj', rfl⟩ := hu
    have hj1 : j < cs.length := (List.getElem?_eq_some_iff.1 hy).1
    rw [List.getElem?_range hj1] at hj'
    cases hj'
    obtain ⟨_, v, h2, _, h4⟩ := h j y hy
    simpa [h2] using h4

section
variable {P : Program} {base : Nat} {w0 : Entry} {st : St} {o : Oper}

/-- The cells of a slice, read for an append. -/
theorem run_first {w : World} {sz n c : Nat} {A : Option Addr} {b off : Nat} (hA : n ≠ 0 → A = some ⟨b, off, none⟩) {us : List Value} (hl : us.length = n * sz) (h : ∀ (j : Nat) u, us[j]? = some u → w.cell? ⟨b, off + j, none⟩ = some u) :
    (Builtin.firstCells sz n (.slice A n c)).run P w = .ok us.toArray w := by
  by_cases hn : n = 0
  · subst hn
    have : us = [] := List.eq_nil_of_length_eq_zero (by simpa using hl)
    subst this
    cases A with
    | none => exact run_firstCells_none (P := P) w sz 0 0 c
    | some a => exact run_firstCells_some (P := P) w sz 0 a 0 c [] (by simp) (by simp)
  · rw [hA hn]
    exact run_firstCells_some (P := P) w sz n ⟨b, off, none⟩ n c us hl (fun j v hv => by rw [Addr.add_mid]; exact h j v hv)

theorem afill_row {sz : Nat} : ∀ (xs : List AV) (k : Nat) (pre post : List AV), pre.length = k * sz → post.length = xs.length * sz → (∀ x ∈ xs, x.cells.length = sz ∧ x.cells.all AV.isCell = true) →
    afill (fun i => some (i * sz, sz)) (pre ++ post) ((xs.zipIdx k).map fun p => (p.2, p.1)) = some (pre ++ flat xs)
  | [], k, pre, post, h1, h2, h3 => by
    have : post = [] := List.eq_nil_of_length_eq_zero (by simpa using h2)
    simp [afill, flat, this]
  | x :: xs, k, pre, post, h1, h2, h3 => by
    obtain ⟨h4, h5⟩ := h3 x List.mem_cons_self
    simp only [List.zipIdx_cons, List.map_cons, afill]
    rw [List.length_cons, Nat.succ_mul] at h2
    rw [if_pos ⟨h4, by simp; omega, h5⟩]
    have e1 : splice (pre ++ post) (k * sz) x.cells = (pre ++ x.cells) ++ post.drop sz := by
      unfold splice
      rw [List.take_append, List.drop_append, h1, h4]
      have e2 : List.drop (k * sz + sz) pre = [] := List.drop_eq_nil_of_le (by omega)
      have e3 : List.take (k * sz) pre = pre := List.take_of_length_le (by omega)
      rw [e2, e3]
      simp
    rw [e1, afill_row xs (k + 1) (pre ++ x.cells) (post.drop sz) (by simp [h1, h4, Nat.succ_mul]) (by simp; omega) (fun y hy => h3 y (List.mem_cons_of_mem _ hy)), flat_cons, List.append_assoc]

theorem zip_of_range {α : Type} : ∀ (ps : List (Nat × α)) (k : Nat), ps.map (·.1) = List.range' k ps.length → ps = ((ps.map (·.2)).zipIdx k).map fun p => (p.2, p.1)
  | [], _, _ => rfl
  | (i, x) :: ps, k, h => by
    simp only [List.map_cons, List.length_cons, List.range'_succ, List.cons.injEq] at h
    obtain ⟨rfl, h⟩ := h
    simp only [List.map_cons, List.zipIdx_cons, List.cons.injEq, true_and]
    exact zip_of_range ps _ h

theorem does_buildSlice {t e : TypeId} {n : Nat} {parts : Array (Nat × Operand)} (ho : o.op = .buildSlice t n parts) {i ei : TInfo} (hT : TOK P t i) (he : i.elem = some e) (hE : TOK P e ei)
    (hidx : parts.toList.map (·.1) = List.range' 0 n) (hc : ∀ p ∈ parts.toList, (evalA st p.2).cells.length = ei.sz ∧ (evalA st p.2).cells.all AV.isCell = true) (hn : n * ei.sz ≤ 16777216) :
    Does P base w0 st o { v := .list ei.sz (parts.toList.map fun p => (evalA st p.2).data) .full } := by
  intro E a w hok hs hsz0 hd K Q hK
  obtain ⟨d, inf, z, hdd, hinf, hz, hagg, hsz, hby, hzsz, hone, hzlen, hzero⟩ := hE.ex
  have hlen : parts.toList.length = n := by have := congrArg List.length hidx; simpa using this
  -- the zeros
  let zs : Array Value := if n * ei.sz = 0 then #[] else z.cells
  let cs0 : Array Value := (Array.range (n * ei.sz)).map (zs[· % zs.size]!)
  have hfill := afill_row (sz := ei.sz) (parts.toList.map fun p => evalA st p.2) 0 [] (List.replicate (n * ei.sz) AV.any) (by simp) (by simp [hlen]) (fun x hx => by
    obtain ⟨p, hp, rfl⟩ := List.mem_map.1 hx
    exact hc p hp)
  have hparts : (parts.toList.map fun p => (p.1, evalA st p.2)) = (((parts.toList.map fun p => evalA st p.2).zipIdx 0).map fun p => (p.2, p.1)) := by
    have h1 := zip_of_range (parts.toList.map fun p => (p.1, evalA st p.2)) 0 (by simp only [List.map_map, List.length_map, hlen]; exact hidx)
    simpa only [List.map_map, Function.comp_def] using h1
  simp only [List.nil_append] at hfill
  obtain ⟨os, h4, h5, h6⟩ := fill_ok (E := E) (w := w) (place := fun i => some (i * ei.sz, ei.sz)) (place' := fun i => some (i * ei.sz, ei.sz)) (fun _ _ h => h) (a := a) parts.toList (List.replicate (n * ei.sz) AV.any) cs0
    (flat (parts.toList.map fun p => evalA st p.2)) hs (by rw [hparts]; exact hfill) (by simp [cs0]) (fun j c v hcj hvj => by
      have hj : j < n * ei.sz := by have := (List.getElem?_eq_some_iff.1 hcj).1; simpa using this
      rw [List.getElem?_replicate, if_pos hj] at hcj
      cases hcj
      refine ⟨?_, RV.any v⟩
      have hne : n * ei.sz ≠ 0 := by omega
      have hzpos : 0 < z.cells.size := by rw [hzsz, ← hsz]; exact Nat.pos_of_ne_zero (fun e => hne (by rw [e, Nat.mul_zero]))
      simp only [cs0, zs, if_neg hne, Array.getElem?_map, Option.map_eq_some_iff] at hvj
      obtain ⟨q, hq, rfl⟩ := hvj
      have hlt : q % z.cells.size < z.cells.size := Nat.mod_lt _ hzpos
      rw [getElem!_pos z.cells _ hlt]
      exact hone _ (Array.getElem_mem hlt))
  have hfl : (flat (parts.toList.map fun p => evalA st p.2)).length = n * ei.sz := by
    rw [flat_len _ (fun x hx => by obtain ⟨p, hp, rfl⟩ := List.mem_map.1 hx; exact (hc p hp).1)]; simp [hlen]
  have hosz : os.size = n * ei.sz := by omega
  have hrun : (execOp a.eval o).run P w = .ok (.value (.slice (some ⟨w.heap.size, 0, none⟩) n n)) (w.alloc (.cells os e)) := by
    have h4' : Instr.fill (fun i => some (i * ei.sz, ei.sz)) ((Array.range (n * ei.sz)).map (zs[· % zs.size]!)) (parts.map fun (i, x) => (i, a.eval x)).toList = some os := by
      have e2 : (parts.map fun (i, x) => (i, a.eval x)).toList = parts.toList.map fun p => (p.1, a.eval p.2) := by simp
      rw [e2]; exact h4
    simp only [execOp, ho, Instr.buildSlice, Sem.run_bind, run_underlying (hT.elem e he) w, Result.andThen_ok, hE.size w]
    rw [if_neg (by omega)]
    by_cases h0 : n * ei.sz = 0
    · have e3 : zs = #[] := if_pos h0
      rw [e3] at h4'
      rw [if_pos h0]
      simp only [Sem.run_bind, Sem.run_pure, Result.andThen_ok, h4', newRow, run_newObj]
      rfl
    · have e3 : zs = z.cells := if_neg h0
      rw [e3] at h4'
      rw [if_neg h0]
      simp only [Sem.run_bind, Sem.run_pure, Result.andThen_ok, zeroValue, typeInfo, run_program, hinf, hz, h4', newRow, run_newObj]
      rfl
  obtain ⟨hle, hok'⟩ := hok.newRow os e (n * ei.sz) (by omega) (L' := st.L) (τ' := E.τ) (fun _ => ⟨Nat.le_refl _, fun _ => rfl⟩) (fun _ _ h => .inl h) (fun k k' x y h h' e1 e2 => by
    have := hok.spLt (k := k) (b := x.1) (lo := x.2.1) (hi := x.2.2) (by rw [h])
    omega)
  unfold Oper.wp
  rw [hrun]
  refine hK _ _ _ hle hok' (.pure _ _ (.data _ _ (RD.list_iff.2 ⟨some ⟨w.heap.size, 0, none⟩, n, w.heap.size, 0, ?_, ?_, fun _ => rfl, ?_, ?_, .inr ⟨rfl, ?_⟩⟩)))
  · simp [hlen]
  · simp [hlen]
  · intro x hx
    obtain ⟨p, hp, rfl⟩ := List.mem_map.1 hx
    rw [cells_data, List.length_map]
    exact (hc p hp).1
  · intro j y hy
    have hflat : flat (parts.toList.map fun p => (evalA st p.2).data) = (flat (parts.toList.map fun p => evalA st p.2)).map AV.data0 := by
      simp only [flat, List.flatMap_map, List.map_flatMap]
      congr 1
      funext p
      exact cells_data _
    rw [hflat, List.getElem?_map, Option.map_eq_some_iff] at hy
    obtain ⟨y', hy', rfl⟩ := hy
    have hj : j < os.size := by rw [hosz, ← hfl]; exact (List.getElem?_eq_some_iff.1 hy').1
    obtain ⟨h7, h8⟩ := h6 j y' os[j] hy' (by simp [hj])
    refine ⟨.inr ⟨rfl, by omega⟩, os[j], ?_, h7, (h8.data0).mono hle.S⟩
    have h9 := heap_alloc_new w (.cells os e)
    unfold World.cell?
    simp only [h9, Nat.zero_add]
    simp [hj]
  · simp [hlen]

/-- The spare cells go from key k (if one is named) to key d. -/
def hand (τ : Nat → Option (Nat × Nat × Nat)) (k : Option Nat) (d : Nat) (x : Option (Nat × Nat × Nat)) : Nat → Option (Nat × Nat × Nat) :=
  fun j => if j = d then x else if some j = k then none else τ j

def Own.keyOf : Own → Option Nat
  | .key k _ => some k
  | _ => none

theorem run_append_grows {w : World} {t ty e : TypeId} {i : TypeInfo} {z : Value} (ht : P.underlying t = some (.slice e)) (hi : P.info? e = some i) (hz : i.zero = some z) {A X : Option Addr} {n c m cx : Nat} {olds news : List Value}
    (ho : (Builtin.firstCells i.size n (.slice A n c)).run P w.drew = .ok olds.toArray w.drew) (hn : (Builtin.firstCells i.size m (.slice X m cx)).run P w.drew = .ok news.toArray w.drew)
    (hg : c < n + m) (h63 : ((n + m : Nat) : Int) ≤ 9223372036854775807) (hfit : Builtin.nextslicecap (n + m) c * i.bytes ≤ 281474976710656) :
    (Builtin.append_ #[t, t] ty #[.slice A n c, .slice X m cx]).run P w =
      .ok (.slice (some ⟨w.heap.size, 0, none⟩) (n + m) (grownCap w (n + m) c e))
        (w.drew.alloc (.cells (olds.toArray ++ news.toArray ++ Builtin.zeroCells z.cells (grownCap w (n + m) c e - (n + m))) e)) := by
  have hn1 : ¬ (n + m ≤ c) := by omega
  have h63' : ¬ (9223372036854775807 < ((n : Int) + (m : Int))) := by omega
  have h48' : ¬ (281474976710656 < Builtin.nextslicecap (n + m) c * i.bytes) := by omega
  simp [Builtin.append_, run_underlying ht, sizeOf, typeInfo, zeroValue, hi, hz, Builtin.lenOf, hn1, h63', h48', Question.forced, ho, hn, newRow, grownCap]
  congr 2
  apply Array.ext'
  simp [List.append_assoc]

theorem run_append_room' {w : World} {t ty e : TypeId} {i : TypeInfo} (ht : P.underlying t = some (.slice e)) (hi : P.info? e = some i) {A X : Option Addr} {n c m cx : Nat} {news : List Value} {w' : World}
    (hn : (Builtin.firstCells i.size m (.slice X m cx)).run P w = .ok news.toArray w) (hg : n + m ≤ c)
    (hst : ∀ a, A = some a → (storeCells (a.add (n * i.size)) news).run P w = .ok () w') (hno : A = none → w' = w) :
    (Builtin.append_ #[t, t] ty #[.slice A n c, .slice X m cx]).run P w = .ok (.slice A (n + m) c) w' := by
  cases A with
  | none => simp [Builtin.append_, run_underlying ht, sizeOf, typeInfo, hi, Builtin.lenOf, hg, hn, hno rfl]
  | some a =>
    have := hst a rfl
    simp [Builtin.append_, run_underlying ht, sizeOf, typeInfo, hi, Builtin.lenOf, hg, hn, this]
end

end Go.Proofs.YtkmdeahnkfdhjaaW.E
