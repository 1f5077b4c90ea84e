/-
  What new blocks, stores and appends make of memory that a state in abstract values tells. Laws over any program; no condition.
-/
import Derived.Test.YtkmdeahnkfdhjaaE3
import Derived.Deep.Draws
namespace Go.Proofs.YtkmdeahnkfdhjaaW.E
open Go Go.RowKit
set_option linter.unusedVariables false
set_option linter.unusedSimpArgs false

section
variable {base : Nat} {w0 : Entry} {E : Env} {B : Nat → Nat × List AV} {L : Nat → Nat} {w : World}

theorem cell_lt {b o : Nat} {v : Value} (h : w.cell? ⟨b, o, none⟩ = some v) : b < w.heap.size := World.block_lt_of_cell? w _ h
theorem OK.sLt (hok : OK base w0 E B L w) {b o : Nat} (h : E.S b o) : b < w.heap.size := let ⟨_, hv⟩ := hok.sCell b o h; cell_lt hv
theorem OK.fLt (hok : OK base w0 E B L w) {b o : Nat} (h : E.F b o) : b < w.heap.size := let ⟨_, hv⟩ := hok.fCell b o h; cell_lt hv
theorem OK.bmLt (hok : OK base w0 E B L w) {k : Nat} (h : (B k).2 ≠ []) : E.bm k < w.heap.size := by
  obtain ⟨_, _, t, ccs, h1, _⟩ := hok.box k h
  exact (Array.getElem?_eq_some_iff.1 h1).1
theorem OK.spLt (hok : OK base w0 E B L w) {k b lo hi : Nat} (h : E.τ k = some (b, lo, hi)) : b < w.heap.size := by
  obtain ⟨_, _, ccs, t, h1, _⟩ := hok.spare k b lo hi h
  exact (Array.getElem?_eq_some_iff.1 h1).1

theorem alloc_cell {o : Obj} {b j : Nat} (h : b < w.heap.size) : (w.alloc o).cell? ⟨b, j, none⟩ = w.cell? ⟨b, j, none⟩ := World.cell?_alloc_lt w o _ h
theorem alloc_heap {o : Obj} {k : Nat} (h : k < w.heap.size) : (w.alloc o).heap[k]? = w.heap[k]? := Below.heap_alloc w o k h

/-- Draws turn nothing. -/
theorem OK.drawn (hok : OK base w0 E B L w) (n : Nat) : E.Le w E (w.drewN n) ∧ OK base w0 E B L (w.drewN n) := by
  have hle : E.Le w E (w.drewN n) := ⟨fun _ _ h => ⟨h, rfl⟩, fun _ _ h => ⟨h, rfl⟩, fun _ => ⟨Nat.le_refl _, fun _ => rfl⟩, fun _ => ⟨Nat.le_refl _, fun _ => rfl⟩⟩
  refine ⟨hle, hok.hbase, ⟨hok.below.os, hok.below.tape, hok.below.output, hok.below.size, hok.below.block⟩, hok.sOld, hok.sCell, hok.fCell, hok.fOld, hok.sF, hok.L, hok.G, fun k hk => ?_, hok.boxinj, hok.spare, hok.spareinj, hok.sparebox⟩
  obtain ⟨h1, h2, t, ccs, h3, h4, h5⟩ := hok.box k hk
  exact ⟨h1, h2, t, ccs, h3, h4, fun i c v hc hv => ⟨(h5 i c v hc hv).1, (h5 i c v hc hv).2.mono hle⟩⟩

/-- A new box under a key. -/
theorem OK.newBox (hok : OK base w0 E B L w) (key : Nat) (cs : List AV) (ccs : Array Value) (t : TypeId) (hl : ccs.size = cs.length)
    (h1 : ∀ (i : Nat) c v, cs[i]? = some c → ccs[i]? = some v → v.oneCell' = true ∧ RV E w c v) :
    E.Le w { E with G := upd E.G key ((B key).1 + 1), bm := upd E.bm key w.heap.size } (w.alloc (.cells ccs t)) ∧
    OK base w0 { E with G := upd E.G key ((B key).1 + 1), bm := upd E.bm key w.heap.size } (upd B key ((B key).1 + 1, cs)) L (w.alloc (.cells ccs t)) := by
  have hle : E.Le w { E with G := upd E.G key ((B key).1 + 1), bm := upd E.bm key w.heap.size } (w.alloc (.cells ccs t)) := by
    refine ⟨fun b o h => ⟨h, alloc_cell (hok.sLt h)⟩, fun b o h => ⟨h, alloc_cell (hok.fLt h)⟩, fun _ => ⟨Nat.le_refl _, fun _ => rfl⟩, fun k => ?_⟩
    have hG := hok.G k
    by_cases hk : k = key
    · subst hk
      simp only [upd_same]
      exact ⟨by omega, fun e => by omega⟩
    · show E.G k ≤ upd E.G key _ k ∧ (_ → upd E.bm key _ k = _)
      rw [upd_ne _ _ hk, upd_ne _ _ hk]
      exact ⟨Nat.le_refl _, fun _ => rfl⟩
  refine ⟨hle, hok.hbase, hok.below.alloc hok.size _, hok.sOld, fun b o h => ?_, fun b o h => ?_, hok.fOld, hok.sF, hok.L, fun k => ?_, fun k hk => ?_, fun k k' hne hk hk' => ?_, fun k b lo hi h => ?_, hok.spareinj, fun k k' b lo hi h hk' => ?_⟩
  · rw [alloc_cell (hok.sLt h)]; exact hok.sCell b o h
  · rw [alloc_cell (hok.fLt h)]; exact hok.fCell b o h
  · by_cases hk : k = key
    · subst hk; simp [upd_same]
    · simp only [upd_ne _ _ hk]; exact hok.G k
  · by_cases hkey : k = key
    · subst hkey
      simp only [upd_same]
      refine ⟨hok.size, fun o h => absurd (hok.sLt h) (Nat.lt_irrefl _), t, ccs, heap_alloc_new w _, hl, fun i c v hc hv => ⟨(h1 i c v hc hv).1, (h1 i c v hc hv).2.mono hle⟩⟩
    · simp only [upd_ne _ _ hkey] at hk ⊢
      obtain ⟨a1, a2, t', ccs', a3, a4, a5⟩ := hok.box k hk
      exact ⟨a1, a2, t', ccs', by rw [alloc_heap (hok.bmLt hk)]; exact a3, a4, fun i c v hc hv => ⟨(a5 i c v hc hv).1, (a5 i c v hc hv).2.mono hle⟩⟩
  · by_cases e1 : k = key
    · subst e1
      simp only [upd_same, upd_ne _ _ (Ne.symm hne)] at hk' ⊢
      have := hok.bmLt hk'
      omega
    · by_cases e2 : k' = key
      · subst e2
        simp only [upd_same, upd_ne _ _ e1] at hk ⊢
        have := hok.bmLt hk
        omega
      · simp only [upd_ne _ _ e1, upd_ne _ _ e2] at hk hk' ⊢
        exact hok.boxinj k k' hne hk hk'
  · obtain ⟨a1, a2, ccs', t', a3, a4⟩ := hok.spare k b lo hi h
    exact ⟨a1, a2, ccs', t', by rw [alloc_heap (hok.spLt h)]; exact a3, a4⟩
  · by_cases e2 : k' = key
    · subst e2
      simp only [upd_same]
      have := hok.spLt h
      omega
    · simp only [upd_ne _ _ e2] at hk' ⊢
      exact hok.sparebox k k' b lo hi h hk'

/-- A store into a box. -/
theorem OK.setBox (hok : OK base w0 E B L w) (key : Nat) (hne : (B key).2 ≠ []) (cs : List AV) (ccs : Array Value) (hlen : cs.length = (B key).2.length) (hl : ccs.size = cs.length)
    (h1 : ∀ (i : Nat) c v, cs[i]? = some c → ccs[i]? = some v → v.oneCell' = true ∧ RV E w c v) :
    E.Le w E (w.setRow (E.bm key) ccs) ∧ OK base w0 E (upd B key ((B key).1, cs)) L (w.setRow (E.bm key) ccs) := by
  obtain ⟨b1, b2, t, old, b3, b4, b5⟩ := hok.box key hne
  have sne : ∀ b o, E.S b o → b ≠ E.bm key := fun b o h e => b2 o (e ▸ h)
  have fne : ∀ b o, E.F b o → b ≠ E.bm key := fun b o h e => by
    rcases hok.fOld b o h with h | h
    · exact sne b o h e
    · omega
  have hle : E.Le w E (w.setRow (E.bm key) ccs) :=
    ⟨fun b o h => ⟨h, cell_setRow_other w _ _ _ (sne b o h)⟩, fun b o h => ⟨h, cell_setRow_other w _ _ _ (fne b o h)⟩, fun _ => ⟨Nat.le_refl _, fun _ => rfl⟩, fun _ => ⟨Nat.le_refl _, fun _ => rfl⟩⟩
  have cne : cs ≠ [] := fun e => hne (List.eq_nil_of_length_eq_zero (by rw [← hlen, e]; rfl))
  have bne : ∀ k, (upd B key ((B key).1, cs) k).2 ≠ [] → (B k).2 ≠ [] := fun k hk => by
    by_cases e : k = key
    · subst e; exact hne
    · simpa only [upd_ne _ _ e] using hk
  refine ⟨hle, hok.hbase, hok.below.trans ⟨rfl, rfl, rfl, by simp, fun k hk => setRow_other w _ k _ (by omega)⟩, hok.sOld, fun b o h => ?_, fun b o h => ?_, hok.fOld, hok.sF, hok.L, fun k => ?_, fun k hk => ?_, fun k k' h hk hk' => hok.boxinj k k' h (bne k hk) (bne k' hk'), fun k b lo hi h => ?_, hok.spareinj, fun k k' b lo hi h hk' => hok.sparebox k k' b lo hi h (bne k' hk')⟩
  · rw [(hle.S b o h).2]; exact hok.sCell b o h
  · rw [(hle.F b o h).2]; exact hok.fCell b o h
  · by_cases hk : k = key
    · subst hk; simp only [upd_same]; exact hok.G k
    · simp only [upd_ne _ _ hk]; exact hok.G k
  · by_cases hkey : k = key
    · subst hkey
      simp only [upd_same]
      exact ⟨b1, b2, t, ccs, setRow_heap w _ old _ t _ b3, hl, fun i c v hc hv => ⟨(h1 i c v hc hv).1, (h1 i c v hc hv).2.mono hle⟩⟩
    · simp only [upd_ne _ _ hkey] at hk ⊢
      obtain ⟨a1, a2, t', ccs', a3, a4, a5⟩ := hok.box k hk
      exact ⟨a1, a2, t', ccs', by rw [setRow_other w _ _ _ (hok.boxinj k key hkey hk hne)]; exact a3, a4, fun i c v hc hv => ⟨(a5 i c v hc hv).1, (a5 i c v hc hv).2.mono hle⟩⟩
  · obtain ⟨a1, a2, ccs', t', a3, a4⟩ := hok.spare k b lo hi h
    exact ⟨a1, a2, ccs', t', by rw [setRow_other w _ _ _ (Ne.symm (hok.sparebox k key b lo hi h hne))]; exact a3, a4⟩

/-- More of memory is settled, keys go up, spare cells change hands: no cell of the settled, no box is touched. -/
theorem OK.settle (hok : OK base w0 E B L w) {w' : World} {S' : Pl} {L' : Nat → Nat} {τ' : Nat → Option (Nat × Nat × Nat)}
    (hbel : Below base w w')
    (hS : ∀ b o, E.S b o → S' b o ∧ w'.cell? ⟨b, o, none⟩ = w.cell? ⟨b, o, none⟩)
    (hS' : ∀ b o, S' b o → ∃ v, w'.cell? ⟨b, o, none⟩ = some v)
    (hF : ∀ b o, E.F b o → b < base ∨ E.S b o)
    (hSo : ∀ b o, S' b o → E.S b o ∨ base ≤ b)
    (hL : ∀ k, L k ≤ L' k ∧ (L k = L' k → τ' k = E.τ k))
    (hbox : ∀ k, (B k).2 ≠ [] → w'.heap[E.bm k]? = w.heap[E.bm k]? ∧ ∀ o, ¬ S' (E.bm k) o)
    (hsp : ∀ k b lo hi, τ' k = some (b, lo, hi) → base ≤ b ∧ (∀ o, lo ≤ o → o < hi → ¬ S' b o) ∧ ∃ ccs t, w'.heap[b]? = some (.cells ccs t (0, 0)) ∧ hi ≤ ccs.size)
    (hinj : ∀ k k' b lo hi b' lo' hi', k ≠ k' → τ' k = some (b, lo, hi) → τ' k' = some (b', lo', hi') → b ≠ b')
    (hsb : ∀ k k' b lo hi, τ' k = some (b, lo, hi) → (B k').2 ≠ [] → E.bm k' ≠ b) :
    E.Le w { E with S := S', F := fun b o => E.F b o ∨ S' b o, L := L', τ := τ' } w' ∧ OK base w0 { E with S := S', F := fun b o => E.F b o ∨ S' b o, L := L', τ := τ' } B L' w' := by
  have hFc : ∀ b o, E.F b o → w'.cell? ⟨b, o, none⟩ = w.cell? ⟨b, o, none⟩ := fun b o h => by
    rcases hF b o h with h | h
    · exact World.cell?_of_block (w := w) (hbel.block b h)
    · exact (hS b o h).2
  have hle : E.Le w { E with S := S', F := fun b o => E.F b o ∨ S' b o, L := L', τ := τ' } w' :=
    ⟨hS, fun b o h => ⟨.inl h, hFc b o h⟩, fun k => by rw [hok.L]; exact hL k, fun _ => ⟨Nat.le_refl _, fun _ => rfl⟩⟩
  refine ⟨hle, hok.hbase, hok.below.trans hbel, fun b o h hb => (hSo b o h).elim (fun h => hok.sOld b o h hb) (fun h => by omega), hS', fun b o h => ?_, fun b o h => ?_, fun b o h => .inr h, fun _ => rfl, hok.G, fun k hk => ?_, hok.boxinj, hsp, hinj, hsb⟩
  · rcases h with h | h
    · rw [hFc b o h]; exact hok.fCell b o h
    · exact hS' b o h
  · rcases h with h | h
    · rcases hF b o h with h | h
      · exact .inr h
      · exact .inl (hS b o h).1
    · exact .inl h
  · obtain ⟨a1, a2, t', ccs', a3, a4, a5⟩ := hok.box k hk
    exact ⟨a1, (hbox k hk).2, t', ccs', by rw [(hbox k hk).1]; exact a3, a4, fun i c v hc hv => ⟨(a5 i c v hc hv).1, (a5 i c v hc hv).2.mono hle⟩⟩

theorem OK.fOld' (hok : OK base w0 E B L w) : ∀ b o, E.F b o → b < base ∨ E.S b o := fun b o h => (hok.fOld b o h).symm

/-- A new row: its first m cells are settled; the rest is the key d's, if one is named. -/
theorem OK.newRow (hok : OK base w0 E B L w) (ccs : Array Value) (t : TypeId) (m : Nat) (hm : m ≤ ccs.size) {L' : Nat → Nat} {τ' : Nat → Option (Nat × Nat × Nat)}
    (hL : ∀ k, L k ≤ L' k ∧ (L k = L' k → τ' k = E.τ k))
    (hτ : ∀ k x, τ' k = some x → E.τ k = some x ∨ (x = (w.heap.size, m, ccs.size)))
    (hu : ∀ k k' x y, τ' k = some x → τ' k' = some y → x.1 = w.heap.size → y.1 = w.heap.size → k = k') :
    E.Le w { E with S := fun b o => E.S b o ∨ (b = w.heap.size ∧ o < m), F := fun b o => E.F b o ∨ (E.S b o ∨ (b = w.heap.size ∧ o < m)), L := L', τ := τ' } (w.alloc (.cells ccs t)) ∧
    OK base w0 { E with S := fun b o => E.S b o ∨ (b = w.heap.size ∧ o < m), F := fun b o => E.F b o ∨ (E.S b o ∨ (b = w.heap.size ∧ o < m)), L := L', τ := τ' } B L' (w.alloc (.cells ccs t)) := by
  refine hok.settle (S' := fun b o => E.S b o ∨ (b = w.heap.size ∧ o < m)) ?_ ?_ ?_ hok.fOld' (fun b o h => h.imp id (fun h => by have := hok.size; omega)) hL ?_ ?_ ?_ ?_
  · exact (Below.refl base w).alloc hok.size _
  · exact fun b o h => ⟨.inl h, alloc_cell (hok.sLt h)⟩
  · rintro b o (h | ⟨rfl, h⟩)
    · rw [alloc_cell (hok.sLt h)]; exact hok.sCell b o h
    · exact ⟨ccs[o], by have h9 := heap_alloc_new w (.cells ccs t); unfold World.cell?; simp only [h9]; simp [show o < ccs.size by omega]⟩
  · refine fun k hk => ⟨alloc_heap (hok.bmLt hk), fun o h => ?_⟩
    rcases h with h | ⟨h, _⟩
    · exact (hok.box k hk).2.1 o h
    · have := hok.bmLt hk; omega
  · intro k b lo hi h
    rcases hτ k _ h with h | h
    · obtain ⟨a1, a2, ccs', t', a3, a4⟩ := hok.spare k b lo hi h
      have hlt := hok.spLt h
      exact ⟨a1, fun o h1 h2 h3 => h3.elim (a2 o h1 h2) (fun h4 => by omega), ccs', t', by rw [alloc_heap hlt]; exact a3, a4⟩
    · cases h
      exact ⟨hok.size, fun o h1 h2 h3 => h3.elim (fun h4 => absurd (hok.sLt h4) (Nat.lt_irrefl _)) (fun h4 => by omega), ccs, t, heap_alloc_new w _, Nat.le_refl _⟩
  · intro k k' b lo hi b' lo' hi' hne h h'
    rcases hτ k _ h with h1 | h1 <;> rcases hτ k' _ h' with h2 | h2
    · exact hok.spareinj k k' b lo hi b' lo' hi' hne h1 h2
    · have := hok.spLt h1; cases h2; omega
    · have := hok.spLt h2; cases h1; omega
    · exact fun e => hne (hu k k' _ _ h h' (by cases h1; rfl) (by cases h2; rfl))
  · intro k k' b lo hi h hk'
    rcases hτ k _ h with h | h
    · exact hok.sparebox k k' b lo hi h hk'
    · have := hok.bmLt hk'; cases h; omega

/-- An append in place: the first m spare cells of key k are written and settled; what is left is the key d's. -/
theorem OK.room (hok : OK base w0 E B L w) {k b lo hi : Nat} (hk : E.τ k = some (b, lo, hi)) (m : Nat) (hm : lo + m ≤ hi) (cur : Array Value) (t : TypeId) (hb : w.heap[b]? = some (.cells cur t (0, 0))) (cur' : Array Value)
    (hsz : cur'.size = cur.size) (hcur : ∀ o : Nat, o < lo ∨ lo + m ≤ o → cur'[o]? = cur[o]?) {L' : Nat → Nat} {τ' : Nat → Option (Nat × Nat × Nat)}
    (hL : ∀ k, L k ≤ L' k ∧ (L k = L' k → τ' k = E.τ k)) (hLk : L k ≠ L' k)
    (hτ : ∀ j x, τ' j = some x → (j ≠ k ∧ E.τ j = some x) ∨ x = (b, lo + m, hi))
    (hu : ∀ j j' x y, τ' j = some x → τ' j' = some y → x.1 = b → y.1 = b → j = j') :
    E.Le w { E with S := fun b' o => E.S b' o ∨ (b' = b ∧ lo ≤ o ∧ o < lo + m), F := fun b' o => E.F b' o ∨ (E.S b' o ∨ (b' = b ∧ lo ≤ o ∧ o < lo + m)), L := L', τ := τ' } (w.setRow b cur') ∧
    OK base w0 { E with S := fun b' o => E.S b' o ∨ (b' = b ∧ lo ≤ o ∧ o < lo + m), F := fun b' o => E.F b' o ∨ (E.S b' o ∨ (b' = b ∧ lo ≤ o ∧ o < lo + m)), L := L', τ := τ' } B L' (w.setRow b cur') := by
  obtain ⟨s1, s2, ccs0, t0, s3, s4⟩ := hok.spare k b lo hi hk
  rw [hb] at s3
  cases s3
  refine hok.settle (S' := fun b' o => E.S b' o ∨ (b' = b ∧ lo ≤ o ∧ o < lo + m)) ?_ ?_ ?_ hok.fOld' (fun b' o h => h.imp id (fun h => by omega)) hL ?_ ?_ ?_ ?_
  · exact ⟨rfl, rfl, rfl, by simp, fun j hj => setRow_other w _ j _ (by omega)⟩
  · refine fun b' o h => ⟨.inl h, ?_⟩
    by_cases e : b' = b
    · subst e
      rw [cell_setRow_same w b' o cur cur' t _ hb]
      have : w.cell? ⟨b', o, none⟩ = cur[o]? := by simp [World.cell?, hb]
      rw [this]
      refine hcur o ?_
      by_cases h1 : o < lo
      · exact .inl h1
      · by_cases h2 : lo + m ≤ o
        · exact .inr h2
        · exact absurd h (s2 o (by omega) (by omega))
    · exact cell_setRow_other w _ _ _ e
  · rintro b' o (h | ⟨rfl, h1, h2⟩)
    · by_cases e : b' = b
      · subst e
        rw [cell_setRow_same w b' o cur cur' t _ hb]
        obtain ⟨v, hv⟩ := hok.sCell b' o h
        have : o < cur.size := by simp [World.cell?, hb] at hv; exact (Array.getElem?_eq_some_iff.1 hv).1
        exact ⟨cur'[o], by simp [show o < cur'.size by omega]⟩
      · rw [cell_setRow_other w _ _ _ e]; exact hok.sCell b' o h
    · rw [cell_setRow_same w b' o cur cur' t _ hb]
      exact ⟨cur'[o], by simp [show o < cur'.size by omega]⟩
  · refine fun j hj => ⟨setRow_other w _ _ _ (hok.sparebox k j b lo hi hk hj), fun o h => ?_⟩
    rcases h with h | ⟨h, _⟩
    · exact (hok.box j hj).2.1 o h
    · exact hok.sparebox k j b lo hi hk hj h
  · intro j b' lo' hi' h
    rcases hτ j _ h with ⟨hne, h⟩ | h
    · have hbb := hok.spareinj j k b' lo' hi' b lo hi hne h hk
      obtain ⟨a1, a2, ccs', t', a3, a4⟩ := hok.spare j b' lo' hi' h
      exact ⟨a1, fun o h1 h2 h3 => h3.elim (a2 o h1 h2) (fun h4 => hbb h4.1), ccs', t', by rw [setRow_other w _ _ _ hbb]; exact a3, a4⟩
    · cases h
      exact ⟨s1, fun o h1 h2 h3 => h3.elim (s2 o (by omega) h2) (fun h4 => by omega), cur', t, setRow_heap w b cur cur' t _ hb, by omega⟩
  · intro j j' b1 lo1 hi1 b2 lo2 hi2 hne h h'
    rcases hτ j _ h with ⟨n1, h1⟩ | h1 <;> rcases hτ j' _ h' with ⟨n2, h2⟩ | h2
    · exact hok.spareinj j j' b1 lo1 hi1 b2 lo2 hi2 hne h1 h2
    · have := hok.spareinj j k b1 lo1 hi1 b lo hi n1 h1 hk; cases h2; exact this
    · have := hok.spareinj j' k b2 lo2 hi2 b lo hi n2 h2 hk; cases h1; exact Ne.symm this
    · exact fun e => hne (hu j j' _ _ h h' (by cases h1; rfl) (by cases h2; rfl))
  · intro j k' b' lo' hi' h hk'
    rcases hτ j _ h with ⟨_, h⟩ | h
    · exact hok.sparebox j k' b' lo' hi' h hk'
    · cases h; exact hok.sparebox k k' b lo hi hk hk'
end

end Go.Proofs.YtkmdeahnkfdhjaaW.E
