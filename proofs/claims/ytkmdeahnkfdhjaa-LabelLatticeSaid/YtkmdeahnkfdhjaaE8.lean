/-
  What an append makes of a state in abstract values. Laws over any program; no condition.
-/
import Derived.Test.YtkmdeahnkfdhjaaE7
namespace Go.Proofs.YtkmdeahnkfdhjaaW.E
open Go Go.RowKit
set_option linter.unusedVariables false
set_option linter.unusedSimpArgs false

section
variable {P : Program} {base : Nat} {w0 : Entry} {st : St} {o : Oper}

theorem hand_L {E : Env} {L : Nat → Nat} (ks : List Nat) {k : Option Nat} {d : Nat} (hd : d ∈ ks) (hk : ∀ j, k = some j → j ∈ ks) (x : Option (Nat × Nat × Nat)) :
    ∀ j, L j ≤ bumpL ks L j ∧ (L j = bumpL ks L j → hand E.τ k d x j = E.τ j) := fun j => by
  refine ⟨(bumpL_le ks L j).1, fun e => ?_⟩
  by_cases h : j ∈ ks
  · have := (bumpL_le ks L j).2 h; omega
  · unfold hand
    rw [if_neg (fun h' => h (by rw [h']; exact hd)), if_neg (fun h' => h (hk j h'.symm))]

/-- The row behind an append. -/
theorem row_join {S S' : Pl} {w w' : World} (hs : ∀ b o, S b o → S' b o ∧ w'.cell? ⟨b, o, none⟩ = w.cell? ⟨b, o, none⟩) {xs ys : List AV} {olds news : List Value} (h1 : olds.length = (flat xs).length) (h2 : news.length = (flat ys).length)
    (h3 : ∀ (j : Nat) y u, (flat xs)[j]? = some y → olds[j]? = some u → RD S w y u) (h4 : ∀ (j : Nat) y u, (flat ys)[j]? = some y → news[j]? = some u → RD S w y u)
    (h5 : ∀ u ∈ olds, u.oneCell' = true) (h6 : ∀ u ∈ news, u.oneCell' = true) {b off : Nat}
    (h7 : ∀ (j : Nat) u, (olds ++ news)[j]? = some u → S' b (off + j) ∧ w'.cell? ⟨b, off + j, none⟩ = some u) : Row S' w' (RD S' w') b off (flat (xs ++ ys)) := by
  intro j y hy
  rw [flat_append] at hy
  by_cases hj : j < (flat xs).length
  · rw [List.getElem?_append_left hj] at hy
    have hj' : j < olds.length := by omega
    have hu : olds[j]? = some olds[j] := by simp [hj']
    obtain ⟨a1, a2⟩ := h7 j olds[j] (by rw [List.getElem?_append_left hj']; exact hu)
    exact ⟨a1, _, a2, h5 _ (List.getElem_mem hj'), (h3 j y _ hy hu).mono hs⟩
  · rw [List.getElem?_append_right (by omega)] at hy
    have hj2 : j - (flat xs).length < news.length := by rw [h2]; exact (List.getElem?_eq_some_iff.1 hy).1
    have hu : news[j - (flat xs).length]? = some news[j - (flat xs).length] := by simp [hj2]
    obtain ⟨a1, a2⟩ := h7 j news[j - (flat xs).length] (by rw [List.getElem?_append_right (by omega), h1]; exact hu)
    exact ⟨a1, _, a2, h6 _ (List.getElem_mem hj2), (h4 _ y _ hy hu).mono hs⟩

theorem RV.own_mk {E : Env} {w : World} {sz : Nat} {xs : List AV} {k g n c b off : Nat} (hn : n = xs.length) (hc : n ≤ c) (hz : ∀ x ∈ xs, x.cells.length = sz) (hrow : Row E.S w (RD E.S w) b off (flat xs))
    (ho : E.owns k g sz (some ⟨b, off, none⟩) n c) : RV E w (.list sz xs (.key k g)) (.slice (some ⟨b, off, none⟩) n c) := by
  subst hn
  exact .own _ _ _ _ _ _ _ (RD.list_iff.2 ⟨_, c, b, off, rfl, hc, fun _ => rfl, hz, hrow, .inl rfl⟩) ho

set_option maxHeartbeats 1000000 in
theorem does_append {c : Call} (ho : o.op = .call c) (hc : c.callee = .builtin .append) {x y : Operand} (hx : c.args = #[x, y]) {t e : TypeId} (ht : c.argTypes = #[t, t]) {i ei : TInfo} (hT : TOK P t i) (he : i.elem = some e) (hE : TOK P e ei)
    {sx sy : Nat} {xs ys : List AV} {ow oy : Own} (hxv : evalA st x = .list sx xs ow) (hyv : evalA st y = .list sy ys oy) (hsx : sx = ei.sz ∨ xs = []) (hsy : sy = ei.sz ∨ ys = [])
    {d : Nat} {ks : List Nat} (how : (ow = .full ∧ ks = [d]) ∨ ∃ k, ow = .key k (st.L k) ∧ ks = [k, d] ∧ sx = ei.sz)
    (hfit : (xs.length + ys.length) * ei.bytes ≤ 140737488355328) (hby : 0 < ei.bytes) :
    Does P base w0 st o { v := .list ei.sz (xs ++ ys) (.key d (bumpL ks st.L d)), bump := ks } := by
  intro E a w hok hs hn0 hd0 K Q hK
  obtain ⟨dd, inf, z, hdd, hinf, hz, hagg, hsz, hbys, hzsz, hone, hzlen, hzero⟩ := hE.ex
  have hrx := evalA_ok hs x
  rw [hxv] at hrx
  have hry := evalA_ok hs y
  rw [hyv] at hry
  obtain ⟨A, cp, b, off, hA, hcp, hA1, hzx, hrowx, _⟩ := RD.list_iff.1 hrx.list_no
  obtain ⟨X, cx, b', off', hX, hcx, hX1, hzy, hrowy, _⟩ := RD.list_iff.1 hry.list_no
  have hzx' : ∀ q ∈ xs, q.cells.length = ei.sz := fun q hq => by
    rcases hsx with h | h
    · rw [← h]; exact hzx q hq
    · rw [h] at hq; simp at hq
  have hzy' : ∀ q ∈ ys, q.cells.length = ei.sz := fun q hq => by
    rcases hsy with h | h
    · rw [← h]; exact hzy q hq
    · rw [h] at hq; simp at hq
  obtain ⟨olds, ol1, ol2, ol3, ol4⟩ := row_vals hrowx
  obtain ⟨news, nl1, nl2, nl3, nl4⟩ := row_vals hrowy
  have ol1' : olds.length = xs.length * ei.sz := ol1.trans (flat_len xs hzx')
  have nl1' : news.length = ys.length * ei.sz := nl1.trans (flat_len ys hzy')
  have hne : ∀ {q : List AV}, q.length ≠ 0 → q ≠ [] := fun h e => h (by rw [e]; rfl)
  have hfX : ∀ w1 : World, (∀ (j : Nat) u, news[j]? = some u → w1.cell? ⟨b', off' + j, none⟩ = some u) → (Builtin.firstCells inf.size ys.length (.slice X ys.length cx)).run P w1 = .ok news.toArray w1 := fun w1 h =>
    run_first (P := P) (fun h => hX1 (hne h)) (by rw [nl1', hsz]) h
  have hfA : ∀ w1 : World, (∀ (j : Nat) u, olds[j]? = some u → w1.cell? ⟨b, off + j, none⟩ = some u) → (Builtin.firstCells inf.size xs.length (.slice A xs.length cp)).run P w1 = .ok olds.toArray w1 := fun w1 h =>
    run_first (P := P) (fun h => hA1 (hne h)) (by rw [ol1', hsz]) h
  have hbump : (bumpL ks st.L d) = (st.app o.dst { v := .list ei.sz (xs ++ ys) (.key d (bumpL ks st.L d)), bump := ks }).L d := rfl
  have hdk : d ∈ ks := by rcases how with ⟨_, h⟩ | ⟨k, _, h, _⟩ <;> simp [h]
  -- the key that owns what is appended to
  obtain ⟨kk, hkk, hcur⟩ : ∃ kk : Option Nat, (∀ j, kk = some j → j ∈ ks) ∧ (cp = xs.length ∨ ∃ k b1 off1, kk = some k ∧ A = some ⟨b1, off1, none⟩ ∧ E.τ k = some (b1, off1 + xs.length * ei.sz, off1 + cp * ei.sz)) := by
    rcases how with ⟨h1, h2⟩ | ⟨k, h1, h2, h2'⟩
    · refine ⟨none, by simp, .inl ?_⟩
      subst h1
      cases hrx with
      | pure _ _ h =>
        cases h with
        | data _ _ h =>
          obtain ⟨A2, c2, _, _, e1, _, _, _, _, h6⟩ := RD.list_iff.1 h
          rw [hA] at e1
          cases e1
          rcases h6 with h6 | h6
          · cases h6
          · exact h6.2
    · refine ⟨some k, fun j hj => by cases hj; simp [h2], ?_⟩
      subst h1
      rw [← h2']
      rw [hA] at hrx
      cases hrx with
      | pure _ _ h =>
        cases h with
        | data _ _ h =>
          obtain ⟨_, _, _, _, _, _, _, _, _, h6⟩ := RD.list_iff.1 h
          rcases h6 with h6 | ⟨h6, _⟩ <;> cases h6
      | own _ _ _ _ _ _ _ h ho =>
        rcases ho.2 (hok.L k).symm with h1 | ⟨b1, off1, h1, h2⟩
        · exact .inl h1
        · exact .inr ⟨k, b1, off1, rfl, h1, h2⟩
  have hall : ∀ q ∈ xs ++ ys, q.cells.length = ei.sz := fun q hq => (List.mem_append.1 hq).elim (hzx' q) (hzy' q)
  have hflen : (flat (xs ++ ys)).length = (xs.length + ys.length) * ei.sz := by rw [flat_len _ hall, List.length_append]
  have hmax : xs.length + ys.length ≤ 140737488355328 := Nat.le_trans (Nat.le_mul_of_pos_right _ hby) hfit
  have hargs : ∀ w', (Builtin.append_ #[t, t] o.type #[.slice A xs.length cp, .slice X ys.length cx]).run P w = w' → ∀ v w2, w' = .ok v w2 → (execOp a.eval o).run P w = .ok (.value v) w2 := fun w' h v w2 h' => by
    subst h'
    simp [execOp, ho, resolve, hc, hx, ht, hA, hX, invoke, builtin, h]
  have hkd : ∀ (j j' : Nat) (x y q : Nat × Nat × Nat), (∀ j x, E.τ j = some x → x.1 ≠ q.1 ∨ some j = kk) → hand E.τ kk d (some q) j = some x → hand E.τ kk d (some q) j' = some y → x.1 = q.1 → y.1 = q.1 → j = j' := by
    intro j j' x y q hq h h' e1 e2
    unfold hand at h h'
    have one : ∀ i x, (if i = d then some q else if some i = kk then none else E.τ i) = some x → x.1 = q.1 → i = d := fun i x h e => by
      by_cases h1 : i = d
      · exact h1
      · rw [if_neg h1] at h
        by_cases h2 : some i = kk
        · rw [if_pos h2] at h; cases h
        · rw [if_neg h2] at h
          rcases hq i x h with h3 | h3
          · exact absurd e h3
          · exact absurd h3 h2
    rw [one j x h e1, one j' y h' e2]
  by_cases hroom : xs.length + ys.length ≤ cp
  · rcases hcur with hfull | ⟨k, b1, off1, hk1, hA2, hτ⟩
    · -- the slice is full: nothing is appended
      have hys : ys = [] := List.eq_nil_of_length_eq_zero (by omega)
      subst hys
      have hnews : news = [] := List.eq_nil_of_length_eq_zero (by rw [nl1']; simp)
      have hrun := run_append_room' (P := P) (ty := o.type) (A := A) (w' := w) (hT.elem e he) hinf (hfX w nl2) hroom (fun a' _ => by rw [hnews]; rfl) (fun _ => rfl)
      have hold : ∀ j x, hand E.τ kk d none j = some x → E.τ j = some x := fun j x h => by
        unfold hand at h
        split at h
        · cases h
        · split at h
          · cases h
          · exact h
      obtain ⟨hle, hok'⟩ := hok.settle (w' := w) (S' := E.S) (L' := bumpL ks st.L) (τ' := hand E.τ kk d none) (Below.refl _ _) (fun b o h => ⟨h, rfl⟩) hok.sCell hok.fOld' (fun _ _ h => .inl h) (hand_L ks hdk hkk _)
        (fun k hk => ⟨rfl, (hok.box k hk).2.1⟩) (fun k b lo hi h => hok.spare k b lo hi (hold _ _ h)) (fun k k' b lo hi b' lo' hi' hne h h' => hok.spareinj k k' _ _ _ _ _ _ hne (hold _ _ h) (hold _ _ h'))
        (fun k k' b lo hi h hk' => hok.sparebox k k' b lo hi (hold _ _ h) hk')
      unfold Oper.wp
      rw [hargs _ hrun _ _ rfl]
      refine hK _ _ _ hle hok' ?_
      simp only [List.append_nil, List.length_nil, Nat.add_zero]
      exact .own _ _ _ _ _ _ _ (RD.list_iff.2 ⟨A, cp, b, off, rfl, hcp, hA1, hzx', hrowx.imp (fun b o h => ⟨h, rfl⟩) (fun _ _ _ _ h => h), .inl rfl⟩) ⟨Nat.le_refl _, fun _ => .inl hfull⟩
    · -- in place
      subst hA2
      obtain ⟨s1, s2, cur, tt, s3, s4⟩ := hok.spare k _ _ _ hτ
      have hbo : ∀ (j : Nat) u, olds[j]? = some u → E.S b1 (off1 + j) ∧ w.cell? ⟨b1, off1 + j, none⟩ = some u := fun j u hu => by
        have hj : j < olds.length := (List.getElem?_eq_some_iff.1 hu).1
        have hx0 : xs ≠ [] := fun e => by rw [e] at ol1'; simp only [List.length_nil, Nat.zero_mul] at ol1'; omega
        have hj' : j < (flat xs).length := by omega
        have := hA1 hx0
        cases this
        exact ⟨(hrowx j (flat xs)[j] (by simp [hj'])).1, ol2 j u hu⟩
      have hmul : xs.length * ei.sz + ys.length * ei.sz ≤ cp * ei.sz := by rw [← Nat.add_mul]; exact Nat.mul_le_mul_right _ hroom
      have hst := run_storeCells_at P b1 (off1 + xs.length * ei.sz) tt news 0 cur w s3 (by omega) nl3
      have hnew : ((cur.toList.take (off1 + xs.length * ei.sz + 0) ++ news ++ cur.toList.drop (off1 + xs.length * ei.sz + 0 + news.length)).toArray) = (splice cur.toList (off1 + xs.length * ei.sz) news).toArray := by simp [splice]
      rw [hnew] at hst
      have hfitl : off1 + xs.length * ei.sz + news.length ≤ cur.toList.length := by simp; omega
      have hrun := run_append_room' (P := P) (ty := o.type) (A := some ⟨b1, off1, none⟩) (n := xs.length) (w' := w.setRow b1 (splice cur.toList (off1 + xs.length * ei.sz) news).toArray) (hT.elem e he) hinf (hfX w nl2) hroom
        (fun a' ha' => by cases ha'; rw [Addr.add_mid, ← hsz]; exact hst) (fun h => by cases h)
      obtain ⟨hle, hok'⟩ := hok.room hτ (ys.length * ei.sz) (by omega) cur tt s3 (splice cur.toList (off1 + xs.length * ei.sz) news).toArray (by rw [List.size_toArray, splice_len _ _ _ hfitl]; simp) (fun j hj => by
          rw [List.getElem?_toArray, splice_get _ _ _ hfitl, if_neg (by omega), Array.getElem?_toList])
        (L' := bumpL ks st.L) (τ' := hand E.τ kk d (some (b1, off1 + xs.length * ei.sz + ys.length * ei.sz, off1 + cp * ei.sz))) (hand_L ks hdk hkk _) (by have := (bumpL_le ks st.L k).2 (hkk k hk1); omega)
        (fun j q hq => by
          unfold hand at hq
          split at hq
          · cases hq; exact .inr rfl
          · split at hq
            · cases hq
            · rename_i h1 h2
              exact .inl ⟨fun e => h2 (by rw [e, hk1]), hq⟩)
        (fun j j' q q' h h' e1 e2 => hkd j j' q q' _ (fun i x hi => by
          by_cases e : i = k
          · exact .inr (by rw [e, hk1])
          · exact .inl (hok.spareinj i k _ _ _ _ _ _ e (by rw [hi]) hτ)) h h' e1 e2)
      unfold Oper.wp
      rw [hargs _ hrun _ _ rfl]
      refine hK _ _ _ hle hok' ?_
      refine RV.own_mk (by simp) hroom hall (row_join hle.S ol1 nl1 ol4 nl4 ol3 nl3 (fun j u hu => ?_)) ⟨Nat.le_refl _, fun _ => .inr ⟨b1, off1, rfl, ?_⟩⟩
      · by_cases hj : j < olds.length
        · rw [List.getElem?_append_left hj] at hu
          obtain ⟨h1, h2⟩ := hbo j u hu
          exact ⟨(hle.S _ _ h1).1, (hle.S _ _ h1).2.trans h2⟩
        · rw [List.getElem?_append_right (by omega)] at hu
          have hj2 : j - olds.length < news.length := (List.getElem?_eq_some_iff.1 hu).1
          refine ⟨.inr ⟨rfl, by omega, by omega⟩, ?_⟩
          rw [cell_setRow_same w b1 (off1 + j) cur _ tt _ s3, List.getElem?_toArray, splice_get _ _ _ hfitl, if_pos ⟨by omega, by omega⟩]
          rw [← hu]
          congr 1
          omega
      · simp only [hand, if_true, Nat.add_mul]
        simp [Nat.add_assoc]
  · -- a new row
    have hz' : z.cells.size = inf.size := hzsz
    have hcap := grownCap_ge w (xs.length + ys.length) cp e
    have hrun := run_append_grows (P := P) (ty := o.type) (w := w) (hT.elem e he) hinf hz (hfA w.drew ol2) (hfX w.drew nl2) (by omega) (by omega) (growslice_fits (by omega) (by rw [← hbys]; exact hfit))
    obtain ⟨hle1, hok1⟩ := hok.drawn 1
    have hdr : w.drewN 1 = w.drew := rfl
    rw [hdr] at hle1 hok1
    have hcs : (olds.toArray ++ news.toArray ++ Builtin.zeroCells z.cells (grownCap w (xs.length + ys.length) cp e - (xs.length + ys.length))).size = grownCap w (xs.length + ys.length) cp e * ei.sz := by
      simp only [Array.size_append, List.size_toArray, size_zeroCells, hz', ← hsz, ol1', nl1', ← Nat.add_mul]
      congr 1
      omega
    obtain ⟨hle2, hok2⟩ := hok1.newRow (olds.toArray ++ news.toArray ++ Builtin.zeroCells z.cells (grownCap w (xs.length + ys.length) cp e - (xs.length + ys.length))) e ((xs.length + ys.length) * ei.sz)
      (by rw [hcs]; exact Nat.mul_le_mul_right _ hcap) (L' := bumpL ks st.L) (τ' := hand E.τ kk d (some (w.heap.size, (xs.length + ys.length) * ei.sz, grownCap w (xs.length + ys.length) cp e * ei.sz))) (hand_L ks hdk hkk _)
      (fun j q hq => by
        unfold hand at hq
        split at hq
        · cases hq; rw [hcs]; exact .inr rfl
        · split at hq
          · cases hq
          · exact .inl hq)
      (fun j j' q q' h h' e1 e2 => hkd j j' q q' _ (fun i x hi => by
        have := hok.spLt (k := i) (b := x.1) (lo := x.2.1) (hi := x.2.2) (by rw [hi])
        exact .inl (by show x.1 ≠ w.heap.size; omega)) h h' e1 e2)
    have hle := hle1.trans hle2
    unfold Oper.wp
    rw [hargs _ hrun _ _ rfl]
    refine hK _ _ _ hle hok2 ?_
    refine RV.own_mk (by simp) hcap hall (row_join hle.S ol1 nl1 ol4 nl4 ol3 nl3 (fun j u hu => ?_)) ⟨Nat.le_refl _, fun _ => .inr ⟨w.heap.size, 0, rfl, ?_⟩⟩
    · have hj : j < (olds ++ news).length := (List.getElem?_eq_some_iff.1 hu).1
      have hj' : j < (xs.length + ys.length) * ei.sz := by rw [List.length_append, ol1', nl1', ← Nat.add_mul] at hj; exact hj
      refine ⟨.inr ⟨rfl, by omega⟩, ?_⟩
      have h9 := heap_alloc_new w.drew (.cells (olds.toArray ++ news.toArray ++ Builtin.zeroCells z.cells (grownCap w (xs.length + ys.length) cp e - (xs.length + ys.length))) e)
      have h10 : w.drew.heap.size = w.heap.size := rfl
      unfold World.cell?
      rw [h10] at h9
      simp only [h9, Nat.zero_add]
      have e3 : olds.toArray ++ news.toArray = (olds ++ news).toArray := by simp
      have : (olds.toArray ++ news.toArray ++ Builtin.zeroCells z.cells (grownCap w (xs.length + ys.length) cp e - (xs.length + ys.length)))[j]? = some u := by
        rw [e3, Array.getElem?_append_left (by simpa using hj), List.getElem?_toArray]; exact hu
      simpa using this
    · simp only [hand, if_true, Nat.zero_add]
end

end Go.Proofs.YtkmdeahnkfdhjaaW.E
