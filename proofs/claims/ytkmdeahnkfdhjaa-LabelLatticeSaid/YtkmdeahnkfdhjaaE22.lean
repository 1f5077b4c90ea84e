/-
  Slices written to in place: what copy, append, clear make of a box, said outright; a box whose cells are settled for good, so that a slice of them is data; two slices of two boxes do not overlap. Laws over any program; no condition.
-/
import Derived.Test.YtkmdeahnkfdhjaaE21
namespace Go.Proofs.YtkmdeahnkfdhjaaW.E
open Go Go.RowKit
set_option linter.unusedVariables false
set_option linter.unusedSimpArgs false

section
variable {P : Program} {base : Nat} {w0 : Entry} {T : Tab} {ops : Array Oper} {Q : Exit → St → Prop} {st : St} {o : Oper}

theorem src_bsl {y : Operand} {k g off n c m sz : Nat} {bs cs : List AV} (hev : evalA st y = .bsl k g off n c) (hB : st.B k = (g, bs)) (hm : m ≤ n) (hfit : off + m * sz ≤ bs.length) (hcs : (bs.drop off).take (m * sz) = cs) : srcCells st sz m (evalA st y) = some cs := by
  simp only [srcCells, hev, hB, hm, hfit, and_self, if_true, hcs]

theorem xexec_copy {c : Call} {x y : Operand} {t e : TypeId} {ts : List TypeId} {ti ei : TInfo} {k g off n cp ly : Nat} {bs cs bs' : List AV} (hop : o.op = .call c) (hc : c.callee = .builtin .copy) (hargs : c.args.toList = [x, y]) (htys : c.argTypes.toList = t :: ts) (h1 : T.get t = some ti) (h2 : ti.elem = some e) (h3 : T.get e = some ei)
    (hxv : evalA st x = .bsl k g off n cp) (hB : st.B k = (g, bs)) (hly : srcLen (evalA st y) = some ly) (hcs : srcCells st ei.sz (min ly n) (evalA st y) = some cs) (hne : bs.isEmpty = false) (hfit : off + cs.length ≤ bs.length) (hnew : splice bs off cs = bs') :
    xexec T st o = some { v := .val (.int .i64 (min ly n : Nat)), box := some (k, g, bs') } := by
  subst hnew
  unfold xexec
  simp only [hop, hc, hargs, htys, hxv, h1, h2, h3, Option.bind_some, hly, hcs, hB, hne, hfit, and_self, if_true]

theorem xexec_app {c : Call} {x y : Operand} {t e : TypeId} {ti ei : TInfo} {k g off n cp ly : Nat} {bs cs bs' : List AV} (hop : o.op = .call c) (hc : c.callee = .builtin .append) (hargs : c.args.toList = [x, y]) (htys : c.argTypes.toList = [t, t]) (h1 : T.get t = some ti) (h2 : ti.elem = some e) (h3 : T.get e = some ei)
    (hxv : evalA st x = .bsl k g off n cp) (hB : st.B k = (g, bs)) (hly : srcLen (evalA st y) = some ly) (hcs : srcCells st ei.sz ly (evalA st y) = some cs) (hroom : n + ly ≤ cp) (hne : bs.isEmpty = false) (hfit : off + n * ei.sz + cs.length ≤ bs.length) (hnew : splice bs (off + n * ei.sz) cs = bs') :
    xexec T st o = some { v := .bsl k g off (n + ly) cp, box := some (k, g, bs') } := by
  subst hnew
  unfold xexec
  simp only [hop, hc, hargs, htys, hxv, h1, h2, h3, Option.bind_some, hly, hcs, hB, hne, hfit, hroom, and_self, if_true]

theorem xexec_clear {c : Call} {x : Operand} {t e : TypeId} {ti ei : TInfo} {k g off n cp : Nat} {bs bs' : List AV} (hop : o.op = .call c) (hc : c.callee = .builtin .clear) (hargs : c.args.toList = [x]) (htys : c.argTypes.toList = [t]) (h1 : T.get t = some ti) (h2 : ti.elem = some e) (h3 : T.get e = some ei)
    (hxv : evalA st x = .bsl k g off n cp) (hB : st.B k = (g, bs)) (hne : bs.isEmpty = false) (hfit : off + n * ei.sz ≤ bs.length) (hnew : splice bs off (zerosA n ei.zero) = bs') :
    xexec T st o = some { v := .val undef, box := some (k, g, bs') } := by
  subst hnew
  unfold xexec
  simp only [hop, hc, hargs, htys, hxv, h1, h2, h3, Option.bind_some, hB, hne, hfit, and_self, if_true]

/-- A box is given up. -/
theorem OK.drop {E : Env} {B : Nat → Nat × List AV} {L : Nat → Nat} {w : World} (hok : OK base w0 E B L w) (k : Nat) : OK base w0 E (upd B k ((B k).1, [])) L w := by
  have bne : ∀ {k'}, (upd B k ((B k).1, []) k').2 ≠ [] → (B k').2 ≠ [] ∧ k' ≠ k := fun {k'} h => by
    by_cases e : k' = k
    · subst e; rw [upd_same] at h; exact absurd rfl h
    · rw [upd_ne _ _ e] at h; exact ⟨h, e⟩
  refine ⟨hok.hbase, hok.below, hok.sOld, hok.sCell, hok.fCell, hok.fOld, hok.sF, hok.L, fun k' => ?_, fun k' h => ?_, fun k1 k2 h a b => hok.boxinj k1 k2 h (bne a).1 (bne b).1, hok.spare, hok.spareinj, fun k1 k2 b lo hi h a => hok.sparebox k1 k2 b lo hi h (bne a).1⟩
  · by_cases e : k' = k
    · subst e; rw [upd_same]; exact hok.G k'
    · rw [upd_ne _ _ e]; exact hok.G k'
  · obtain ⟨h1, h2⟩ := bne h
    rw [upd_ne _ _ h2]
    exact hok.box k' h1

/-- The cells of a box, told otherwise. -/
theorem OK.conv {E : Env} {B : Nat → Nat × List AV} {L : Nat → Nat} {w : World} (hok : OK base w0 E B L w) (j : Nat) (bs' : List AV) (hl : bs'.length = (B j).2.length) (hc : ∀ (i : Nat) c c' v, (B j).2[i]? = some c → bs'[i]? = some c' → RV E w c v → RV E w c' v) : OK base w0 E (upd B j ((B j).1, bs')) L w := by
  have bne : ∀ {k'}, (upd B j ((B j).1, bs') k').2 ≠ [] → (B k').2 ≠ [] := fun {k'} h => by
    by_cases e : k' = j
    · subst e; rw [upd_same] at h
      intro e2; rw [e2] at hl
      exact h (List.eq_nil_of_length_eq_zero hl)
    · rwa [upd_ne _ _ e] at h
  refine ⟨hok.hbase, hok.below, hok.sOld, hok.sCell, hok.fCell, hok.fOld, hok.sF, hok.L, fun k' => ?_, fun k' h => ?_, fun k1 k2 h a b => hok.boxinj k1 k2 h (bne a) (bne b), hok.spare, hok.spareinj, fun k1 k2 b lo hi h a => hok.sparebox k1 k2 b lo hi h (bne a)⟩
  · by_cases e : k' = j
    · subst e; rw [upd_same]; exact hok.G k'
    · rw [upd_ne _ _ e]; exact hok.G k'
  · have hne := bne h
    by_cases e : k' = j
    · subst e
      rw [upd_same]
      obtain ⟨a1, a2, t, ccs, a3, a4, a5⟩ := hok.box k' hne
      refine ⟨a1, a2, t, ccs, a3, a4.trans hl.symm, fun i c v hi hv => ?_⟩
      have hlt : i < (B k').2.length := by rw [← hl]; exact (List.getElem?_eq_some_iff.1 hi).1
      have h1 := a5 i _ v (List.getElem?_eq_getElem hlt) hv
      exact ⟨h1.1, hc i _ c v (List.getElem?_eq_getElem hlt) hi h1.2⟩
    · rw [upd_ne _ _ e]
      exact hok.box k' hne

/-- A slice of a box that nobody writes to any more is data. -/
theorem AWp.settleB {c : Code} {n d : Nat} {s : Nat → AV} {B : Nat → Nat × List AV} {L : Nat → Nat} (k j : Nat) {g gj cp sz : Nat} {a : AV} {xs : List AV} {r : List AV} (hjk : j ≠ k) (hB : B k = (g, flat xs ++ r)) (hj : B j = (gj, [a, .bsl k g 0 xs.length cp])) (hne : flat xs ++ r ≠ []) (hcp : xs.length ≤ cp) (hsz : ∀ x ∈ xs, x.cells.length = sz) (hval : ∀ y ∈ flat xs, ∃ v, y = .val v)
    (h : AWp P base w0 c Q ⟨n, d, s, upd (upd B k (g, [])) j (gj, [a, .list sz xs .no]), L⟩) : AWp P base w0 c Q ⟨n, d, s, B, L⟩ := fun ac w hrel => by
  obtain ⟨E, hok, hle0, hs⟩ := hrel.ex
  simp only at hok
  obtain ⟨b1, b2, t, ccs, b3, b4, b5⟩ := hok.box k (by rw [hB]; exact hne)
  rw [hB] at b4 b5
  have hcell : ∀ (o : Nat) y, (flat xs)[o]? = some y → ∃ v, ccs[o]? = some v ∧ w.cell? ⟨E.bm k, o, none⟩ = some v ∧ v.oneCell' = true ∧ y = .val v := fun o y hy => by
    have hlt : o < (flat xs).length := (List.getElem?_eq_some_iff.1 hy).1
    have hlt2 : o < ccs.size := by rw [b4, List.length_append]; omega
    have h1 := b5 o y ccs[o] (by rw [List.getElem?_append_left hlt]; exact hy) (Array.getElem?_eq_getElem hlt2)
    obtain ⟨v, rfl⟩ := hval y (List.mem_of_getElem? hy)
    have h2 := RV.val_iff.1 h1.2
    exact ⟨ccs[o], Array.getElem?_eq_getElem hlt2, by simp [World.cell?, b3, hlt2], h1.1, by rw [h2]⟩
  have hok1 := hok.drop k
  have hB1 : (B k).1 = g := by rw [hB]
  rw [hB1] at hok1
  have bne : ∀ {k'}, (upd B k (g, []) k').2 ≠ [] → (B k').2 ≠ [] ∧ k' ≠ k := fun {k'} h => by
    by_cases e : k' = k
    · subst e; rw [upd_same] at h; exact absurd rfl h
    · rw [upd_ne _ _ e] at h; exact ⟨h, e⟩
  have hkne : (B k).2 ≠ [] := by rw [hB]; exact hne
  obtain ⟨hle2, hok2⟩ := hok1.settle (w' := w) (S' := fun b o => E.S b o ∨ (b = E.bm k ∧ o < (flat xs).length)) (L' := L) (τ' := E.τ) (Below.refl base w) (fun b o h => ⟨.inl h, rfl⟩)
    (fun b o h => by
      rcases h with h | ⟨rfl, h⟩
      · exact hok.sCell b o h
      · obtain ⟨v, _, h2, _⟩ := hcell o _ (List.getElem?_eq_getElem h)
        exact ⟨v, h2⟩)
    (fun b o h => (hok.fOld b o h).symm) (fun b o h => by
      rcases h with h | ⟨rfl, h⟩
      · exact .inl h
      · exact .inr b1)
    (fun k => ⟨Nat.le_refl _, fun _ => rfl⟩)
    (fun k' hk' => ⟨rfl, fun o h => by
      obtain ⟨h1, h2⟩ := bne hk'
      rcases h with h | ⟨h, _⟩
      · exact (hok.box k' h1).2.1 o h
      · exact hok.boxinj k' k h2 h1 hkne h⟩)
    (fun k' b lo hi h => by
      obtain ⟨h1, h2, h3⟩ := hok.spare k' b lo hi h
      refine ⟨h1, fun o a1 a2 h4 => ?_, h3⟩
      rcases h4 with h4 | ⟨h4, _⟩
      · exact h2 o a1 a2 h4
      · exact hok.sparebox k' k b lo hi h hkne h4.symm)
    hok.spareinj (fun k1 k2 b lo hi h a => hok.sparebox k1 k2 b lo hi h (bne a).1)
  have hjB : upd B k (g, []) j = (gj, [a, .bsl k g 0 xs.length cp]) := by rw [upd_ne _ _ hjk, hj]
  have hok3 := hok2.conv j [a, .list sz xs .no] (by rw [hjB]; rfl) (fun i c c' v hi hi' hv => by
    rw [hjB] at hi
    match i with
    | 0 => cases hi; cases hi'; exact hv
    | 1 =>
      cases hi; cases hi'
      obtain ⟨b, rfl, hb⟩ := hv.bsl_inv
      have hb' : b = E.bm k := hb (by show g = E.G k; rw [hok.G k, hB])
      subst hb'
      refine .pure _ _ (.data _ _ (RD.list_iff.2 ⟨_, cp, E.bm k, 0, rfl, hcp, fun _ => rfl, hsz, fun i y hy => ?_, .inl rfl⟩))
      rw [Nat.zero_add]
      obtain ⟨v, _, h2, h3, rfl⟩ := hcell i y hy
      exact ⟨.inr ⟨rfl, (List.getElem?_eq_some_iff.1 hy).1⟩, v, h2, h3, .val v⟩
    | i + 2 => simp at hi)
  rw [hjB] at hok3
  exact h ac w ⟨⟨_, hok3, hle0.trans hle2, fun t => (hs t).mono hle2⟩, hrel.size, hrel.defs⟩

/-- slices.overlaps of two boxes. -/
theorem HL.apart {n d : Nat} {s : Nat → AV} {B : Nat → Nat × List AV} {L : Nat → Nat} {rest : List Oper} {i t : Nat} {c : Call} {x y : Operand} {g : FuncId} {fn : Func} {tS tR e : TypeId} {ti ei : TInfo} (hT : T.OK P) (hop : o.op = .call c) (hd : o.dst = some t) (hn : decide (t < n) = true)
    (hw : awanted ops o ⟨n, d, s, B, L⟩ = some true) (hc : calleeOf ⟨n, d, s, B, L⟩ c = some (g, [])) (hargs : c.args = #[x, y]) (hf : P.funcs[g]? = some fn) (hname : (fn.name == "runtime.NumGoroutine") = false) (hb : fn.body.isNone = true) (hnx : Extern.findNext fn = none) (he : Extern.find fn = some (Extern.SlicesOverlaps.overlaps #[tS, tS] #[tR]))
    (h1 : T.get tS = some ti) (h2 : ti.elem = some e) (h3 : T.get e = some ei) {k k' g1 g2 o1 o2 n1 n2 c1 c2 : Nat} {b1 b2 : List AV} (hx : evalA ⟨n, d, s, B, L⟩ x = .bsl k g1 o1 n1 c1) (hy : evalA ⟨n, d, s, B, L⟩ y = .bsl k' g2 o2 n2 c2) (hk : k ≠ k') (hB1 : B k = (g1, b1)) (hB2 : B k' = (g2, b2)) (hb1 : b1 ≠ []) (hb2 : b2 ≠ [])
    (h : HL P T base w0 ops rest (i + 1) ⟨n, d, upd s t (.val (.bool false)), B, L⟩ Q) : HL P T base w0 ops (o :: rest) i ⟨n, d, s, B, L⟩ Q := fun hr a w hrel => by
  obtain ⟨q1, q2⟩ := drop_next hr
  rw [List.length_cons, List.range'_succ, wpOps_cons]
  obtain ⟨E, hok, hle0, hs⟩ := hrel.ex
  simp only at hok
  have hTt := mkInfo_ok (hT _ _ h1)
  have hE := mkInfo_ok (hT _ _ h3)
  have e1 := evalA_ok hs x
  have e2 := evalA_ok hs y
  rw [hx] at e1
  rw [hy] at e2
  obtain ⟨ba, va, ha⟩ := e1.bsl_inv
  obtain ⟨bb, vb, hbb⟩ := e2.bsl_inv
  have ha' : ba = E.bm k := ha (by rw [hok.G k, hB1])
  have hb' : bb = E.bm k' := hbb (by rw [hok.G k', hB2])
  subst ha'; subst hb'
  obtain ⟨_, _, t1, ccs1, m1, l1, _⟩ := hok.box k (by rw [hB1]; exact hb1)
  obtain ⟨_, _, t2, ccs2, m2, l2, _⟩ := hok.box k' (by rw [hB2]; exact hb2)
  have hne := hok.boxinj k k' hk (by rw [hB1]; exact hb1) (by rw [hB2]; exact hb2)
  have hov := Lib.run_overlaps_apart (P := P) w tS tR e (hTt.elem e h2) ei.sz hE.size ⟨E.bm k, o1, none⟩ ⟨E.bm k', o2, none⟩ n1 c1 n2 c2 hne t1 t2 ccs1.size ccs2.size (by simp [World.shape?, m1]) (by simp [World.shape?, m2])
    (by rw [l2, hB2]; exact fun e => hb2 (List.eq_nil_of_length_eq_zero e)) (by simp [World.frozen?, m1]) (by simp [World.frozen?, m1])
  have hcf := run_callFunc_extern (P := P) hf hname hb hnx he #[.slice (some ⟨E.bm k, o1, none⟩) n1 c1, .slice (some ⟨E.bm k', o2, none⟩) n2 c2] w
  rw [hov] at hcf
  have hrun : (execOp a.eval o).run P w = .ok (.value (.bool false)) w := by
    unfold calleeOf at hc
    split at hc
    · rename_i f hff
      split at hc
      · rename_i g' caps' hev
        simp only [Option.some.injEq, Prod.mk.injEq] at hc
        obtain ⟨rfl, rfl⟩ := hc
        have h1 := evalA_ok hs f
        rw [hev] at h1
        obtain ⟨cv, h2, h3, h4⟩ := h1.fn_inv
        have hcv : cv = #[] := Array.eq_empty_of_size_eq_zero (by simpa using h3.symm)
        subst hcv
        simp only [execOp, hop, resolve, hff, h2, Deferred.ofValue, Sem.run_bind, Sem.run_pure, Result.andThen_ok, invoke, hargs]
        have ea : (#[x, y].map a.eval) = #[.slice (some ⟨E.bm k, o1, none⟩) n1 c1, .slice (some ⟨E.bm k', o2, none⟩) n2 c2] := by simp [va, vb]
        rw [ea]
        simpa using hcf
      · cases hc
    · cases hc
  exact wpOp_put q2 hn hd hw hrun hs hrel (Env.Le.refl _ _) hle0 hok (RV.val_iff.2 rfl) fun a' w' hrel' => h q1 a' w' hrel'

/-- A sequence, with what holds between. -/
theorem AWp.seqI {x y : Code} (I : St → Prop) (h1 : AWp P base w0 x (fun e st' => match e with | .normal => I st' | e => Q e st') st) (h2 : ∀ st', I st' → AWp P base w0 y Q st') : AWp P base w0 (.seq x y) Q st :=
  AWp.seq (h1.mono fun e st' h => by cases e <;> first | exact h2 _ h | exact h)
end
end Go.Proofs.YtkmdeahnkfdhjaaW.E
