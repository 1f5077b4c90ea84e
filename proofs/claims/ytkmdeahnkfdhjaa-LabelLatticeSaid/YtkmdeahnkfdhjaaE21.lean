/-
  Slices that are written to in place: made, grown, compared for overlaps, and handed over for good. Laws over any program; no condition.
-/
import Derived.Lib.Overlaps
import Derived.Test.YtkmdeahnkfdhjaaE17
namespace Go.Proofs.YtkmdeahnkfdhjaaW.E
open Go Go.RowKit
set_option linter.unusedVariables false
set_option linter.unusedSimpArgs false

section
variable {P : Program} {base : Nat} {w0 : Entry} {T : Tab} {ops : Array Oper} {Q : Exit → St → Prop}

/-- A new slice of parts, its cells in a box. -/
theorem does_buildB {st : St} {o : Oper} {t e : TypeId} {n : Nat} {parts : Array (Nat × Operand)} (ho : o.op = .buildSlice t n parts) {i ei : TInfo} (hT : TOK P t i) (he : i.elem = some e) (hE : TOK P e ei)
    (hidx : parts.toList.map (·.1) = List.range' 0 n) (hc : ∀ p ∈ parts.toList, (evalA st p.2).cells.length = ei.sz ∧ (evalA st p.2).cells.all AV.isCell = true) (hn : n * ei.sz ≤ 16777216) (key : Nat) :
    Does P base w0 st o { v := .bsl key ((st.B key).1 + 1) 0 n n, box := some (key, (st.B key).1 + 1, flat (parts.toList.map fun p => evalA st p.2)) } := by
  intro E a w hok hs hsz0 hd K Q hK
  obtain ⟨d, inf, z, hdd, hinf, hz, hagg, hsz, hby, hzsz, hone, hzlen, hzero⟩ := hE.ex
  have hlen : parts.toList.length = n := by have := congrArg List.length hidx; simpa using this
  let zs : Array Value := if n * ei.sz = 0 then #[] else z.cells
  let cs0 : Array Value := (Array.range (n * ei.sz)).map (zs[· % zs.size]!)
  have hfill := afill_row (sz := ei.sz) (parts.toList.map fun p => evalA st p.2) 0 [] (List.replicate (n * ei.sz) AV.any) (by simp) (by simp [hlen]) (fun x hx => by
    obtain ⟨p, hp, rfl⟩ := List.mem_map.1 hx
    exact hc p hp)
  have hparts : (parts.toList.map fun p => (p.1, evalA st p.2)) = (((parts.toList.map fun p => evalA st p.2).zipIdx 0).map fun p => (p.2, p.1)) := by
    have h1 := zip_of_range (parts.toList.map fun p => (p.1, evalA st p.2)) 0 (by simp only [List.map_map, List.length_map, hlen]; exact hidx)
    simpa only [List.map_map, Function.comp_def] using h1
  simp only [List.nil_append] at hfill
  obtain ⟨os, h4, h5, h6⟩ := fill_ok (E := E) (w := w) (place := fun i => some (i * ei.sz, ei.sz)) (place' := fun i => some (i * ei.sz, ei.sz)) (fun _ _ h => h) (a := a) parts.toList (List.replicate (n * ei.sz) AV.any) cs0
    (flat (parts.toList.map fun p => evalA st p.2)) hs (by rw [hparts]; exact hfill) (by simp [cs0]) (fun j c v hcj hvj => by
      have hj : j < n * ei.sz := by have := (List.getElem?_eq_some_iff.1 hcj).1; simpa using this
      rw [List.getElem?_replicate, if_pos hj] at hcj
      cases hcj
      refine ⟨?_, RV.any v⟩
      have hne : n * ei.sz ≠ 0 := by omega
      have hzpos : 0 < z.cells.size := by rw [hzsz, ← hsz]; exact Nat.pos_of_ne_zero (fun e => hne (by rw [e, Nat.mul_zero]))
      simp only [cs0, zs, if_neg hne, Array.getElem?_map, Option.map_eq_some_iff] at hvj
      obtain ⟨q, hq, rfl⟩ := hvj
      have hlt : q % z.cells.size < z.cells.size := Nat.mod_lt _ hzpos
      rw [getElem!_pos z.cells _ hlt]
      exact hone _ (Array.getElem_mem hlt))
  have hrun : (execOp a.eval o).run P w = .ok (.value (.slice (some ⟨w.heap.size, 0, none⟩) n n)) (w.alloc (.cells os e)) := by
    have h4' : Instr.fill (fun i => some (i * ei.sz, ei.sz)) ((Array.range (n * ei.sz)).map (zs[· % zs.size]!)) (parts.map fun (i, x) => (i, a.eval x)).toList = some os := by
      have e2 : (parts.map fun (i, x) => (i, a.eval x)).toList = parts.toList.map fun p => (p.1, a.eval p.2) := by simp
      rw [e2]; exact h4
    simp only [execOp, ho, Instr.buildSlice, Sem.run_bind, run_underlying (hT.elem e he) w, Result.andThen_ok, hE.size w]
    rw [if_neg (by omega)]
    by_cases h0 : n * ei.sz = 0
    · have e3 : zs = #[] := if_pos h0
      rw [e3] at h4'
      rw [if_pos h0]
      simp only [Sem.run_bind, Sem.run_pure, Result.andThen_ok, h4', newRow, run_newObj]
      rfl
    · have e3 : zs = z.cells := if_neg h0
      rw [e3] at h4'
      rw [if_neg h0]
      simp only [Sem.run_bind, Sem.run_pure, Result.andThen_ok, zeroValue, typeInfo, run_program, hinf, hz, h4', newRow, run_newObj]
      rfl
  obtain ⟨hle, hok'⟩ := hok.newBox key (flat (parts.toList.map fun p => evalA st p.2)) os e h5.symm (fun j c v hcj hvj => h6 j c v hcj hvj)
  unfold Oper.wp
  rw [hrun]
  exact hK _ _ _ hle hok' (.bsl _ _ _ _ _ _ (by simp [upd_same]) (fun _ => by simp [upd_same]))

theorem wpOp_does {st : St} {o : Oper} {i : Nat} (hi : ops[i]? = some o) (hn : dstOK o st.n = true) (hw : awanted ops o st = some true) {e : Eff} (hdoes : Does P base w0 st o e) {a : Act} {w : World} (hrel : Rel base w0 st a w)
    {K : Act → World → Prop} {Q : Exit → Act → World → Prop} (hK : ∀ a' w', Rel base w0 (st.app o.dst e) a' w' → K a' w') : wpOp P ops Q i K a w := by
  obtain ⟨E, hok, hle0, hs⟩ := hrel.ex
  unfold wpOp
  simp only [hi, awanted_ok hs hw, if_true]
  exact .inl (hdoes.rel (dstOK_spec hn) hrel hK)

theorem HL.does {st : St} {o : Oper} {rest : List Oper} {i : Nat} {e : Eff} (hn : dstOK o st.n = true) (hw : awanted ops o st = some true) (he : ∀ base w0, Does P base w0 st o e) (h : HL P T base w0 ops rest (i + 1) (st.app o.dst e) Q) : HL P T base w0 ops (o :: rest) i st Q := fun hr a w hrel => by
  obtain ⟨h1, h2⟩ := drop_next hr
  rw [List.length_cons, List.range'_succ, wpOps_cons]
  exact wpOp_does h2 hn hw (he _ _) hrel fun a' w' hrel' => h h1 a' w' hrel'

/-- A slice of parts, its cells in a box. -/
theorem HL.mk {n d : Nat} {s : Nat → AV} {B : Nat → Nat × List AV} {L : Nat → Nat} {o : Oper} {rest : List Oper} {i t k : Nat} {ty e : TypeId} {parts : Array (Nat × Operand)} {ti ei : TInfo} (hT : T.OK P) (hop : o.op = .buildSlice ty k parts) (hd : o.dst = some t) (hn : decide (t < n) = true)
    (hw : awanted ops o ⟨n, d, s, B, L⟩ = some true) (h1 : T.get ty = some ti) (h2 : ti.elem = some e) (h3 : T.get e = some ei) (hidx : parts.toList.map (·.1) = List.range' 0 k) {cs : List AV} (hcs : flat (parts.toList.map fun p => evalA ⟨n, d, s, B, L⟩ p.2) = cs)
    (hc : (parts.toList.all fun p => (evalA ⟨n, d, s, B, L⟩ p.2).cells.length == ei.sz && (evalA ⟨n, d, s, B, L⟩ p.2).cells.all AV.isCell) = true) (hsz : k * ei.sz ≤ 16777216)
    (h : HL P T base w0 ops rest (i + 1) ⟨n, d, upd s t (.bsl (d + t) ((B (d + t)).1 + 1) 0 k k), upd B (d + t) ((B (d + t)).1 + 1, cs), L⟩ Q) : HL P T base w0 ops (o :: rest) i ⟨n, d, s, B, L⟩ Q := by
  subst hcs
  refine HL.does (e := { v := .bsl (d + t) ((B (d + t)).1 + 1) 0 k k, box := some (d + t, (B (d + t)).1 + 1, flat (parts.toList.map fun p => evalA ⟨n, d, s, B, L⟩ p.2)) }) (by simp only [dstOK, hd]; exact hn) hw (fun base w0 => ?_) (by rw [hd]; exact h)
  exact does_buildB hop (mkInfo_ok (hT _ _ h1)) h2 (mkInfo_ok (hT _ _ h3)) hidx (fun p hp => by
    have := List.all_eq_true.1 hc p hp
    simp only [Bool.and_eq_true, beq_iff_eq] at this
    exact this) hsz (d + t)

/-- How many elements a slice can hold, where that is known. -/
def capOf : AV → Option Nat
  | .list _ ys .full => some ys.length
  | .bsl _ _ _ _ c => some c
  | _ => none
theorem cap_ok {E : Env} {w : World} {a : AV} {v : Value} (hr : RV E w a v) {n c : Nat} (hn : srcLen a = some n) (hc : capOf a = some c) : ∃ A, v = .slice A n c := by
  cases a with
  | list sz ys ow =>
    cases ow with
    | full =>
      simp only [srcLen, capOf, Option.some.injEq] at hn hc
      subst hn; subst hc
      cases hr with
      | pure _ _ h =>
        cases h with
        | data _ _ h =>
          obtain ⟨A, c, _, _, rfl, _, _, _, _, h6⟩ := RD.list_iff.1 h
          rcases h6 with h6 | h6
          · cases h6
          · rw [h6.2]; exact ⟨A, rfl⟩
    | _ => simp [capOf] at hc
  | bsl k g off m c' =>
    simp only [srcLen, capOf, Option.some.injEq] at hn hc
    subst hn; subst hc
    obtain ⟨b, rfl, _⟩ := hr.bsl_inv
    exact ⟨_, rfl⟩
  | _ => simp [srcLen] at hn

theorem run_append_growsN {w : World} {t ti ty e : TypeId} {i : TypeInfo} {z : Value} {kd : IntKind} (ht : P.underlying t = some (.slice e)) (hti : P.underlying ti = some (.int kd)) (hi : P.info? e = some i) (hz : i.zero = some z) {A : Option Addr} {n c m : Nat} {olds : List Value}
    (ho : (Builtin.firstCells i.size n (.slice A n c)).run P w.drew = .ok olds.toArray w.drew) (hg : c < n + m) (hm : 0 < m * i.size) (h63 : ((n + m : Nat) : Int) ≤ 9223372036854775807) (hm48 : m * i.bytes ≤ 281474976710656) (hfit : Builtin.nextslicecap (n + m) c * i.bytes ≤ 281474976710656) :
    (Builtin.append_ #[t, ti] ty #[.slice A n c, .int .i64 (m : Int)]).run P w =
      .ok (.slice (some ⟨w.heap.size, 0, none⟩) (n + m) (grownCap w (n + m) c e))
        (w.drew.alloc (.cells (olds.toArray ++ Builtin.zeroCells z.cells m ++ Builtin.zeroCells z.cells (grownCap w (n + m) c e - (n + m))) e)) := by
  have hn1 : ¬ (n + m ≤ c) := by omega
  have h63' : ¬ (9223372036854775807 < ((n : Int) + (m : Int))) := by omega
  have h48' : ¬ (281474976710656 < Builtin.nextslicecap (n + m) c * i.bytes) := by omega
  have hmw : IntKind.i64.wrap (m : Int) = (m : Int) := IntWalk.i64_in _ (by omega)
  have hm0 : ¬ ((m : Int) < 0) := by omega
  have hm1 : ¬ (281474976710656 < (m : Int) * (i.bytes : Int)) := by
    have : ((m * i.bytes : Nat) : Int) ≤ 281474976710656 := by omega
    rw [Int.natCast_mul] at this; omega
  have hms : ¬ (m * i.size = 0) := by omega
  simp [Builtin.append_, run_underlying ht, run_underlying hti, sizeOf, typeInfo, zeroValue, hi, hz, asInt, asIntOf, hmw, hm0, hm1, hms, hn1, h63', h48', Question.forced, ho, newRow, grownCap]

/-- An operation that ran, its value kept. -/
theorem wpOp_put {n d : Nat} {s : Nat → AV} {B B' : Nat → Nat × List AV} {L L' : Nat → Nat} {o : Oper} {i t : Nat} (hi : ops[i]? = some o) (hn : decide (t < n) = true) (hd : o.dst = some t) (hw : awanted ops o ⟨n, d, s, B, L⟩ = some true) {a : Act} {w w' : World} {v : Value} {x : AV}
    (hrun : (execOp a.eval o).run P w = .ok (.value v) w') {E E' : Env} (hs : ∀ t, RV E w (s t) (a.tmps.getD t undef)) (hrel : Rel base w0 ⟨n, d, s, B, L⟩ a w) (hle : E.Le w E' w') (hle0 : w0.E1.Le w0.w1 E w) (hok : OK base w0 E' B' L' w') (hx : RV E' w' x v)
    {K : Act → World → Prop} {Q : Exit → Act → World → Prop} (hK : ∀ a' w', Rel base w0 ⟨n, d, upd s t x, B', L'⟩ a' w' → K a' w') : wpOp P ops Q i K a w := by
  unfold wpOp
  simp only [hi, awanted_ok hs hw, if_true]
  refine .inl ?_
  unfold Oper.wp
  rw [hrun]
  refine hK _ _ ⟨⟨E', hok, hle0.trans hle, ?_⟩, ?_, ?_⟩
  · have h := slots_put (st := ⟨n, d, s, B, L⟩) (e := { v := x }) (dst := o.dst) hs hrel.size (by rw [hd]; intro t' h; cases h; simpa using hn) hle hx
    rw [hd] at h ⊢
    exact h
  · cases o.dst <;> simp [Act.put, hrel.size]
  · cases o.dst <;> simp [Act.put, hrel.defs]

/-- A new box: what was there, what is new, zeros. -/
theorem grow_core {E : Env} {B : Nat → Nat × List AV} {L : Nat → Nat} {w : World} (hok : OK base w0 E B L w) (key : Nat) {e : TypeId} {ei : TInfo} (hE : TOK P e ei) {cs : List AV} {us : List Value} (l1 : us.length = cs.length)
    (o1 : ∀ u ∈ us, u.oneCell' = true) (r1 : ∀ (i : Nat) y u, cs[i]? = some y → us[i]? = some u → RV E w y u)
    {inf : TypeInfo} {z : Value} (hinf : P.info? e = some inf) (hz : inf.zero = some z) (k : Nat) (A : Array Value) (hA : A = (us ++ (Builtin.zeroCells z.cells k).toList).toArray) :
    ∃ E', E.Le w E' (w.alloc (.cells A e)) ∧ OK base w0 E' (upd B key ((B key).1 + 1, cs ++ zerosA k ei.zero)) L (w.alloc (.cells A e)) ∧ E'.G key = (B key).1 + 1 ∧ E'.bm key = w.heap.size := by
  obtain ⟨inf', z', hinf', hz', h1, h2, h3⟩ := zeros_ok (P := P) hE
  rw [hinf] at hinf'; cases hinf'
  rw [hz] at hz'; cases hz'
  obtain ⟨z1, z2, z3⟩ := h3 k
  have hzl : (zerosA k ei.zero).length = (Builtin.zeroCells z.cells k).toList.length := by rw [zerosA_len, h2]; simp [z1]
  subst hA
  obtain ⟨hle2, hok2⟩ := hok.newBox key (cs ++ zerosA k ei.zero) (us ++ (Builtin.zeroCells z.cells k).toList).toArray e (by simp only [List.size_toArray, List.length_append, hzl, l1]) (fun i y u hy hu => by
    rw [List.getElem?_toArray] at hu
    by_cases hi : i < cs.length
    · rw [List.getElem?_append_left hi] at hy
      rw [List.getElem?_append_left (by omega)] at hu
      exact ⟨o1 u (List.mem_of_getElem? hu), r1 i y u hy hu⟩
    · rw [List.getElem?_append_right (by omega)] at hy
      rw [List.getElem?_append_right (by omega), l1] at hu
      exact ⟨z2 u (List.mem_of_getElem? hu), .pure _ _ (.data _ _ (z3 _ _ _ y u hy (by simpa using hu)))⟩)
  exact ⟨_, hle2, hok2, by simp [upd_same], by simp [upd_same]⟩

/-- An append that has no room: a new box takes what was there, what is new, and zeros. -/
theorem HL.grow {n d : Nat} {s : Nat → AV} {B : Nat → Nat × List AV} {L : Nat → Nat} {o : Oper} {rest : List Oper} {i t : Nat} {c : Call} {x y : Operand} {tt e : TypeId} {ti ei : TInfo} (hT : T.OK P) (hop : o.op = .call c) (hc : c.callee = .builtin .append) (hargs : c.args = #[x, y]) (htys : c.argTypes = #[tt, tt])
    (hd : o.dst = some t) (hn : decide (t < n) = true) (hw : awanted ops o ⟨n, d, s, B, L⟩ = some true) (h1 : T.get tt = some ti) (h2 : ti.elem = some e) (h3 : T.get e = some ei) {m c0 k : Nat} {olds news : List AV}
    (hx : srcLen (evalA ⟨n, d, s, B, L⟩ x) = some m) (hcap : capOf (evalA ⟨n, d, s, B, L⟩ x) = some c0) (hxc : srcCells ⟨n, d, s, B, L⟩ ei.sz m (evalA ⟨n, d, s, B, L⟩ x) = some olds) (hy : srcLen (evalA ⟨n, d, s, B, L⟩ y) = some k) (hyc : srcCells ⟨n, d, s, B, L⟩ ei.sz k (evalA ⟨n, d, s, B, L⟩ y) = some news)
    (hg : c0 < m + k) (hmc : m ≤ c0) (hfit : (m + k) * ei.bytes ≤ 140737488355328) (hby : 0 < ei.bytes)
    (h : ∀ c', m + k ≤ c' → HL P T base w0 ops rest (i + 1) ⟨n, d, upd s t (.bsl (d + t) ((B (d + t)).1 + 1) 0 (m + k) c'), upd B (d + t) ((B (d + t)).1 + 1, olds ++ news ++ zerosA (c' - (m + k)) ei.zero), L⟩ Q) : HL P T base w0 ops (o :: rest) i ⟨n, d, s, B, L⟩ Q := fun hr a w hrel => by
  obtain ⟨g1, g2⟩ := drop_next hr
  rw [List.length_cons, List.range'_succ, wpOps_cons]
  obtain ⟨E, hok, hle0, hs⟩ := hrel.ex
  have hTt := mkInfo_ok (hT _ _ h1)
  have hE := mkInfo_ok (hT _ _ h3)
  obtain ⟨dd, inf, z, _, hinf, hz, _, hsz, hbys, _⟩ := hE.ex
  obtain ⟨A, hA⟩ := cap_ok (evalA_ok hs x) hx hcap
  obtain ⟨hleD, hokD⟩ := hok.drawn 1
  have hdr : w.drewN 1 = w.drew := rfl
  rw [hdr] at hleD hokD
  obtain ⟨_, cx, ou, hA', _, ol, ocl, o1, r1, f1⟩ := src_ok (P := P) hokD (st := ⟨n, d, s, B, L⟩) rfl ((evalA_ok hs x).mono hleD) hx hxc
  obtain ⟨X, cy, nu, hX, _, nl, ncl, o2, r2, f2⟩ := src_ok (P := P) hokD (st := ⟨n, d, s, B, L⟩) rfl ((evalA_ok hs y).mono hleD) hy hyc
  have hmax : m + k ≤ 140737488355328 := Nat.le_trans (Nat.le_mul_of_pos_right _ hby) hfit
  have hrun0 := run_append_grows (P := P) (ty := o.type) (w := w) (A := A) (X := X) (n := m) (c := c0) (m := k) (cx := cy) (olds := ou) (news := nu) (hTt.elem e h2) hinf hz (by rw [← hA, ← hsz]; exact f1) (by rw [← hX, ← hsz]; exact f2) hg (by omega) (growslice_fits (by omega) (by rw [← hbys]; exact hfit))
  have hrun : (execOp a.eval o).run P w = .ok (.value (.slice (some ⟨w.heap.size, 0, none⟩) (m + k) (grownCap w (m + k) c0 e))) (w.drew.alloc (.cells (ou.toArray ++ nu.toArray ++ Builtin.zeroCells z.cells (grownCap w (m + k) c0 e - (m + k))) e)) := by
    simp only [execOp, hop, resolve, hc, hargs, htys, invoke, builtin, Sem.run_bind, Sem.run_pure, Result.andThen_ok]
    have ea : (#[x, y].map a.eval) = #[.slice A m c0, .slice X k cy] := by simp [hA, hX]
    rw [ea]
    simp [hrun0]
  obtain ⟨E', hle1, hok1, hG, hbm⟩ := grow_core (P := P) hokD (d + t) hE (cs := olds ++ news) (us := ou ++ nu) (by simp [ol, nl]) (fun u hu => (List.mem_append.1 hu).elim (o1 u) (o2 u)) (fun i y u hy hu => by
    by_cases hi : i < olds.length
    · rw [List.getElem?_append_left hi] at hy
      rw [List.getElem?_append_left (by omega)] at hu
      exact r1 i y u hy hu
    · rw [List.getElem?_append_right (by omega)] at hy
      rw [List.getElem?_append_right (by omega), ol] at hu
      exact r2 _ y u hy hu) hinf hz (grownCap w (m + k) c0 e - (m + k)) _ (show ou.toArray ++ nu.toArray ++ Builtin.zeroCells z.cells (grownCap w (m + k) c0 e - (m + k)) = _ by apply Array.ext'; simp)
  have hcap' := grownCap_ge w (m + k) c0 e
  refine wpOp_put g2 hn hd hw hrun hs hrel (hleD.trans hle1) hle0 hok1 (.bsl (d + t) ((B (d + t)).1 + 1) 0 (m + k) _ w.heap.size (by rw [hG]; exact Nat.le_refl _) (fun _ => hbm.symm)) fun a' w' hrel' => h _ hcap' g1 a' w' hrel'

/-- An append of zeros that has no room. -/
theorem HL.growN {n d : Nat} {s : Nat → AV} {B : Nat → Nat × List AV} {L : Nat → Nat} {o : Oper} {rest : List Oper} {i t : Nat} {c : Call} {x y : Operand} {tt ty e : TypeId} {ti ei : TInfo} {kd : IntKind} (hT : T.OK P) (hop : o.op = .call c) (hc : c.callee = .builtin .append) (hargs : c.args = #[x, y]) (htys : c.argTypes = #[tt, ty])
    (hd : o.dst = some t) (hn : decide (t < n) = true) (hw : awanted ops o ⟨n, d, s, B, L⟩ = some true) (h1 : T.get tt = some ti) (h2 : ti.elem = some e) (h3 : T.get e = some ei) (hti : P.underlying ty = some (.int kd)) {m c0 k : Nat} {olds : List AV}
    (hx : srcLen (evalA ⟨n, d, s, B, L⟩ x) = some m) (hcap : capOf (evalA ⟨n, d, s, B, L⟩ x) = some c0) (hxc : srcCells ⟨n, d, s, B, L⟩ ei.sz m (evalA ⟨n, d, s, B, L⟩ x) = some olds) (hy : evalA ⟨n, d, s, B, L⟩ y = .val (.int .i64 (k : Nat)))
    (hg : c0 < m + k) (hmc : m ≤ c0) (hk : 0 < k) (hsz0 : 0 < ei.sz) (hfit : (m + k) * ei.bytes ≤ 140737488355328) (hby : 0 < ei.bytes)
    (h : ∀ c', m + k ≤ c' → HL P T base w0 ops rest (i + 1) ⟨n, d, upd s t (.bsl (d + t) ((B (d + t)).1 + 1) 0 (m + k) c'), upd B (d + t) ((B (d + t)).1 + 1, olds ++ zerosA k ei.zero ++ zerosA (c' - (m + k)) ei.zero), L⟩ Q) : HL P T base w0 ops (o :: rest) i ⟨n, d, s, B, L⟩ Q := fun hr a w hrel => by
  obtain ⟨g1, g2⟩ := drop_next hr
  rw [List.length_cons, List.range'_succ, wpOps_cons]
  obtain ⟨E, hok, hle0, hs⟩ := hrel.ex
  have hTt := mkInfo_ok (hT _ _ h1)
  have hE := mkInfo_ok (hT _ _ h3)
  obtain ⟨dd, inf, z, _, hinf, hz, _, hsz, hbys, _⟩ := hE.ex
  obtain ⟨A, hA⟩ := cap_ok (evalA_ok hs x) hx hcap
  obtain ⟨hleD, hokD⟩ := hok.drawn 1
  have hdr : w.drewN 1 = w.drew := rfl
  rw [hdr] at hleD hokD
  obtain ⟨_, cx, ou, hA', _, ol, ocl, o1, r1, f1⟩ := src_ok (P := P) hokD (st := ⟨n, d, s, B, L⟩) rfl ((evalA_ok hs x).mono hleD) hx hxc
  have hyv := evalA_ok hs y
  rw [hy, RV.val_iff] at hyv
  have hmax : m + k ≤ 140737488355328 := Nat.le_trans (Nat.le_mul_of_pos_right _ hby) hfit
  have hk48 : k * ei.bytes ≤ (m + k) * ei.bytes := Nat.mul_le_mul_right _ (by omega)
  have hrun0 := run_append_growsN (P := P) (ty := o.type) (w := w) (A := A) (n := m) (c := c0) (m := k) (olds := ou) (hTt.elem e h2) hti hinf hz (by rw [← hA, ← hsz]; exact f1) hg (by rw [← hsz]; exact Nat.mul_pos hk hsz0) (by omega) (by rw [← hbys]; omega) (growslice_fits (by omega) (by rw [← hbys]; exact hfit))
  have hrun : (execOp a.eval o).run P w = .ok (.value (.slice (some ⟨w.heap.size, 0, none⟩) (m + k) (grownCap w (m + k) c0 e))) (w.drew.alloc (.cells (ou.toArray ++ Builtin.zeroCells z.cells k ++ Builtin.zeroCells z.cells (grownCap w (m + k) c0 e - (m + k))) e)) := by
    simp only [execOp, hop, resolve, hc, hargs, htys, invoke, builtin, Sem.run_bind, Sem.run_pure, Result.andThen_ok]
    have ea : (#[x, y].map a.eval) = #[.slice A m c0, .int .i64 (k : Int)] := by simp [hA, hyv]
    rw [ea]
    simp [hrun0]
  obtain ⟨inf', z', hinf', hz', q1, q2, q3⟩ := zeros_ok (P := P) hE
  rw [hinf] at hinf'; cases hinf'
  rw [hz] at hz'; cases hz'
  obtain ⟨z1, z2, z3⟩ := q3 k
  obtain ⟨E', hle1, hok1, hG, hbm⟩ := grow_core (P := P) hokD (d + t) hE (cs := olds ++ zerosA k ei.zero) (us := ou ++ (Builtin.zeroCells z.cells k).toList) (by simp [ol, zerosA_len, z1, q2]) (fun u hu => (List.mem_append.1 hu).elim (o1 u) (z2 u)) (fun i y u hy hu => by
    by_cases hi : i < olds.length
    · rw [List.getElem?_append_left hi] at hy
      rw [List.getElem?_append_left (by omega)] at hu
      exact r1 i y u hy hu
    · rw [List.getElem?_append_right (by omega)] at hy
      rw [List.getElem?_append_right (by omega), ol] at hu
      exact .pure _ _ (.data _ _ (z3 _ _ _ y u hy (by simpa using hu)))) hinf hz (grownCap w (m + k) c0 e - (m + k)) _ (show ou.toArray ++ Builtin.zeroCells z.cells k ++ Builtin.zeroCells z.cells (grownCap w (m + k) c0 e - (m + k)) = _ by apply Array.ext'; simp)
  have hcap' := grownCap_ge w (m + k) c0 e
  refine wpOp_put g2 hn hd hw hrun hs hrel (hleD.trans hle1) hle0 hok1 (.bsl (d + t) ((B (d + t)).1 + 1) 0 (m + k) _ w.heap.size (by rw [hG]; exact Nat.le_refl _) (fun _ => hbm.symm)) fun a' w' hrel' => h _ hcap' g1 a' w' hrel'
end
end Go.Proofs.YtkmdeahnkfdhjaaW.E
