/-
  One operation in abstract values, reckoned; a region's operations in any order that its edges allow. Laws over any program; no condition.
-/
import Derived.Test.YtkmdeahnkfdhjaaE20
namespace Go.Proofs.YtkmdeahnkfdhjaaW.E
open Go Go.RowKit
set_option linter.unusedVariables false
set_option linter.unusedSimpArgs false

def aload (T : Tab) (st : St) (t : TypeId) : AV → Option AV
  | .ptr k g off => (T.get t).bind fun i => if (st.B k).1 = g ∧ (st.B k).2.isEmpty = false then rdCells i ((st.B k).2.drop off) else none
  | .pelt cs => (T.get t).bind fun i => rdCells i cs
  | _ => none

def astore (T : Tab) (st : St) (t : TypeId) : AV → AV → Option Eff
  | .ptr k g off, a => (T.get t).bind fun i =>
    if (st.B k).1 = g ∧ (st.B k).2.isEmpty = false ∧ a.cells.all AV.isCell = true ∧ a.cells.length = i.sz ∧ off + a.cells.length ≤ (st.B k).2.length then
      some { v := .val undef, box := some (k, g, splice (st.B k).2 off a.cells) } else none
  | _, _ => none

def afield (T : Tab) (s : TypeId) (f : Nat) : AV → Option AV
  | .ptr k g o' => (T.get s).bind fun i => (i.fields[f]?).bind fun x => if x.2.1 = 0 then none else some (.ptr k g (o' + x.1))
  | .pelt cs => (T.get s).bind fun i => (i.fields[f]?).bind fun x => if x.2.1 = 0 then none else some (.pelt (cs.drop x.1))
  | _ => none

def aindex (T : Tab) (t : TypeId) : AV → AV → Option AV
  | .list sz xs _, .val (.int _ j) => (T.get t).bind fun i => i.elem.bind fun e => (T.get e).bind fun ei => if sz = ei.sz ∧ 0 ≤ j then (xs[j.toNat]?).map fun y => .pelt y.cells else none
  | .bsl k g off n _, .val (.int _ j) => (T.get t).bind fun i => i.elem.bind fun e => (T.get e).bind fun ei => if 0 ≤ j ∧ j.toNat < n then some (.ptr k g (off + j.toNat * ei.sz)) else none
  | _, _ => none

def aslice (T : Tab) (st : St) (t : TypeId) (lo hi mx : Option Operand) : AV → Option AV
  | .list sz xs _ => (T.get t).bind fun i => i.elem.bind fun e => (T.get e).bind fun ei => (bnd st lo 0).bind fun l => (bnd st hi xs.length).bind fun h => (bnd st mx xs.length).bind fun m =>
      if (sz = ei.sz ∨ xs.isEmpty = true) ∧ l ≤ h ∧ h ≤ m ∧ m ≤ xs.length ∧ (mx.isSome = true → hi.isSome = true) then some (.list ei.sz ((xs.take h).drop l) (if mx.isSome ∧ h = m then .full else .no)) else none
  | .bsl k g off n cp => (T.get t).bind fun i => i.elem.bind fun e => (T.get e).bind fun ei => (bnd st lo 0).bind fun l => (bnd st hi n).bind fun h => (bnd st mx cp).bind fun m =>
      if l ≤ h ∧ h ≤ m ∧ m ≤ cp ∧ (mx.isSome = true → hi.isSome = true) then some (.bsl k g (if m = l then off else off + l * ei.sz) (h - l) (m - l)) else none
  | _ => none

def abuild (T : Tab) (st : St) (t : TypeId) (parts : Array (Nat × Operand)) : Option AV :=
  (T.get t).bind fun i => if i.fields.isEmpty = false ∧ i.fields.all (fun x => x.2.1 != 0) = true then
    (afill (fun j => (i.fields[j]?).map fun x => (x.1, x.2.1)) i.zero (parts.toList.map fun p => (p.1, evalA st p.2))).map .agg else none

def abuildSlice (T : Tab) (st : St) (t : TypeId) (n : Nat) (parts : Array (Nat × Operand)) : Option AV :=
  (T.get t).bind fun i => i.elem.bind fun e => (T.get e).bind fun ei =>
    if parts.toList.map (·.1) = List.range' 0 n ∧ (parts.toList.all fun p => (evalA st p.2).cells.length == ei.sz && (evalA st p.2).cells.all AV.isCell) = true ∧ n * ei.sz ≤ 16777216 then
      some (.list ei.sz (parts.toList.map fun p => (evalA st p.2).data) .full) else none

def aappend (T : Tab) (st : St) (t : TypeId) (d : Nat) : AV → AV → Option Eff
  | .list sx xs ow, .list sy ys _ => (T.get t).bind fun i => i.elem.bind fun e => (T.get e).bind fun ei =>
    if (sx = ei.sz ∨ xs.isEmpty = true) ∧ (sy = ei.sz ∨ ys.isEmpty = true) ∧ (xs.length + ys.length) * ei.bytes ≤ 140737488355328 ∧ 0 < ei.bytes then
      (match ow with
        | .full => some [d]
        | .key k g => if g = st.L k ∧ sx = ei.sz then some [k, d] else none
        | .no => none).map fun ks => { v := .list ei.sz (xs ++ ys) (.key d (bumpL ks st.L d)), bump := ks }
    else none
  | _, _ => none

def alen (T : Tab) (t : TypeId) : AV → Option AV
  | .list _ xs _ => (T.get t).bind fun i => if i.elem.isSome = true then some (.val (.int .i64 xs.length)) else none
  | .bsl _ _ _ n _ => (T.get t).bind fun i => if i.elem.isSome = true then some (.val (.int .i64 n)) else none
  | _ => none

def acallB (P : Program) (T : Tab) (st : St) (o : Oper) (c : Call) (b : Builtin) : Option Eff :=
  match b, c.args.toList, c.argTypes.toList with
  | .append, [x, y], [t, u] => o.dst.bind fun N => if t = u then aappend T st t (st.d + N) (evalA st x) (evalA st y) else none
  | .len, [x], [t] => match alen T t (evalA st x) with
    | some v => some { v }
    | none => (toV (evalA st x)).bind fun u => (abuiltin P .len c.argTypes o.type (c.args.map fun | .const _ => true | _ => false) #[u]).map fun v => { v := .val v }
  | .cap, [x], [t] => match evalA st x with
    | .bsl _ _ _ _ cp => (T.get t).bind fun i => if i.elem.isSome = true then some { v := .val (.int .i64 cp) } else none
    | _ => none
  | .append, _, _ => none
  | b, _, _ => (c.args.toList.mapM fun x => toV (evalA st x)).bind fun us => (abuiltin P b c.argTypes o.type (c.args.map fun | .const _ => true | _ => false) us.toArray).map fun v => { v := .val v }

/-- One operation, no Go function called. -/
def aexec (P : Program) (T : Tab) (st : St) (o : Oper) : Option Eff :=
  match o.op with
  | .move x => some { v := anil T o.type st x }
  | .assign x => some { v := anil T o.type st x }
  | .pick c x y => match evalA st c with
    | .val (.bool t) => some { v := if t then evalA st x else evalA st y }
    | _ => none
  | .binOp op t x y _ => match anilt T st op t x y with
    | some b => some { v := .val (.bool b) }
    | none => (toV (evalA st x)).bind fun a => (toV (evalA st y)).bind fun b => (abin P op t x y a b).map fun v => { v := .val v }
  | .unOp op _ x => (toV (evalA st x)).bind fun a => (aun P op a).map fun v => { v := .val v }
  | .convert s d x => match abstr P T st s d x with
    | some b => some { v := .val (.string b) }
    | none => (toV (evalA st x)).bind fun a => (aconv P s d a).map fun v => { v := .val v }
  | .makeFunc (.func f) first caps => if first.isEmpty then some { v := .fn f (caps.toList.map (evalA st)) } else none
  | .extract t i => match evalA st t with
    | .tup vs => (vs[i]?).map fun v => { v }
    | _ => none
  | .load t x => (aload T st t (evalA st x)).map fun v => { v }
  | .store t x y => astore T st t (evalA st x) (evalA st y)
  | .alloc t => o.dst.bind fun N => (T.get t).map fun i => { v := .ptr (st.d + N) ((st.B (st.d + N)).1 + 1) 0, box := some (st.d + N, (st.B (st.d + N)).1 + 1, i.zero) }
  | .box t x => o.dst.bind fun N => if (evalA st x).cells.all AV.isCell = true then some { v := .ptr (st.d + N) ((st.B (st.d + N)).1 + 1) 0, box := some (st.d + N, (st.B (st.d + N)).1 + 1, (evalA st x).cells) } else none
  | .fieldAddr s x f => (afield T s f (evalA st x)).map fun v => { v }
  | .field s x f => (T.get s).bind fun i => (i.fields[f]?).bind fun y => if y.2.2 = true then none else match evalA st x with
    | .agg cs => (cs[y.1]?).map fun v => { v }
    | _ => none
  | .indexAddr t x ix => (aindex T t (evalA st x) (evalA st ix)).map fun v => { v }
  | .slice t x lo hi mx => (aslice T st t lo hi mx (evalA st x)).map fun v => { v }
  | .build t parts => (abuild T st t parts).map fun v => { v }
  | .buildSlice t n parts => (abuildSlice T st t n parts).map fun v => { v }
  | .call c => match c.callee with
    | .builtin b => acallB P T st o c b
    | _ => none
  | _ => none

/-- One operation that writes to a slice in place. -/
def xexec (T : Tab) (st : St) (o : Oper) : Option Eff :=
  match o.op with
  | .call c => match c.callee with
    | .builtin .copy => match c.args.toList, c.argTypes.toList with
      | [x, y], t :: _ => match evalA st x with
        | .bsl k g off n _ => (T.get t).bind fun i => i.elem.bind fun e => (T.get e).bind fun ei => (srcLen (evalA st y)).bind fun ly => (srcCells st ei.sz (min ly n) (evalA st y)).bind fun cs =>
            if (st.B k).1 = g ∧ (st.B k).2.isEmpty = false ∧ off + cs.length ≤ (st.B k).2.length then some { v := .val (.int .i64 (min ly n : Nat)), box := some (k, g, splice (st.B k).2 off cs) } else none
        | _ => none
      | _, _ => none
    | .builtin .append => match c.args.toList, c.argTypes.toList with
      | [x, y], [t, u] => if t = u then (match evalA st x with
        | .bsl k g off n cp => (T.get t).bind fun i => i.elem.bind fun e => (T.get e).bind fun ei => (srcLen (evalA st y)).bind fun m => (srcCells st ei.sz m (evalA st y)).bind fun cs =>
            if n + m ≤ cp ∧ (st.B k).1 = g ∧ (st.B k).2.isEmpty = false ∧ off + n * ei.sz + cs.length ≤ (st.B k).2.length then some { v := .bsl k g off (n + m) cp, box := some (k, g, splice (st.B k).2 (off + n * ei.sz) cs) } else none
        | _ => none) else none
      | _, _ => none
    | .builtin .clear => match c.args.toList, c.argTypes.toList with
      | [x], [t] => match evalA st x with
        | .bsl k g off n _ => (T.get t).bind fun i => i.elem.bind fun e => (T.get e).bind fun ei =>
            if (st.B k).1 = g ∧ (st.B k).2.isEmpty = false ∧ off + n * ei.sz ≤ (st.B k).2.length then some { v := .val undef, box := some (k, g, splice (st.B k).2 off (zerosA n ei.zero)) } else none
        | _ => none
      | _, _ => none
    | _ => none
  | _ => none

section
variable {P : Program} {base : Nat} {w0 : Entry} {st : St} {o : Oper}

theorem xexec_does {T : Tab} (hT : T.OK P) {e : Eff} (h : xexec T st o = some e) : Does P base w0 st o e := by
  have ne : ∀ {l : List AV}, l.isEmpty = false → l ≠ [] := fun h e => by rw [e] at h; simp at h
  unfold xexec at h
  split at h
  · rename_i c ho
    split at h
    · rename_i hc
      split at h
      · rename_i x y t ts hargs htys
        split at h
        · rename_i k g off n cp hx
          obtain ⟨i, hi, h⟩ := Option.bind_eq_some_iff.1 h
          obtain ⟨e', he, h⟩ := Option.bind_eq_some_iff.1 h
          obtain ⟨ei, hei, h⟩ := Option.bind_eq_some_iff.1 h
          obtain ⟨ly, hly, h⟩ := Option.bind_eq_some_iff.1 h
          obtain ⟨cs, hcs, h⟩ := Option.bind_eq_some_iff.1 h
          split at h
          · rename_i hcond
            cases h
            exact does_copy ho hc (by apply Array.ext'; simpa using hargs) htys (mkInfo_ok (hT _ _ hi)) he (mkInfo_ok (hT _ _ hei)) hx hly hcs hcond.1 (ne hcond.2.1) hcond.2.2
          · cases h
        · cases h
      · cases h
    · rename_i hc
      split at h
      · rename_i x y t u hargs htys
        split at h
        · rename_i htu
          subst htu
          split at h
          · rename_i k g off n cp hx
            obtain ⟨i, hi, h⟩ := Option.bind_eq_some_iff.1 h
            obtain ⟨e', he, h⟩ := Option.bind_eq_some_iff.1 h
            obtain ⟨ei, hei, h⟩ := Option.bind_eq_some_iff.1 h
            obtain ⟨m, hly, h⟩ := Option.bind_eq_some_iff.1 h
            obtain ⟨cs, hcs, h⟩ := Option.bind_eq_some_iff.1 h
            split at h
            · rename_i hcond
              cases h
              exact does_appendIn ho hc (by apply Array.ext'; simpa using hargs) (by apply Array.ext'; simpa using htys) (mkInfo_ok (hT _ _ hi)) he (mkInfo_ok (hT _ _ hei)) hx hly hcs hcond.1 hcond.2.1 (ne hcond.2.2.1) hcond.2.2.2
            · cases h
          · cases h
        · cases h
      · cases h
    · rename_i hc
      split at h
      · rename_i x t hargs htys
        split at h
        · rename_i k g off n cp hx
          obtain ⟨i, hi, h⟩ := Option.bind_eq_some_iff.1 h
          obtain ⟨e', he, h⟩ := Option.bind_eq_some_iff.1 h
          obtain ⟨ei, hei, h⟩ := Option.bind_eq_some_iff.1 h
          split at h
          · rename_i hcond
            cases h
            exact does_clear ho hc (by apply Array.ext'; simpa using hargs) (by apply Array.ext'; simpa using htys) (mkInfo_ok (hT _ _ hi)) he (mkInfo_ok (hT _ _ hei)) hx hcond.1 (ne hcond.2.1) hcond.2.2
          · cases h
        · cases h
      · cases h
    · cases h
  · cases h

theorem acallB_does {T : Tab} (hT : T.OK P) {c : Call} (ho : o.op = .call c) {b : Builtin} (hc : c.callee = .builtin b) {e : Eff} (h : acallB P T st o c b = some e) : Does P base w0 st o e := by
  unfold acallB at h
  split at h
  · rename_i x y t u hargs htys
    obtain ⟨N, hN, h'⟩ := Option.bind_eq_some_iff.1 h
    clear h
    split at h'
    · rename_i htu
      subst htu
      have h := h'
      clear h'
      cases hx : evalA st x with
      | list sx xs ow =>
        cases hy : evalA st y with
        | list sy ys oy =>
          rw [hx, hy] at h
          simp only [aappend] at h
          obtain ⟨i, hi, h⟩ := Option.bind_eq_some_iff.1 h
          obtain ⟨e', he, h⟩ := Option.bind_eq_some_iff.1 h
          obtain ⟨ei, hei, h⟩ := Option.bind_eq_some_iff.1 h
          split at h
          · rename_i hcond
            obtain ⟨h1, h2, h3, h4⟩ := hcond
            obtain ⟨ks, hks, h⟩ := Option.map_eq_some_iff.1 h
            subst h
            have hargs' : c.args = #[x, y] := by apply Array.ext'; simpa using hargs
            have htys' : c.argTypes = #[t, t] := by apply Array.ext'; simpa using htys
            refine does_append ho hc hargs' htys' (mkInfo_ok (hT _ _ hi)) he (mkInfo_ok (hT _ _ hei)) hx hy (h1.imp id (by simp)) (h2.imp id (by simp)) ?_ h3 h4
            cases ow with
            | full => simp at hks; exact .inl ⟨rfl, hks.symm⟩
            | no => simp at hks
            | key k g =>
              simp only at hks
              split at hks
              · rename_i hg
                cases hks
                exact .inr ⟨k, by rw [hg.1], rfl, hg.2⟩
              · cases hks
          · cases h
        | _ => rw [hx, hy] at h; simp [aappend] at h
      | _ => rw [hx] at h; simp [aappend] at h
    · cases h'
  · rename_i x t hargs htys
    split at h
    · rename_i v hv
      cases h
      unfold alen at hv
      split at hv
      · rename_i sz xs ow hx
        obtain ⟨i, hi, hv⟩ := Option.bind_eq_some_iff.1 hv
        split at hv
        · rename_i hs
          cases hv
          obtain ⟨e', he⟩ := Option.isSome_iff_exists.1 hs
          exact does_len ho hc (by apply Array.ext'; simpa using hargs) (by apply Array.ext'; simpa using htys) (mkInfo_ok (hT _ _ hi)) he hx
        · cases hv
      · rename_i k g off n cp hx
        obtain ⟨i, hi, hv⟩ := Option.bind_eq_some_iff.1 hv
        split at hv
        · rename_i hs
          cases hv
          obtain ⟨e', he⟩ := Option.isSome_iff_exists.1 hs
          exact does_lenB ho hc (by apply Array.ext'; simpa using hargs) (by apply Array.ext'; simpa using htys) (mkInfo_ok (hT _ _ hi)) he hx
        · cases hv
      · cases hv
    · obtain ⟨u, hu, h⟩ := Option.bind_eq_some_iff.1 h
      obtain ⟨v, hv, h⟩ := Option.map_eq_some_iff.1 h
      subst h
      exact does_builtin ho hc (us := [u]) (by rw [hargs]; simp [hu]) hv
  · rename_i x t hargs htys
    split at h
    · rename_i k g off n cp hx
      obtain ⟨i, hi, h⟩ := Option.bind_eq_some_iff.1 h
      split at h
      · rename_i hs
        cases h
        obtain ⟨e', he⟩ := Option.isSome_iff_exists.1 hs
        exact does_capB ho hc (by apply Array.ext'; simpa using hargs) (by apply Array.ext'; simpa using htys) (mkInfo_ok (hT _ _ hi)) he hx
      · cases h
    · cases h
  · cases h
  · obtain ⟨us, hu, h⟩ := Option.bind_eq_some_iff.1 h
    obtain ⟨v, hv, h⟩ := Option.map_eq_some_iff.1 h
    subst h
    exact does_builtin ho hc hu hv

theorem aexec_does {T : Tab} (hT : T.OK P) {e : Eff} (h : aexec P T st o = some e) : Does P base w0 st o e := by
  unfold aexec at h
  split at h
  · rename_i x ho; cases h; exact does_moveN (.inl ho)
  · rename_i x ho; cases h; exact does_moveN (.inr ho)
  · rename_i c x y ho
    split at h
    · rename_i t hc; cases h; exact does_pick ho hc
    · cases h
  · rename_i op t x y u ho
    split at h
    · rename_i b hb
      cases h
      exact does_nilt hT ho hb
    · obtain ⟨a, ha, h⟩ := Option.bind_eq_some_iff.1 h
      obtain ⟨b, hb, h⟩ := Option.bind_eq_some_iff.1 h
      obtain ⟨v, hv, h⟩ := Option.map_eq_some_iff.1 h
      subst h
      exact does_bin ho ha hb hv
  · rename_i op t x ho
    obtain ⟨a, ha, h⟩ := Option.bind_eq_some_iff.1 h
    obtain ⟨v, hv, h⟩ := Option.map_eq_some_iff.1 h
    subst h
    exact does_un ho ha hv
  · rename_i s d x ho
    split at h
    · rename_i b hb
      cases h
      exact does_b2s hT ho hb
    · obtain ⟨a, ha, h⟩ := Option.bind_eq_some_iff.1 h
      obtain ⟨v, hv, h⟩ := Option.map_eq_some_iff.1 h
      subst h
      exact does_conv ho ha hv
  · rename_i f first caps ho
    split at h
    · rename_i hf
      cases h
      have : first = #[] := by simpa using hf
      subst this
      exact does_makeFunc ho
    · cases h
  · rename_i t i ho
    split at h
    · rename_i vs hv
      obtain ⟨v, hv', h⟩ := Option.map_eq_some_iff.1 h
      subst h
      exact does_extract ho hv hv'
    · cases h
  · rename_i t x ho
    obtain ⟨v, hv, h⟩ := Option.map_eq_some_iff.1 h
    subst h
    unfold aload at hv
    split at hv
    · rename_i k g off hx
      obtain ⟨i, hi, hv⟩ := Option.bind_eq_some_iff.1 hv
      split at hv
      · rename_i hg
        exact does_load_ptr ho hx hg.1 (fun e => by rw [e] at hg; simp at hg) (mkInfo_ok (hT _ _ hi)) hv
      · cases hv
    · rename_i cs hx
      obtain ⟨i, hi, hv⟩ := Option.bind_eq_some_iff.1 hv
      exact does_load_pelt ho hx (mkInfo_ok (hT _ _ hi)) hv
    · cases hv
  · rename_i t x y ho
    cases hx : evalA st x with
    | ptr k g off =>
      rw [hx] at h
      simp only [astore] at h
      obtain ⟨i, hi, h'⟩ := Option.bind_eq_some_iff.1 h
      split at h'
      · rename_i hg
        cases h'
        obtain ⟨h1, h2, h3, h4, h5⟩ := hg
        exact does_store ho hx h1 (fun e => by rw [e] at h2; simp at h2) (mkInfo_ok (hT _ _ hi)) h3 h4 h5
      · cases h'
    | _ => rw [hx] at h; simp [astore] at h
  · rename_i t ho
    obtain ⟨N, hN, h⟩ := Option.bind_eq_some_iff.1 h
    obtain ⟨i, hi, h⟩ := Option.map_eq_some_iff.1 h
    subst h
    exact does_alloc ho (mkInfo_ok (hT _ _ hi))
  · rename_i t x ho
    obtain ⟨N, hN, h⟩ := Option.bind_eq_some_iff.1 h
    split at h
    · rename_i hc
      cases h
      exact does_box ho hc
    · cases h
  · rename_i s x f ho
    obtain ⟨v, hv, h⟩ := Option.map_eq_some_iff.1 h
    subst h
    unfold afield at hv
    split at hv
    · rename_i k g o' hx
      obtain ⟨i, hi, hv⟩ := Option.bind_eq_some_iff.1 hv
      obtain ⟨⟨off, sz, ag⟩, hy, hv⟩ := Option.bind_eq_some_iff.1 hv
      split at hv
      · cases hv
      · rename_i hsz; cases hv; exact does_fieldAddr_ptr ho (mkInfo_ok (hT _ _ hi)) hy hsz hx
    · rename_i cs hx
      obtain ⟨i, hi, hv⟩ := Option.bind_eq_some_iff.1 hv
      obtain ⟨⟨off, sz, ag⟩, hy, hv⟩ := Option.bind_eq_some_iff.1 hv
      split at hv
      · cases hv
      · rename_i hsz; cases hv; exact does_fieldAddr_pelt ho (mkInfo_ok (hT _ _ hi)) hy hsz hx
    · cases hv
  · rename_i s x f ho
    obtain ⟨i, hi, h⟩ := Option.bind_eq_some_iff.1 h
    obtain ⟨⟨off, sz, ag⟩, hy, h⟩ := Option.bind_eq_some_iff.1 h
    split at h
    · cases h
    · rename_i hag
      split at h
      · rename_i cs hx
        obtain ⟨v, hv, h⟩ := Option.map_eq_some_iff.1 h
        subst h
        simp only [Bool.not_eq_true] at hag
        subst hag
        exact does_field ho (mkInfo_ok (hT _ _ hi)) hy hx hv
      · cases h
  · rename_i t x ix ho
    obtain ⟨v, hv, h⟩ := Option.map_eq_some_iff.1 h
    subst h
    unfold aindex at hv
    split at hv
    · rename_i sz xs ow kd j hx hix
      obtain ⟨i, hi, hv⟩ := Option.bind_eq_some_iff.1 hv
      obtain ⟨e', he, hv⟩ := Option.bind_eq_some_iff.1 hv
      obtain ⟨ei, hei, hv⟩ := Option.bind_eq_some_iff.1 hv
      split at hv
      · rename_i hc
        obtain ⟨y, hy, hv⟩ := Option.map_eq_some_iff.1 hv
        subst hv
        obtain ⟨rfl, h0⟩ := hc
        exact does_index ho (mkInfo_ok (hT _ _ hi)) he (mkInfo_ok (hT _ _ hei)) hx hix h0 hy
      · cases hv
    · rename_i k g off n cp kd j hx hix
      obtain ⟨i, hi, hv⟩ := Option.bind_eq_some_iff.1 hv
      obtain ⟨e', he, hv⟩ := Option.bind_eq_some_iff.1 hv
      obtain ⟨ei, hei, hv⟩ := Option.bind_eq_some_iff.1 hv
      split at hv
      · rename_i hc
        cases hv
        exact does_indexB ho (mkInfo_ok (hT _ _ hi)) he (mkInfo_ok (hT _ _ hei)) hx hix hc.1 hc.2
      · cases hv
    · cases hv
  · rename_i t x lo hi mx ho
    obtain ⟨v, hv, h⟩ := Option.map_eq_some_iff.1 h
    subst h
    unfold aslice at hv
    split at hv
    · rename_i sz xs ow hx
      obtain ⟨i, hi', hv⟩ := Option.bind_eq_some_iff.1 hv
      obtain ⟨e', he, hv⟩ := Option.bind_eq_some_iff.1 hv
      obtain ⟨ei, hei, hv⟩ := Option.bind_eq_some_iff.1 hv
      obtain ⟨l, hl, hv⟩ := Option.bind_eq_some_iff.1 hv
      obtain ⟨hh, hhh, hv⟩ := Option.bind_eq_some_iff.1 hv
      obtain ⟨m, hm, hv⟩ := Option.bind_eq_some_iff.1 hv
      split at hv
      · rename_i hc
        cases hv
        obtain ⟨h0, h1, h2, h3, h4⟩ := hc
        exact does_slice ho (mkInfo_ok (hT _ _ hi')) he (mkInfo_ok (hT _ _ hei)) hx (h0.imp id (by simp)) hl hhh hm h1 h2 h3 h4
      · cases hv
    · rename_i k g off n cp hx
      obtain ⟨i, hi', hv⟩ := Option.bind_eq_some_iff.1 hv
      obtain ⟨e', he, hv⟩ := Option.bind_eq_some_iff.1 hv
      obtain ⟨ei, hei, hv⟩ := Option.bind_eq_some_iff.1 hv
      obtain ⟨l, hl, hv⟩ := Option.bind_eq_some_iff.1 hv
      obtain ⟨hh, hhh, hv⟩ := Option.bind_eq_some_iff.1 hv
      obtain ⟨m, hm, hv⟩ := Option.bind_eq_some_iff.1 hv
      split at hv
      · rename_i hc
        cases hv
        obtain ⟨h1, h2, h3, h4⟩ := hc
        exact does_sliceB ho (mkInfo_ok (hT _ _ hi')) he (mkInfo_ok (hT _ _ hei)) hx hl hhh hm h1 h2 h3 h4
      · cases hv
    · cases hv
  · rename_i t parts ho
    obtain ⟨v, hv, h⟩ := Option.map_eq_some_iff.1 h
    subst h
    unfold abuild at hv
    obtain ⟨i, hi, hv⟩ := Option.bind_eq_some_iff.1 hv
    split at hv
    · rename_i hc
      obtain ⟨out, hout, hv⟩ := Option.map_eq_some_iff.1 hv
      subst hv
      exact does_build ho (mkInfo_ok (hT _ _ hi)) (fun e => by rw [e] at hc; simp at hc) hout hc.2
    · cases hv
  · rename_i t n parts ho
    obtain ⟨v, hv, h⟩ := Option.map_eq_some_iff.1 h
    subst h
    unfold abuildSlice at hv
    obtain ⟨i, hi, hv⟩ := Option.bind_eq_some_iff.1 hv
    obtain ⟨e', he, hv⟩ := Option.bind_eq_some_iff.1 hv
    obtain ⟨ei, hei, hv⟩ := Option.bind_eq_some_iff.1 hv
    split at hv
    · rename_i hc
      cases hv
      obtain ⟨h1, h2, h3⟩ := hc
      refine does_buildSlice ho (mkInfo_ok (hT _ _ hi)) he (mkInfo_ok (hT _ _ hei)) h1 (fun p hp => ?_) h3
      have := List.all_eq_true.1 h2 p hp
      simp only [Bool.and_eq_true, beq_iff_eq] at this
      exact this
    · cases hv
  · rename_i c ho
    split at h
    · rename_i b hc
      exact acallB_does hT ho hc h
    · cases h
  · cases h
end

end Go.Proofs.YtkmdeahnkfdhjaaW.E
