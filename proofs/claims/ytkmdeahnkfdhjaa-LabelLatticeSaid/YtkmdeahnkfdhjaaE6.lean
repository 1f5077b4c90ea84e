/-
  What single operations make of a state in abstract values: slices. Laws over any program; no condition.
-/
import Derived.Test.YtkmdeahnkfdhjaaE5
namespace Go.Proofs.YtkmdeahnkfdhjaaW.E
open Go Go.RowKit
set_option linter.unusedVariables false
set_option linter.unusedSimpArgs false

section
variable {P : Program} {base : Nat} {w0 : Entry} {st : St} {o : Oper}

theorem TOK.size {t : TypeId} {i : TInfo} (hT : TOK P t i) (w : World) : (sizeOf t).run P w = .ok i.sz w := by
  obtain ⟨d, inf, z, _, hinf, hz, _, hsz, _⟩ := hT.ex
  simp [sizeOf, typeInfo, hinf, hsz]

/-- The address of an element. -/
theorem does_index {t e : TypeId} {x ix : Operand} (ho : o.op = .indexAddr t x ix) {i ei : TInfo} (hT : TOK P t i) (he : i.elem = some e) (hE : TOK P e ei)
    {xs : List AV} {ow : Own} (hx : evalA st x = .list ei.sz xs ow) {kd : IntKind} {j : Int} (hix : evalA st ix = .val (.int kd j)) (h0 : 0 ≤ j) {y : AV} (hy : xs[j.toNat]? = some y) :
    Does P base w0 st o { v := .pelt y.cells } :=
  does_pure fun E a w hok hs => by
    have h1 := evalA_ok hs x
    rw [hx] at h1
    have h2 := evalA_ok hs ix
    rw [hix, RV.val_iff] at h2
    obtain ⟨A, c, b, off, hv, hc, hA, hz, hrow, _⟩ := RD.list_iff.1 h1.list_no
    have hlt : j.toNat < xs.length := (List.getElem?_eq_some_iff.1 hy).1
    have hne : xs ≠ [] := fun h => by simp [h] at hlt
    have hAs := hA hne
    subst hAs
    refine ⟨.pointer (some ⟨b, off + j.toNat * ei.sz, none⟩), ?_, .pure _ _ (RP.pelt_iff.2 ⟨b, _, rfl, fun l c hl => ?_⟩)⟩
    · have hcond : 0 ≤ j ∧ j < (xs.length : Int) := ⟨h0, by omega⟩
      simp only [execOp, ho, hv, h2, Instr.indexAt, asIntOf, Sem.run_bind, Sem.run_pure, Result.andThen_ok, run_underlying (hT.elem e he) w]
      simp only [Sem.run_ite, hcond, and_self, if_true, Sem.run_bind, hE.size w, Result.andThen_ok, Sem.run_pure]
      simp [Addr.add_mid, hcond, hE.size w]
    · have hf := flat_get xs hz j.toNat y hy l c hl
      obtain ⟨h3, u, h4, h5, h6⟩ := hrow _ _ hf
      refine ⟨hok.sF _ _ (by rw [Nat.add_assoc]; exact h3), u, by rw [Nat.add_assoc]; exact h4, h5, .data _ _ h6⟩

/-- The bounds of a slice expression. -/
def bnd (st : St) (x : Option Operand) (d : Nat) : Option Nat :=
  match x with
  | none => some d
  | some x => match evalA st x with
    | .val (.int _ j) => if 0 ≤ j then some j.toNat else none
    | _ => none

theorem run_bound {E : Env} {w : World} {a : Act} (hs : ∀ t, RV E w (st.s t) (a.tmps.getD t undef)) {x : Operand} {d n : Nat} (h : bnd st (some x) d = some n) (y : Nat) (hy : n ≤ y) (code : BoundsCode) :
    (Instr.sliceBound (a.eval x) y code).run P w = .ok n w := by
  simp only [bnd] at h
  have h1 := evalA_ok hs x
  split at h
  · rename_i k j hx
    rw [hx, RV.val_iff] at h1
    split at h
    · rename_i h0
      cases h
      have : 0 ≤ j ∧ j ≤ (y : Int) := ⟨h0, by omega⟩
      simp [Instr.sliceBound, h1, asIntOf, this]
    · cases h
  · cases h

theorem does_slice {t e : TypeId} {x : Operand} {lo hi mx : Option Operand} (ho : o.op = .slice t x lo hi mx) {i ei : TInfo} (hT : TOK P t i) (he : i.elem = some e) (hE : TOK P e ei)
    {sz : Nat} {xs : List AV} {ow : Own} (hx : evalA st x = .list sz xs ow) (hsz : sz = ei.sz ∨ xs = []) {l h m : Nat} (hl : bnd st lo 0 = some l) (hh : bnd st hi xs.length = some h) (hm : bnd st mx xs.length = some m) (h1 : l ≤ h) (h2 : h ≤ m) (h3 : m ≤ xs.length)
    (hmx : mx.isSome = true → hi.isSome = true) :
    Does P base w0 st o { v := .list ei.sz ((xs.take h).drop l) (if mx.isSome ∧ h = m then .full else .no) } :=
  does_pure fun E a w hok hs => by
    have hr := evalA_ok hs x
    rw [hx] at hr
    obtain ⟨A, c, b, off, hv, hc, hA, hz0, hrow, _⟩ := RD.list_iff.1 hr.list_no
    have hz : ∀ y ∈ xs, y.cells.length = ei.sz := fun y hy => by
      rcases hsz with h | h
      · rw [← h]; exact hz0 y hy
      · rw [h] at hy; simp at hy
    have hlen : ((xs.take h).drop l).length = h - l := by simp; omega
    have hz' : ∀ y ∈ (xs.take h).drop l, y.cells.length = ei.sz := fun y hy => hz y (List.mem_of_mem_take (List.mem_of_mem_drop hy))
    have hflat : flat ((xs.take h).drop l) = ((flat xs).take (h * ei.sz)).drop (l * ei.sz) := by
      rw [flat_drop l _ (fun y hy => hz y (List.mem_of_mem_take hy)), flat_take h xs hz]
    have hrun : ∃ M, h ≤ M ∧ (mx.isSome = true → M = m) ∧ (Instr.sliceBounds true xs.length c (lo.map a.eval) (hi.map a.eval) (mx.map a.eval)).run P w = .ok (l, h, M) w := by
      cases mx with
      | none =>
        refine ⟨c, by omega, by simp, ?_⟩
        cases hi with
        | none =>
          simp [bnd] at hh; subst hh
          cases lo with
          | none => simp [bnd] at hl; subst hl; simp [Instr.sliceBounds]
          | some lo => simp [Instr.sliceBounds, run_bound hs hl _ h1]
        | some hi =>
          cases lo with
          | none => simp [bnd] at hl; subst hl; simp [Instr.sliceBounds, run_bound hs hh c (by omega)]
          | some lo => simp [Instr.sliceBounds, run_bound hs hl _ h1, run_bound hs hh c (by omega)]
      | some mx =>
        refine ⟨m, h2, fun _ => rfl, ?_⟩
        cases hi with
        | none => simp at hmx
        | some hi =>
          cases lo with
          | none => simp [bnd] at hl; subst hl; simp [Instr.sliceBounds, run_bound hs hh m h2, run_bound hs hm c (by omega)]
          | some lo => simp [Instr.sliceBounds, run_bound hs hl _ h1, run_bound hs hh m h2, run_bound hs hm c (by omega)]
    obtain ⟨M, hM1, hM2, hM⟩ := hrun
    refine ⟨.slice (if M = l then A else A.map (·.add (l * ei.sz))) (h - l) (M - l), ?_, .pure _ _ (.data _ _ (RD.list_iff.2 ⟨_, M - l, b, off + l * ei.sz, by rw [hlen], by omega, fun hne => ?_, hz', ?_, ?_⟩))⟩
    · simp only [execOp, ho, hv, Instr.sliceAt, Sem.run_bind, run_underlying (hT.elem e he) w, Result.andThen_ok, Instr.slice, hM, hE.size w, Sem.run_pure]
    · have : l < h := by
        rcases Nat.lt_or_ge l h with hlt | hge
        · exact hlt
        · exact absurd (List.eq_nil_of_length_eq_zero (by rw [hlen]; omega)) hne
      have hx0 : xs ≠ [] := fun e => by simp [e] at h3; omega
      rw [if_neg (by omega), hA hx0]
      simp [Addr.add_mid]
    · rw [hflat]
      intro j y hy
      rw [List.getElem?_drop] at hy
      have hlt : l * ei.sz + j < h * ei.sz := by
        have := (List.getElem?_eq_some_iff.1 hy).1
        simp at this; omega
      rw [List.getElem?_take_of_lt hlt] at hy
      have := hrow _ _ hy
      rwa [← Nat.add_assoc] at this
    · by_cases hfull : mx.isSome = true ∧ h = m
      · rw [if_pos hfull]
        refine .inr ⟨rfl, ?_⟩
        rw [hlen, hM2 hfull.1, hfull.2]
      · rw [if_neg hfull]; exact .inl rfl

theorem does_len {c : Call} (ho : o.op = .call c) (hc : c.callee = .builtin .len) {x : Operand} (hx : c.args = #[x]) {t e : TypeId} (ht : c.argTypes = #[t]) {i : TInfo} (hT : TOK P t i) (he : i.elem = some e)
    {sz : Nat} {xs : List AV} {ow : Own} (hv : evalA st x = .list sz xs ow) : Does P base w0 st o { v := .val (.int .i64 xs.length) } :=
  does_pure fun E a w hok hs => by
    have hr := evalA_ok hs x
    rw [hv] at hr
    obtain ⟨A, cp, b, off, hA, _⟩ := RD.list_iff.1 hr.list_no
    refine ⟨.int .i64 xs.length, ?_, RV.val_iff.2 rfl⟩
    simp [execOp, ho, resolve, hc, hx, ht, hA, invoke, builtin, Builtin.len_, run_underlying (hT.elem e he) w, goInt]

/-- The other built-in functions, of values that are told whole. -/
def abuiltin (P : Program) (b : Builtin) (argTypes : Array TypeId) (type : TypeId) (consts : Array Bool) (us : Array Value) : Option Value :=
  match pureRun P (builtin b argTypes type consts us) with
  | some (.value v) => some v
  | _ => none

theorem mapM_toV {E : Env} {w : World} {a : Act} (hs : ∀ t, RV E w (st.s t) (a.tmps.getD t undef)) : ∀ (xs : List Operand) (us : List Value), xs.mapM (fun x => toV (evalA st x)) = some us → xs.map a.eval = us
  | [], us, h => by simp at h; subst h; rfl
  | x :: xs, us, h => by
    simp only [List.mapM_cons, Option.bind_eq_bind, Option.pure_def, Option.bind_eq_some_iff] at h
    obtain ⟨u, hu, us', hus, h9⟩ := h
    cases h9
    rw [List.map_cons, mapM_toV hs xs us' hus, toV_ok hu (evalA_ok hs x)]

theorem does_builtin {c : Call} (ho : o.op = .call c) {b : Builtin} (hc : c.callee = .builtin b) {us : List Value} (hu : c.args.toList.mapM (fun x => toV (evalA st x)) = some us) {v : Value}
    (h : abuiltin P b c.argTypes o.type (c.args.map fun | .const _ => true | _ => false) us.toArray = some v) : Does P base w0 st o { v := .val v } :=
  does_pure fun E a w hok hs => by
    have h1 := mapM_toV hs _ _ hu
    have h2 : c.args.map a.eval = us.toArray := by rw [← h1]; apply Array.ext'; simp
    refine ⟨v, ?_, RV.val_iff.2 rfl⟩
    unfold abuiltin at h
    split at h
    · rename_i v' hv
      cases h
      have h3 := pureRun_ok _ hv w
      simp only [execOp, ho, resolve, hc, h2, invoke, Sem.run_bind, Sem.run_pure, Result.andThen_ok]
      exact h3
    · cases h

/-! ### Values out of parts -/
theorem spl_list (vc : List Value) : ∀ (j off : Nat) (cells : Array Value), off + j + vc.length ≤ cells.size →
    ((vc.zipIdx j).foldl (fun cs (p : Value × Nat) => cs.setIfInBounds (off + p.2) p.1) cells).toList = splice cells.toList (off + j) vc := by
  induction vc with
  | nil => intro j off cells h; simp [splice]
  | cons v vc ih =>
    intro j off cells h
    simp only [List.zipIdx_cons, List.foldl_cons]
    simp only [List.length_cons] at h
    have g0 : off + (j + 1) + vc.length ≤ (cells.setIfInBounds (off + j) v).size := by simp; omega
    rw [ih (j + 1) off _ g0]
    apply List.ext_getElem?
    intro i
    have g1 : off + (j + 1) + vc.length ≤ (cells.setIfInBounds (off + j) v).toList.length := by simp; omega
    have g2 : off + j + (v :: vc).length ≤ cells.toList.length := by simp; omega
    rw [splice_get _ _ _ g1, splice_get _ _ _ g2]
    simp only [List.length_cons, Array.getElem?_toList]
    by_cases h1 : i = off + j
    · subst h1
      rw [if_neg (by omega), if_pos (by omega)]
      simp [show off + j < cells.size by omega]
    · rw [Array.getElem?_setIfInBounds_ne (by omega)]
      by_cases h2 : off + j ≤ i ∧ i < off + j + (vc.length + 1)
      · rw [if_pos (by omega), if_pos h2, show i - (off + j) = (i - (off + (j + 1))) + 1 by omega]
        simp
      · rw [if_neg (by omega), if_neg h2]

def afill (place : Nat → Option (Nat × Nat)) (cells : List AV) : List (Nat × AV) → Option (List AV)
  | [] => some cells
  | (i, a) :: rest => match place i with
    | none => none
    | some (off, size) => if a.cells.length = size ∧ off + size ≤ cells.length ∧ a.cells.all AV.isCell = true then afill place (splice cells off a.cells) rest else none

theorem fill_ok {E : Env} {w : World} {place place' : Nat → Option (Nat × Nat)} (hp : ∀ i x, place i = some x → place' i = some x) {a : Act} : ∀ (parts : List (Nat × Operand)) (cells : List AV) (cs : Array Value) (out : List AV), (∀ t, RV E w (st.s t) (a.tmps.getD t undef)) →
    afill place cells (parts.map fun p => (p.1, evalA st p.2)) = some out → cells.length = cs.size → (∀ (i : Nat) c v, cells[i]? = some c → cs[i]? = some v → v.oneCell' = true ∧ RV E w c v) →
    ∃ os, Instr.fill place' cs (parts.map fun p => (p.1, a.eval p.2)) = some os ∧ out.length = os.size ∧ ∀ (i : Nat) c v, out[i]? = some c → os[i]? = some v → v.oneCell' = true ∧ RV E w c v
  | [], cells, cs, out, hs, h, hl, hr => by
    simp only [List.map_nil, afill, Option.some.injEq] at h
    subst h
    exact ⟨cs, rfl, hl, hr⟩
  | (i, x) :: parts, cells, cs, out, hs, h, hl, hr => by
    simp only [List.map_cons, afill] at h
    split at h
    · cases h
    · rename_i off size hpl
      split at h
      · rename_i hcond
        obtain ⟨h1, h2, h3⟩ := hcond
        obtain ⟨c1, c2, c3⟩ := (evalA_ok hs x).cells h3
        have hsp := spl_list (a.eval x).cells.toList 0 off cs (by simp; omega)
        have hfit1 : off + (evalA st x).cells.length ≤ cells.length := by omega
        have hfit2 : off + (a.eval x).cells.toList.length ≤ cs.toList.length := by simp; omega
        obtain ⟨os, h4, h5, h6⟩ := fill_ok hp parts (splice cells off (evalA st x).cells) (splice cs.toList off (a.eval x).cells.toList).toArray out hs h
          (by rw [splice_len _ _ _ hfit1, List.size_toArray, splice_len _ _ _ hfit2]; simp [hl]) (fun j c v hcj hvj => by
            rw [splice_get _ _ _ hfit1] at hcj
            rw [List.getElem?_toArray, splice_get _ _ _ hfit2] at hvj
            simp only [Array.length_toList, c1] at hvj
            split at hcj
            · rename_i hin
              rw [if_pos hin, Array.getElem?_toList] at hvj
              exact ⟨c2 v (Array.mem_of_getElem? hvj), c3 _ c v hcj hvj⟩
            · rename_i hin
              rw [if_neg hin, Array.getElem?_toList] at hvj
              exact hr j c v hcj hvj)
        refine ⟨os, ?_, h5, h6⟩
        simp only [List.map_cons, Instr.fill, hp i _ hpl]
        rw [if_neg (by simp only [Bool.or_eq_true, decide_eq_true_eq, ne_eq, not_or, gt_iff_lt, Nat.not_lt]; exact ⟨by rw [c1, h1]; simp, by omega⟩)]
        rw [← Array.foldl_toList, Array.toList_zipIdx]
        simp only [Nat.add_zero] at hsp
        have : (List.foldl (fun cs (x : Value × Nat) => match x with | (c, j) => cs.setIfInBounds (off + j) c) cs ((a.eval x).cells.toList.zipIdx 0)) = (splice cs.toList off (a.eval x).cells.toList).toArray := by
          apply Array.ext'
          rw [List.toList_toArray, ← hsp]
        rw [this]
        exact h4
      · cases h

theorem mapM_places : ∀ (fs : List Field), (∀ f ∈ fs, (P.info? f.type).isSome = true) → fs.mapM (fun f => (P.info? f.type).map fun i => (f.offset, i.size)) = some (fs.map fun f => (f.offset, ((P.info? f.type).map (·.size)).getD 0))
  | [], _ => by simp
  | f :: fs, h => by
    obtain ⟨i, hi⟩ := Option.isSome_iff_exists.1 (h f List.mem_cons_self)
    simp [List.mapM_cons, hi, mapM_places fs (fun g hg => h g (List.mem_cons_of_mem _ hg))]

theorem does_build {t : TypeId} {parts : Array (Nat × Operand)} (ho : o.op = .build t parts) {i : TInfo} (hT : TOK P t i) (hst : i.fields ≠ [])
    {out : List AV} (h : afill (fun j => (i.fields[j]?).map fun x => (x.1, x.2.1)) i.zero (parts.toList.map fun p => (p.1, evalA st p.2)) = some out) (hpos : i.fields.all (fun x => x.2.1 != 0) = true) :
    Does P base w0 st o { v := .agg out } :=
  does_pure fun E a w hok hs => by
    obtain ⟨d, inf, z, hd, hinf, hz, _, hsz, _, hzsz, hone, hzlen, hzero⟩ := hT.ex
    obtain ⟨x0, hx0⟩ : ∃ x, i.fields[0]? = some x := by cases hf : i.fields with | nil => exact absurd hf hst | cons x _ => exact ⟨x, rfl⟩
    obtain ⟨fs, f0, hfs, _, _⟩ := hT.fields 0 x0 hx0
    -- the places
    let pl : Array (Nat × Nat) := fs.map fun f => (f.offset, ((P.info? f.type).map (·.size)).getD 0)
    have hfield : ∀ (j : Nat) x, i.fields[j]? = some x → pl[j]? = some (x.1, x.2.1) := fun j x hx => by
      obtain ⟨fs', f, h1, h2, h3⟩ := hT.fields j x hx
      rw [hfs] at h1
      cases h1
      subst h3
      simp [pl, h2]
    have hfill := fill_ok (E := E) (w := w) (place := fun j => (i.fields[j]?).map fun x => (x.1, x.2.1)) (place' := fun j => pl[j]?) (fun j x hx => by
      obtain ⟨y, hy, rfl⟩ := Option.map_eq_some_iff.1 hx
      exact hfield j y hy) (a := a) parts.toList i.zero z.cells out hs h hzlen (fun j c v hc hv => ⟨hone v (Array.mem_of_getElem? hv), .pure _ _ (.data _ _ (hzero _ _ j c v hc hv))⟩)
    obtain ⟨os, h4, h5, h6⟩ := hfill
    refine ⟨.agg os, ?_, .agg _ _ h5 (fun v hv => ?_) (fun j c v hc hv => (h6 j c v hc hv).2)⟩
    · have hinfo : ∀ f ∈ fs.toList, (P.info? f.type).isSome = true := fun f hf => by
        obtain ⟨j, hj, rfl⟩ := List.mem_iff_getElem.1 hf
        have hj' : j < i.fields.length := by rw [hT.nf fs hfs]; simpa using hj
        obtain ⟨fs', f, h7, h8, h9⟩ := hT.fields j i.fields[j] (by simp [hj'])
        rw [hfs] at h7
        cases h7
        have h10 := List.all_eq_true.1 hpos i.fields[j] (List.getElem_mem hj')
        rw [h9] at h10
        have h11 : fs.toList[j] = f := by
          have := (Array.getElem?_eq_some_iff.1 h8).2
          simpa using this
        rw [h11]
        cases hi : P.info? f.type with
        | none => simp [hi] at h10
        | some _ => rfl
      have hbuilt : P.built t (parts.map fun (i, x) => (i, a.eval x)).toList = some os := by
        unfold Program.built
        simp only [hinf, hfs, hz, mapM_places _ hinfo]
        have e1 : ((fs.toList.map fun f => (f.offset, ((P.info? f.type).map (·.size)).getD 0)).toArray) = pl := by apply Array.ext'; simp [pl]
        have e2 : (parts.map fun (i, x) => (i, a.eval x)).toList = parts.toList.map fun p => (p.1, a.eval p.2) := by simp
        rw [e1, e2]
        exact h4
      simp [execOp, ho, run_build w t _ os hbuilt]
    · obtain ⟨j, hj, rfl⟩ := Array.mem_iff_getElem.1 hv
      have : j < out.length := by omega
      exact (h6 j out[j] _ (by simp [this]) (by simp [hj])).1
end

end Go.Proofs.YtkmdeahnkfdhjaaW.E
