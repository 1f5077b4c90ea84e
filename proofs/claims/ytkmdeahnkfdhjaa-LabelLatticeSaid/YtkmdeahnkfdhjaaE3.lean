/-
  What single operations make of a state in abstract values: moves, numbers, boxes, loads, stores, fields. Laws over any program; no condition.
-/
import Derived.Test.YtkmdeahnkfdhjaaE2
import Derived.Laws.BytesString
import Derived.Laws.Cells
namespace Go.Proofs.YtkmdeahnkfdhjaaW.E
open Go Go.RowKit
set_option linter.unusedVariables false
set_option linter.unusedSimpArgs false

section
variable {P : Program} {base : Nat} {w0 : Entry} {st : St} {o : Oper}

theorem does_move {x : Operand} (ho : o.op = .move x ∨ o.op = .assign x) : Does P base w0 st o { v := evalA st x } :=
  does_pure fun E a w hok hs => ⟨a.eval x, by rcases ho with ho | ho <;> simp [execOp, ho], evalA_ok hs x⟩

/-- A constant nil, as a slice of its type. -/
def anil (T : Tab) (t : TypeId) (st : St) : Operand → AV
  | .const (.slice none 0 0) => .list (((T.get t).bind fun i => i.elem.bind fun e => (T.get e).map (·.sz)).getD 0) [] .full
  | x => evalA st x
theorem anil_ok {E : Env} {w : World} {a : Act} {T : Tab} {t : TypeId} (h : ∀ t, RV E w (st.s t) (a.tmps.getD t undef)) (x : Operand) : RV E w (anil T t st x) (a.eval x) := by
  unfold anil
  split
  · exact .pure _ _ (.data _ _ (RD.nil _ _ _ _))
  · exact evalA_ok h x
theorem does_moveN {T : Tab} {x : Operand} (ho : o.op = .move x ∨ o.op = .assign x) : Does P base w0 st o { v := anil T o.type st x } :=
  does_pure fun E a w hok hs => ⟨a.eval x, by rcases ho with ho | ho <;> simp [execOp, ho], anil_ok hs x⟩

theorem does_pick {c x y : Operand} (ho : o.op = .pick c x y) {t : Bool} (hc : evalA st c = .val (.bool t)) : Does P base w0 st o { v := if t then evalA st x else evalA st y } :=
  does_pure fun E a w hok hs => by
    have h1 := evalA_ok hs c
    rw [hc, RV.val_iff] at h1
    refine ⟨if t then a.eval x else a.eval y, by simp [execOp, ho, h1, asBool], ?_⟩
    cases t
    · exact evalA_ok hs y
    · exact evalA_ok hs x

def abin (P : Program) (op : BinOp) (t : TypeId) (x y : Operand) (a b : Value) : Option Value := pureRun P (do eqGuard op t x y a b; binOp op t a b)
theorem does_bin {op : BinOp} {t u : TypeId} {x y : Operand} (ho : o.op = .binOp op t x y u) {a b v : Value} (ha : toV (evalA st x) = some a) (hb : toV (evalA st y) = some b)
    (h : abin P op t x y a b = some v) : Does P base w0 st o { v := .val v } :=
  does_pure fun E ac w hok hs => by
    have h1 := toV_ok ha (evalA_ok hs x)
    have h2 := toV_ok hb (evalA_ok hs y)
    refine ⟨v, ?_, .pure _ _ (.data _ _ (.val _))⟩
    have h3 := pureRun_ok _ h w
    simp only [execOp, ho, h1, h2, Sem.run_bind] at h3 ⊢
    rw [h3]; rfl

/-- A slice against nil. -/
def anilt (T : Tab) (st : St) (op : BinOp) (t : TypeId) (x y : Operand) : Option Bool :=
  match y with
  | .const (.slice none 0 0) => match (T.get t).bind (·.elem) with
    | some _ => match evalA st x with
      | .list _ (_ :: _) _ => match op with
        | .eql => some false
        | .neq => some true
        | _ => none
      | .val (.slice none _ _) => match op with
        | .eql => some true
        | .neq => some false
        | _ => none
      | .val (.slice (some _) _ _) => match op with
        | .eql => some false
        | .neq => some true
        | _ => none
      | _ => none
    | none => none
  | _ => none
theorem pure_eql_nil {t e : TypeId} (h : P.underlying t = some (.slice e)) (A : Option Addr) (n c : Nat) (w : World) : (Op.equal t (.slice A n c) (.slice none 0 0)).run P w = .ok A.isNone w := by
  show (Op.equalIn (9999 + 1) t (.slice A n c) (.slice none 0 0)).run P w = _
  unfold Op.equalIn
  rw [Sem.run_bind, run_underlying h]
  cases A <;> rfl
theorem does_nilt {T : Tab} (hT : T.OK P) {op : BinOp} {t u : TypeId} {x y : Operand} (ho : o.op = .binOp op t x y u) {b : Bool} (h : anilt T st op t x y = some b) : Does P base w0 st o { v := .val (.bool b) } :=
  does_pure fun E a w hok hs => by
    have key : ∃ A n c e, y = .const (.slice none 0 0) ∧ a.eval x = .slice A n c ∧ P.underlying t = some (.slice e) ∧ ((op = .eql ∧ b = A.isNone) ∨ (op = .neq ∧ b = !A.isNone)) := by
      have h1 := evalA_ok hs x
      unfold anilt at h
      split at h
      · split at h
        · rename_i e he
          obtain ⟨i, hi, he⟩ := Option.bind_eq_some_iff.1 he
          have hu := (mkInfo_ok (hT _ _ hi)).elem _ he
          split at h
          · rename_i sz z zs ow hx
            rw [hx] at h1
            obtain ⟨A, c, b0, off, hv, hc, hA, _⟩ := RD.list_iff.1 h1.list_no
            have hA' := hA (by simp)
            subst hA'
            split at h <;> cases h
            · exact ⟨_, _, _, _, rfl, hv, hu, .inl ⟨rfl, rfl⟩⟩
            · exact ⟨_, _, _, _, rfl, hv, hu, .inr ⟨rfl, rfl⟩⟩
          · rename_i n c hx
            rw [hx, RV.val_iff] at h1
            split at h <;> cases h
            · exact ⟨_, _, _, _, rfl, h1, hu, .inl ⟨rfl, rfl⟩⟩
            · exact ⟨_, _, _, _, rfl, h1, hu, .inr ⟨rfl, rfl⟩⟩
          · rename_i A n c hx
            rw [hx, RV.val_iff] at h1
            split at h <;> cases h
            · exact ⟨_, _, _, _, rfl, h1, hu, .inl ⟨rfl, rfl⟩⟩
            · exact ⟨_, _, _, _, rfl, h1, hu, .inr ⟨rfl, rfl⟩⟩
          · cases h
        · cases h
      · cases h
    obtain ⟨A, n, c, e, rfl, hx, hu, hb⟩ := key
    refine ⟨.bool b, ?_, .pure _ _ (.data _ _ (.val _))⟩
    have hy : a.eval (.const (.slice none 0 0)) = .slice none 0 0 := rfl
    have h3 := pure_eql_nil hu A n c w
    rcases hb with ⟨rfl, rfl⟩ | ⟨rfl, rfl⟩
    · have h2 : (do eqGuard .eql t x (.const (.slice none 0 0)) (.slice A n c) (.slice none 0 0); binOp .eql t (.slice A n c) (.slice none 0 0) : Sem Value) = (do pure (.bool (← Op.equal t (.slice A n c) (.slice none 0 0)))) := rfl
      have h4 := congrArg (fun s => s.run P w) h2
      simp only [Sem.run_bind, h3] at h4
      simp only [execOp, ho, hx, hy, Sem.run_bind] at h4 ⊢
      rw [h4]; rfl
    · have h2 : (do eqGuard .neq t x (.const (.slice none 0 0)) (.slice A n c) (.slice none 0 0); binOp .neq t (.slice A n c) (.slice none 0 0) : Sem Value) = (do pure (.bool (!(← Op.equal t (.slice A n c) (.slice none 0 0))))) := rfl
      have h4 := congrArg (fun s => s.run P w) h2
      simp only [Sem.run_bind, h3] at h4
      simp only [execOp, ho, hx, hy, Sem.run_bind] at h4 ⊢
      rw [h4]; rfl

/-- Bytes as a string. -/
def byt : AV → Option Int
  | .val (.int .u8 n) => some n
  | _ => none
def bcat (ns : List Int) : ByteArray := ns.foldl (fun r n => r.push (UInt8.ofNat n.toNat)) ByteArray.empty
def abstr (P : Program) (T : Tab) (st : St) (s d : TypeId) (x : Operand) : Option ByteArray :=
  match evalA st x with
  | .list _ xs _ => (T.get s).bind fun i => i.elem.bind fun e => match P.underlying e with
    | some (.int .u8) => match P.underlying d with
      | some .string => (xs.mapM byt).map bcat
      | _ => none
    | _ => none
  | _ => none
theorem mapM_byt : ∀ {xs : List AV} {ns : List Int}, xs.mapM byt = some ns → xs = ns.map fun n => .val (.int .u8 n)
  | [], ns, h => by simp at h; subst h; rfl
  | x :: xs, ns, h => by
    simp only [List.mapM_cons] at h
    obtain ⟨n, hn, h⟩ := Option.bind_eq_some_iff.1 h
    obtain ⟨ms, hm, h⟩ := Option.bind_eq_some_iff.1 h
    cases h
    rw [mapM_byt hm, List.map_cons]
    congr 1
    unfold byt at hn
    split at hn <;> cases hn
    rfl
theorem flat_u8 : ∀ ns : List Int, flat (ns.map fun n => .val (.int .u8 n)) = ns.map fun n => .val (.int .u8 n)
  | [] => rfl
  | n :: ns => by
    have ih := flat_u8 ns
    simp only [flat, List.map_cons, List.flatMap_cons] at ih ⊢
    rw [ih]; rfl
theorem does_b2s {T : Tab} (hT : T.OK P) {s d : TypeId} {x : Operand} (ho : o.op = .convert s d x) {b : ByteArray} (h : abstr P T st s d x = some b) : Does P base w0 st o { v := .val (.string b) } :=
  does_pure fun E a w hok hs => by
    have h1 := evalA_ok hs x
    unfold abstr at h
    split at h
    · rename_i sz xs ow hx
      obtain ⟨i, hi, h⟩ := Option.bind_eq_some_iff.1 h
      obtain ⟨e, he, h⟩ := Option.bind_eq_some_iff.1 h
      have hu := (mkInfo_ok (hT _ _ hi)).elem _ he
      split at h
      · rename_i hue
        split at h
        · rename_i hud
          obtain ⟨ns, hns, h⟩ := Option.map_eq_some_iff.1 h
          subst h
          have hxs := mapM_byt hns
          rw [hx] at h1
          obtain ⟨A, c, b0, off, hv, hc, hA, hz, hrow, _⟩ := RD.list_iff.1 h1.list_no
          refine ⟨.string (bcat ns), ?_, .pure _ _ (.data _ _ (.val _))⟩
          have hconv : (convert s d (.slice A xs.length c)).run P w = (Conv.bytesToString (.slice A xs.length c)).run P w := by
            unfold convert
            rw [Sem.run_bind, run_underlying hu]
            simp only [Result.andThen]
            rw [Sem.run_bind, run_underlying hud]
            simp only [Result.andThen]
            cases A <;> (show Sem.run P (_ >>= _) w = _; rw [Sem.run_bind, run_underlying hue]; rfl)
          simp only [execOp, ho, hv, hconv, Sem.run_bind]
          cases A with
          | none =>
            have : xs = [] := by
              cases xs with
              | nil => rfl
              | cons x xs => have := hA (by simp); cases this
            subst this
            have : ns = [] := by cases ns with
              | nil => rfl
              | cons n ns => cases hxs
            subst this
            rfl
          | some ad =>
            have hl : (loadCells ad xs.length).run P w = .ok (ns.map (Value.int .u8)).toArray w := by
              have := run_loadCells_list (P := P) (w := w) ad (ns.map (Value.int .u8)) (fun j v hj => by
                have hfl : flat xs = xs := by rw [hxs]; exact flat_u8 ns
                have hne : xs ≠ [] := by
                  rintro rfl
                  have : ns = [] := by cases ns with
                    | nil => rfl
                    | cons n ns => cases hxs
                  subst this
                  simp at hj
                have hA' := hA hne
                cases hA'
                rw [List.getElem?_map] at hj
                obtain ⟨n, hn, rfl⟩ := Option.map_eq_some_iff.1 hj
                obtain ⟨_, u, hu1, _, hu2⟩ := hrow j (.val (.int .u8 n)) (by rw [hfl, hxs, List.getElem?_map, hn]; rfl)
                cases hu2
                unfold Addr.add
                split
                · rename_i h0; subst h0; exact hu1
                · exact hu1)
              rw [hxs]
              simpa using this
            rw [run_bytesToString w ad xs.length c ns hl]
            rfl
        · cases h
      · cases h
    · cases h

def aun (P : Program) (op : UnOp) (a : Value) : Option Value := pureRun P (Op.unary op a)
theorem does_un {op : UnOp} {t : TypeId} {x : Operand} (ho : o.op = .unOp op t x) {a v : Value} (ha : toV (evalA st x) = some a) (h : aun P op a = some v) : Does P base w0 st o { v := .val v } :=
  does_pure fun E ac w hok hs => by
    have h1 := toV_ok ha (evalA_ok hs x)
    refine ⟨v, ?_, .pure _ _ (.data _ _ (.val _))⟩
    have h3 := pureRun_ok _ h w
    simp only [execOp, ho, h1, Sem.run_bind, h3]; rfl

def aconv (P : Program) (s d : TypeId) (a : Value) : Option Value := pureRun P (convert s d a)
theorem does_conv {s d : TypeId} {x : Operand} (ho : o.op = .convert s d x) {a v : Value} (ha : toV (evalA st x) = some a) (h : aconv P s d a = some v) : Does P base w0 st o { v := .val v } :=
  does_pure fun E ac w hok hs => by
    have h1 := toV_ok ha (evalA_ok hs x)
    refine ⟨v, ?_, .pure _ _ (.data _ _ (.val _))⟩
    have h3 := pureRun_ok _ h w
    simp only [execOp, ho, h1, Sem.run_bind, h3]; rfl

theorem does_makeFunc {f : FuncId} {caps : Array Operand} (ho : o.op = .makeFunc (.func f) #[] caps) : Does P base w0 st o { v := .fn f (caps.toList.map (evalA st)) } :=
  does_pure fun E a w hok hs => by
    refine ⟨.func (.func f) #[] (caps.map a.eval), by simp [execOp, ho, Instr.makeFunc], .fn _ _ _ (by simp) (fun i c v hc hv => ?_)⟩
    simp only [List.getElem?_map, Option.map_eq_some_iff, Array.getElem?_toList] at hc
    obtain ⟨x, hx, rfl⟩ := hc
    simp only [Array.getElem?_map, hx, Option.map_some, Option.some.injEq] at hv
    subst hv
    exact evalA_ok hs x

theorem RD.tup_inv {S : Pl} {w : World} {vs : List AV} {v : Value} (h : RD S w (.tup vs) v) : ∃ cs : Array Value, v = .tuple cs ∧ vs.length = cs.size ∧ ∀ (i : Nat) c v, vs[i]? = some c → cs[i]? = some v → RD S w c v := by
  cases h with | tup _ cs hl h => exact ⟨cs, rfl, hl, h⟩
theorem RV.tup_inv {E : Env} {w : World} {vs : List AV} {v : Value} (h : RV E w (.tup vs) v) : ∃ cs : Array Value, v = .tuple cs ∧ vs.length = cs.size ∧ ∀ (i : Nat) c v, vs[i]? = some c → cs[i]? = some v → RD E.S w c v := by
  cases h with | pure _ _ h => cases h with | data _ _ h => exact h.tup_inv

theorem does_extract {t : Operand} {i : Nat} (ho : o.op = .extract t i) {vs : List AV} (ht : evalA st t = .tup vs) {v : AV} (hv : vs[i]? = some v) : Does P base w0 st o { v } :=
  does_pure fun E a w hok hs => by
    have h1 := evalA_ok hs t
    rw [ht] at h1
    obtain ⟨cs, hcs, hl, h2⟩ := h1.tup_inv
    have hi : i < cs.size := by rw [← hl]; exact (List.getElem?_eq_some_iff.1 hv).1
    refine ⟨cs[i], ?_, .pure _ _ (.data _ _ (h2 i v _ hv (by simp [hi])))⟩
    simp [execOp, ho, hcs, Instr.extract, hi]

/-- The value of a variable whose cells are told. -/
def rdCells (i : TInfo) (cs : List AV) : Option AV :=
  if i.agg then (if i.sz ≤ cs.length then some (.agg (cs.take i.sz)) else none) else (match cs with | c :: _ => some c | [] => none)

theorem run_loadVar_cells {t : TypeId} {i : TInfo} (hT : TOK P t i) {w : World} {R : AV → Value → Prop} {b off : Nat} {cs : List AV} {v : AV} (h : rdCells i cs = some v)
    (hrow : ∀ (j : Nat) y, cs[j]? = some y → ∃ u, w.cell? ⟨b, off + j, none⟩ = some u ∧ u.oneCell' = true ∧ R y u) :
    ∃ u, (loadVar t ⟨b, off, none⟩).run P w = .ok u w ∧ ((∃ vs us, v = .agg vs ∧ u = .agg us ∧ vs.length = us.size ∧ (∀ x ∈ us, x.oneCell' = true) ∧ ∀ (i : Nat) c x, vs[i]? = some c → us[i]? = some x → R c x) ∨ R v u) := by
  obtain ⟨d, inf, z, hd, hinf, hz, hagg, hsz, _⟩ := hT.ex
  unfold rdCells at h
  split at h
  · rename_i ha
    split at h
    · rename_i hle
      cases h
      let f : Nat → Value := fun j => (w.cell? ⟨b, off + j, none⟩).getD undef
      have hf : ∀ j, j < i.sz → ∃ y, cs[j]? = some y ∧ w.cell? ⟨b, off + j, none⟩ = some (f j) ∧ (f j).oneCell' = true ∧ R y (f j) := fun j hj => by
        have hj' : j < cs.length := by omega
        obtain ⟨u, h1, h2, h3⟩ := hrow j cs[j] (by simp [hj'])
        refine ⟨cs[j], by simp [hj'], ?_, ?_, ?_⟩ <;> simp only [f, h1, Option.getD_some] <;> assumption
      refine ⟨.agg ((List.range i.sz).map f).toArray, ?_, .inl ⟨_, _, rfl, rfl, by simp; omega, ?_, ?_⟩⟩
      · have hl := run_loadCells (P := P) w ⟨b, off, none⟩ i.sz f (fun j hj => by rw [Addr.add_mid]; exact (hf j hj).choose_spec.2.1)
        have : (isAgg t).run P w = .ok true w := by
          unfold isAgg
          rw [Sem.run_bind, run_underlying hd w]
          cases d <;> simp_all [isRow]
        simp only [loadVar, Sem.run_bind, this, Result.andThen_ok, if_true, sizeOf, typeInfo, run_program, hinf, Sem.run_pure, ← hsz, hl]
      · intro x hx
        simp only [List.mem_toArray, List.mem_map, List.mem_range] at hx
        obtain ⟨j, hj, rfl⟩ := hx
        obtain ⟨y, _, _, h2, _⟩ := hf j hj
        exact h2
      · intro j c x hc hx
        simp only [List.getElem?_toArray, List.getElem?_map, Option.map_eq_some_iff] at hx
        obtain ⟨j', hj', rfl⟩ := hx
        have hj1 : j < i.sz := by have := (List.getElem?_eq_some_iff.1 hj').1; simpa using this
        rw [List.getElem?_range hj1] at hj'
        cases hj'
        obtain ⟨y, h1, h2, h3, h4⟩ := hf j hj1
        rw [List.getElem?_take_of_lt hj1, h1] at hc
        cases hc
        exact h4
    · cases h
  · rename_i ha
    cases cs with
    | nil => cases h
    | cons c cs =>
      cases h
      obtain ⟨u, h1, h2, h3⟩ := hrow 0 v rfl
      refine ⟨u, ?_, .inr h3⟩
      have : (isAgg t).run P w = .ok false w := by
        unfold isAgg
        rw [Sem.run_bind, run_underlying hd w]
        cases d <;> simp_all [isRow]
      simp only [Nat.add_zero] at h1
      simp [loadVar, Sem.run_bind, this, h1]
end

end Go.Proofs.YtkmdeahnkfdhjaaW.E
