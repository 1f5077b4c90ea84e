/-
  '==' of structs of two numbers. Laws over any program; no condition.
-/
import Derived.Test.YtkmdeahnkfdhjaaE15
import Derived.Laws.StructEq
namespace Go.Proofs.YtkmdeahnkfdhjaaW.E
open Go Go.RowKit
set_option linter.unusedVariables false
set_option linter.unusedSimpArgs false

section
variable {P : Program}
theorem pureRun_ite {α : Type} (c : Prop) [Decidable c] (x y : Sem α) : pureRun P (if c then x else y) = if c then pureRun P x else pureRun P y := by split <;> rfl
theorem pureRun_eqStruct (d : Nat) (t : TypeId) (fs : Array Field) (xs ys : Array Value) (ht : P.underlying t = some (.struct fs)) (hp : P.stoodInHeld t = false) :
    pureRun P (Op.equalIn (d + 1) t (.agg xs) (.agg ys)) = pureRun P (Op.eqFields d xs ys fs.toList) := by
  have hprog : pureRun P program = some P := rfl
  simp only [Op.equalIn, pureRun_bind, pureRun_underlying ht, Option.bind_some, hprog, hp, Bool.false_eq_true, if_false]
  rw [← Array.forIn_toList]
  generalize fs.toList = l
  clear ht
  induction l with
  | nil => simp [Op.eqFields, pureRun_bind, pureRun_pure]
  | cons f l ih =>
    simp only [List.forIn_cons, Op.eqFields, pureRun_bind, pureRun_ite] at ih ⊢
    split
    · cases pureRun P (part f.type xs f.offset) with
      | none => rfl
      | some a =>
        simp only [Option.bind_some]
        cases pureRun P (part f.type ys f.offset) with
        | none => rfl
        | some b =>
          simp only [Option.bind_some]
          cases pureRun P (Op.equalIn d f.type a b) with
          | none => rfl
          | some r =>
            cases r
            · rfl
            · simpa only [Option.bind_some, Bool.not_true, Bool.false_eq_true, if_false, pureRun_pure] using ih
    · simpa only [pureRun_pure, Option.bind_some] using ih
theorem pureRun_equal_int (d : Nat) (t : TypeId) (k k' : IntKind) (a b : Int) (h : P.underlying t = some (.int k')) : pureRun P (Op.equalIn (d + 1) t (.int k a) (.int k b)) = some (a == b) := by
  unfold Op.equalIn
  rw [pureRun_bind, pureRun_underlying h]
  simp [pureRun_pure]
theorem pureRun_eq2 {t : TypeId} {f g : Field} {xs ys : Array Value} {k k1 k' k1' : IntKind} {a b c e : Int} (d : Nat) (ht : P.underlying t = some (.struct #[f, g])) (hp : P.stoodInHeld t = false) (hf : f.name ≠ "_") (hg : g.name ≠ "_")
    (p1 : pureRun P (part f.type xs f.offset) = some (.int k a)) (p2 : pureRun P (part f.type ys f.offset) = some (.int k c)) (p3 : pureRun P (part g.type xs g.offset) = some (.int k1 b)) (p4 : pureRun P (part g.type ys g.offset) = some (.int k1 e))
    (u1 : P.underlying f.type = some (.int k')) (u2 : P.underlying g.type = some (.int k1')) : pureRun P (Op.equalIn (d + 2) t (.agg xs) (.agg ys)) = some ((a == c) && (b == e)) := by
  rw [pureRun_eqStruct (d + 1) t _ xs ys ht hp]
  simp only [Op.eqFields, if_pos hf, if_pos hg, pureRun_bind, p1, p2, p3, p4, pureRun_equal_int d _ _ _ _ _ u1, pureRun_equal_int d _ _ _ _ _ u2, Option.bind_some, pureRun_ite, pureRun_pure]
  cases a == c <;> cases b == e <;> rfl
theorem pureRun_eqGuard {op : BinOp} {t : TypeId} {x y : Operand} {xs ys : Array Value} (hg : P.eqGuardType P.depth t = false) : pureRun P (eqGuard op t x y (.agg xs) (.agg ys)) = some () := by
  have hprog : pureRun P program = some P := rfl
  unfold eqGuard
  simp only [pureRun_bind, pureRun_ite, hprog, Option.bind_some, hg, pureRun_pure]
  split <;> simp [pureRun_pure, pureRun_bind]
theorem abin_neqS {t : TypeId} {x y : Operand} {xs ys : Array Value} {r : Bool} (hg : P.eqGuardType P.depth t = false) (h : pureRun P (Op.equalIn (9998 + 2) t (.agg xs) (.agg ys)) = some r) : abin P .neq t x y (.agg xs) (.agg ys) = some (.bool !r) := by
  have h1 : binOp .neq t (.agg xs) (.agg ys) = (do pure (.bool (!(← Op.equalIn (9998 + 2) t (.agg xs) (.agg ys))))) := rfl
  unfold abin
  rw [pureRun_bind, pureRun_eqGuard hg]
  simp only [Option.bind_some]
  rw [h1, pureRun_bind, h]
  rfl
def eqS (a b : ByteArray) : Bool := a == b
theorem eqS_iff (a b : ByteArray) : eqS a b = decide (a = b) := by
  unfold eqS
  cases a with | mk a =>
  cases b with | mk b =>
  have : ((⟨a⟩ : ByteArray) == ⟨b⟩) = (a == b) := rfl
  rw [this]
  by_cases h : a = b <;> simp [h]
theorem eqS_self (a : ByteArray) : eqS a a = true := by rw [eqS_iff]; simp
theorem eqI_self (a : Int) : eqI a a = true := decide_eq_true rfl
theorem abin_eqS {t : TypeId} {x y : Operand} {a b : ByteArray} : abin P .eql t x y (.string a) (.string b) = some (.bool (eqS a b)) := by
  simp [abin, eqGuard, binOp, Op.stringOp, pureRun, bind, Sem.bind, pure, eqS, beq_toListBytes]
theorem abin_rem {t : TypeId} {x y : Operand} {k : IntKind} {a b : Int} (hb : b ≠ 0) : abin P .rem t x y (.int k a) (.int k b) = some (.int k (a.tmod b)) := by
  simp [abin, eqGuard, binOp, pureRun, Op.intDiv, bind, Sem.bind, pure, hb]
theorem mapM_byt_map (l : List Int) : (l.map fun n => (.val (.int .u8 n) : AV)).mapM byt = some l := by
  induction l with
  | nil => rfl
  | cons x l ih => simp only [List.map_cons, List.mapM_cons, ih]; rfl
theorem mapM_two (u v : Value) : List.mapM toV0 [AV.val u, AV.val v] = some [u, v] := rfl
end
end Go.Proofs.YtkmdeahnkfdhjaaW.E
