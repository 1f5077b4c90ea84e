/-
  Objects and threads as new ones, in package morph and by the document, walked in abstract values. Conditions: lengths.
-/
import Derived.Test.YtfgndnackofenaaEWMo1
import Derived.Test.YtfgndnackofenaaEWTrS
import Derived.Test.YtfgndnackofenaaEWSame
namespace Go.Proofs.Ytfgndnackofenaa.E
open Go Go.RowKit Go.Proofs.YtfgndnackofenaaW.E
set_option linter.unusedVariables false
set_option linter.unusedSimpArgs false
set_option maxRecDepth 100000
set_option maxHeartbeats 8000000

theorem wkO (b : Ob) (sz1 sz2 sz3 sz4 sz5 sz6 sz7 : Nat) (o1 o2 o3 o4 o5 o6 o7 : Own) (h1 : sz1 = 2 ∨ b.l.map prA = []) (h2 : sz2 = 1 ∨ b.s.map u16 = []) (h3 : sz3 = 1 ∨ b.i.map u16 = []) (h4 : sz4 = 1 ∨ b.o.map u16 = []) (h5 : sz5 = 1 ∨ b.dat.map u8 = []) (h6 : sz6 = 1 ∨ b.cats.map u16 = []) (h7 : sz7 = 1 ∨ b.ring.map l8 = []) :
    Wk (.agg [u64 b.id, i64 b.kind, u8 b.d, .list sz1 (b.l.map prA) o1, .list sz2 (b.s.map u16) o2, .list sz3 (b.i.map u16) o3, .list sz4 (b.o.map u16) o4, i64 b.q, i64 b.u, i64 b.x, .list sz5 (b.dat.map u8) o5, .list sz6 (b.cats.map u16) o6, .list sz7 (b.ring.map l8) o7]) (obj b) :=
  Wk.agg' (.cons (.refl _) (.cons (.refl _) (.cons (.refl _) (.cons (.list _ _ _ _ h1) (.cons (.list _ _ _ _ h2) (.cons (.list _ _ _ _ h3) (.cons (.list _ _ _ _ h4) (.cons (.refl _) (.cons (.refl _) (.cons (.refl _) (.cons (.list _ _ _ _ h5) (.cons (.list _ _ _ _ h6) (.cons (.list _ _ _ _ h7) .nil)))))))))))))
theorem wkT (t : Th) (sz1 sz2 sz3 sz4 : Nat) (o1 o2 o3 o4 : Own) (h1 : sz1 = 2 ∨ t.l.map prA = []) (h2 : sz2 = 1 ∨ t.s.map u16 = []) (h3 : sz3 = 1 ∨ t.i.map u16 = []) (h4 : sz4 = 1 ∨ t.o.map u16 = []) :
    Wk (.agg [u8 t.d, .list sz1 (t.l.map prA) o1, .list sz2 (t.s.map u16) o2, .list sz3 (t.i.map u16) o3, .list sz4 (t.o.map u16) o4, i64 t.own, i64 t.does, u64 t.id, u64 t.to, i64 t.don, i64 t.n, bo t.new]) (thr t) :=
  Wk.agg' (.cons (.refl _) (.cons (.list _ _ _ _ h1) (.cons (.list _ _ _ _ h2) (.cons (.list _ _ _ _ h3) (.cons (.list _ _ _ _ h4) (.cons (.refl _) (.cons (.refl _) (.cons (.refl _) (.cons (.refl _) (.cons (.refl _) (.cons (.refl _) (.cons (.refl _) .nil))))))))))))
theorem e14 : eqI 14 0 = false := rfl
theorem spl_t {d : Int} {l : List Pr} (h : okS d l = true) (v : Int) : spl d l v = lvs l v := by simp [spl, h]
theorem spl_f {d : Int} {l : List Pr} (h : okS d l = false) (v : Int) : spl d l v = [] := by simp [spl, h]
theorem splE_t {d : Int} {l : List Pr} (h : okS d l = true) : splE d l = 0 := by simp [splE, h]
theorem splE_f {d : Int} {l : List Pr} (h : okS d l = false) : splE d l = 14 := by simp [splE, h]

theorem sp_R22Split (b : Ob) (hl : b.l.length ≤ 100000) (hn : nam b.d b.l = okS b.d b.l) : ACall Try.prog 32 [obj b] (.tup [obj (moO b), i64 (splE b.d b.l)]) := by
  have f1 := sp_R8Split b.d b.l (by omega) hn
  refine acall_of Try.func32 rfl rfl (Nat.le_of_ble_eq_true rfl) T_ok (fun base w0 => ?_)
  refine AWp.seq (AWp.regionW T_ok rfl (WL.all (by simp (decide := true) only [EVs, EVt, Array.toList] <;> exact rfl) ?_))
  refine AWp.seq (AWp.regionW T_ok rfl ?_)
  (repeat (first | refine WL.c rfl rfl rfl (by simp (decide := true) only [EVs, EVt, Array.toList] <;> exact rfl) (by simp (decide := true) only [EVs, EVt, Array.toList, calleeOf] <;> exact rfl) (by simp (decide := true) only [EVs, EVt, Array.toList, argsOf, frz] <;> exact rfl) (by first | exact f1) rfl ?_ | refine WL.f rfl rfl rfl (by simp (decide := true) only [EVs, EVt, Array.toList] <;> exact rfl) (by simp (decide := true) only [EVs, EVt, Array.toList, calleeOf] <;> exact rfl) (by simp (decide := true) only [EVs, EVt, Array.toList, argsOf, frz] <;> exact rfl) (by first | exact f1) ?_ | refine WL.one (by simp (decide := true) only [EVs, EVt, Array.toList] <;> exact rfl) ?_)); refine WL.nil ?_
  cases hk : okS b.d b.l with
  | false =>
    rw [splE_f hk]
    have e : moO b = ⟨0, 0, 0, [], [], [], [], 0, 0, 0, [], [], []⟩ := by simp [moO, hk]
    rw [e]
    refine AWp.seq (AWp.seq (AWp.regionW T_ok rfl (WL.all (by simp (decide := true) only [EVs, EVt, Array.toList, e14] <;> exact rfl) ?_)))
    refine AWp.cond (t := true) rfl (AWp.seq (AWp.regionW T_ok rfl (WL.all (by simp (decide := true) only [EVs, EVt, Array.toList] <;> exact rfl) ?_)))
    refine AWp.ret ⟨_, rfl, .inl ?_⟩
    exact .tup' (.cons (wkO ⟨0, 0, 0, [], [], [], [], 0, 0, 0, [], [], []⟩ _ _ _ _ _ _ _ _ _ _ _ _ _ _ (.inr rfl) (.inr rfl) (.inr rfl) (.inr rfl) (.inr rfl) (.inr rfl) (.inr rfl)) (.cons (.refl _) .nil))
  | true =>
    rw [splE_t hk, spl_t hk, spl_t hk, spl_t hk]
    have e : moO b = { b with d := 0, l := [], s := lvs b.l 4, i := lvs b.l 1, o := lvs b.l 0 } := by simp [moO, hk]
    rw [e]
    refine AWp.seq (AWp.seq (AWp.regionW T_ok rfl (WL.all (by simp (decide := true) only [EVs, EVt, Array.toList, eqI_self] <;> exact rfl) ?_)))
    refine AWp.cond (t := false) rfl (AWp.skip ?_)
    refine AWp.seq (AWp.regionW T_ok rfl (WL.all (by simp (decide := true) only [EVs, EVt, Array.toList] <;> exact rfl) ?_))
    refine AWp.seq (AWp.regionW T_ok rfl (WL.all (by simp (decide := true) only [EVs, EVt, Array.toList] <;> exact rfl) ?_))
    refine AWp.ret ⟨_, rfl, .inl ?_⟩
    exact .tup' (.cons (wkO { b with d := 0, l := [], s := lvs b.l 4, i := lvs b.l 1, o := lvs b.l 0 } _ _ _ _ _ _ _ _ _ _ _ _ _ _ (.inl rfl) (.inl rfl) (.inl rfl) (.inl rfl) (.inl rfl) (.inl rfl) (.inl rfl)) (.cons (.refl _) .nil))
theorem sp_R22SplitT (t : Th) (hl : t.l.length ≤ 100000) (hn : nam t.d t.l = okS t.d t.l) : ACall Try.prog 34 [thr t] (.tup [thr (moT t), i64 (splE t.d t.l)]) := by
  have f1 := sp_R8Split t.d t.l (by omega) hn
  refine acall_of Try.func34 rfl rfl (Nat.le_of_ble_eq_true rfl) T_ok (fun base w0 => ?_)
  refine AWp.seq (AWp.regionW T_ok rfl (WL.all (by simp (decide := true) only [EVs, EVt, Array.toList] <;> exact rfl) ?_))
  refine AWp.seq (AWp.regionW T_ok rfl ?_)
  (repeat (first | refine WL.c rfl rfl rfl (by simp (decide := true) only [EVs, EVt, Array.toList] <;> exact rfl) (by simp (decide := true) only [EVs, EVt, Array.toList, calleeOf] <;> exact rfl) (by simp (decide := true) only [EVs, EVt, Array.toList, argsOf, frz] <;> exact rfl) (by first | exact f1) rfl ?_ | refine WL.f rfl rfl rfl (by simp (decide := true) only [EVs, EVt, Array.toList] <;> exact rfl) (by simp (decide := true) only [EVs, EVt, Array.toList, calleeOf] <;> exact rfl) (by simp (decide := true) only [EVs, EVt, Array.toList, argsOf, frz] <;> exact rfl) (by first | exact f1) ?_ | refine WL.one (by simp (decide := true) only [EVs, EVt, Array.toList] <;> exact rfl) ?_)); refine WL.nil ?_
  cases hk : okS t.d t.l with
  | false =>
    rw [splE_f hk]
    have e : moT t = ⟨0, [], [], [], [], 0, 0, 0, 0, 0, 0, false⟩ := by simp [moT, hk]
    rw [e]
    refine AWp.seq (AWp.seq (AWp.regionW T_ok rfl (WL.all (by simp (decide := true) only [EVs, EVt, Array.toList, e14] <;> exact rfl) ?_)))
    refine AWp.cond (t := true) rfl (AWp.seq (AWp.regionW T_ok rfl (WL.all (by simp (decide := true) only [EVs, EVt, Array.toList] <;> exact rfl) ?_)))
    refine AWp.ret ⟨_, rfl, .inl ?_⟩
    exact .tup' (.cons (wkT ⟨0, [], [], [], [], 0, 0, 0, 0, 0, 0, false⟩ _ _ _ _ _ _ _ _ (.inr rfl) (.inr rfl) (.inr rfl) (.inr rfl)) (.cons (.refl _) .nil))
  | true =>
    rw [splE_t hk, spl_t hk, spl_t hk, spl_t hk]
    have e : moT t = { t with d := 0, l := [], s := lvs t.l 4, i := lvs t.l 1, o := lvs t.l 0 } := by simp [moT, hk]
    rw [e]
    refine AWp.seq (AWp.seq (AWp.regionW T_ok rfl (WL.all (by simp (decide := true) only [EVs, EVt, Array.toList, eqI_self] <;> exact rfl) ?_)))
    refine AWp.cond (t := false) rfl (AWp.skip ?_)
    refine AWp.seq (AWp.regionW T_ok rfl (WL.all (by simp (decide := true) only [EVs, EVt, Array.toList] <;> exact rfl) ?_))
    refine AWp.seq (AWp.regionW T_ok rfl (WL.all (by simp (decide := true) only [EVs, EVt, Array.toList] <;> exact rfl) ?_))
    refine AWp.ret ⟨_, rfl, .inl ?_⟩
    exact .tup' (.cons (wkT { t with d := 0, l := [], s := lvs t.l 4, i := lvs t.l 1, o := lvs t.l 0 } _ _ _ _ _ _ _ _ (.inl rfl) (.inl rfl) (.inl rfl) (.inl rfl)) (.cons (.refl _) .nil))
theorem sp_MoThread (t : Th) (hl : t.l.length ≤ 100000) (h05 : ∀ p ∈ t.l, 0 ≤ p.l ∧ p.l ≤ 5) : ACall Try.prog 33 [thr t] (.tup [thr (moT t), i64 (splE t.d t.l)]) := by
  have f1 := sp_TSplit t.d t.l (by omega) h05
  refine acall_of Try.func33 rfl rfl (Nat.le_of_ble_eq_true rfl) T_ok (fun base w0 => ?_)
  refine AWp.seq (AWp.regionW T_ok rfl (WL.all (by simp (decide := true) only [EVs, EVt, Array.toList] <;> exact rfl) ?_))
  refine AWp.seq (AWp.regionW T_ok rfl ?_)
  (repeat (first | refine WL.c rfl rfl rfl (by simp (decide := true) only [EVs, EVt, Array.toList] <;> exact rfl) (by simp (decide := true) only [EVs, EVt, Array.toList, calleeOf] <;> exact rfl) (by simp (decide := true) only [EVs, EVt, Array.toList, argsOf, frz] <;> exact rfl) (by first | exact f1) rfl ?_ | refine WL.f rfl rfl rfl (by simp (decide := true) only [EVs, EVt, Array.toList] <;> exact rfl) (by simp (decide := true) only [EVs, EVt, Array.toList, calleeOf] <;> exact rfl) (by simp (decide := true) only [EVs, EVt, Array.toList, argsOf, frz] <;> exact rfl) (by first | exact f1) ?_ | refine WL.one (by simp (decide := true) only [EVs, EVt, Array.toList] <;> exact rfl) ?_)); refine WL.nil ?_
  cases hk : okS t.d t.l with
  | false =>
    rw [splE_f hk]
    have e : moT t = ⟨0, [], [], [], [], 0, 0, 0, 0, 0, 0, false⟩ := by simp [moT, hk]
    rw [e]
    refine AWp.seq (AWp.seq (AWp.regionW T_ok rfl (WL.all (by simp (decide := true) only [EVs, EVt, Array.toList, e14] <;> exact rfl) ?_)))
    refine AWp.cond (t := true) rfl (AWp.seq (AWp.regionW T_ok rfl (WL.all (by simp (decide := true) only [EVs, EVt, Array.toList] <;> exact rfl) ?_)))
    refine AWp.ret ⟨_, rfl, .inl ?_⟩
    exact .tup' (.cons (wkT ⟨0, [], [], [], [], 0, 0, 0, 0, 0, 0, false⟩ _ _ _ _ _ _ _ _ (.inr rfl) (.inr rfl) (.inr rfl) (.inr rfl)) (.cons (.refl _) .nil))
  | true =>
    rw [splE_t hk, spl_t hk, spl_t hk, spl_t hk]
    have e : moT t = { t with d := 0, l := [], s := lvs t.l 4, i := lvs t.l 1, o := lvs t.l 0 } := by simp [moT, hk]
    rw [e]
    refine AWp.seq (AWp.seq (AWp.regionW T_ok rfl (WL.all (by simp (decide := true) only [EVs, EVt, Array.toList, eqI_self] <;> exact rfl) ?_)))
    refine AWp.cond (t := false) rfl (AWp.skip ?_)
    refine AWp.seq (AWp.drawnK [none, some 4, none, some 1, none, some 1] T_ok mixed (by kernel_rfl) rfl (Nat.le_of_ble_eq_true rfl) (by simp (decide := true) only [EVs, EVt, Array.toList, List.zip_cons_cons, List.zip_nil_left, List.zip_nil_right, runK_nil, runK_cons, keyB, keyFits, dry, beq_self_eq_true, Bool.and_true, Bool.true_and, Bool.not_false] <;> exact rfl) ?_)
    refine AWp.seq (AWp.regionW T_ok rfl (WL.all (by simp (decide := true) only [EVs, EVt, Array.toList] <;> exact rfl) ?_))
    refine AWp.ret ⟨_, rfl, .inl ?_⟩
    exact .tup' (.cons (wkT { t with d := 0, l := [], s := lvs t.l 4, i := lvs t.l 1, o := lvs t.l 0 } _ _ _ _ _ _ _ _ (.inl rfl) (.inl rfl) (.inl rfl) (.inl rfl)) (.cons (.refl _) .nil))
theorem sp_MoObject (b : Ob) (hl : b.l.length ≤ 100000) (h05 : ∀ p ∈ b.l, 0 ≤ p.l ∧ p.l ≤ 5) (hd : b.dat.length ≤ 140737488351232) (hc : b.cats.length ≤ 70368744175616) (hr : b.ring.length ≤ 5864062014634) (hrd : ∀ x ∈ b.ring, x.length ≤ 140737488351232) :
    ACall Try.prog 31 [obj b] (.tup [obj (moO b), i64 (splE b.d b.l)]) := by
  have f1 := sp_TSplit b.d b.l (by omega) h05
  have f2 := sp_Clone8 b.dat hd
  have f3 := sp_Clone16 b.cats hc
  refine acall_of Try.func31 rfl rfl (Nat.le_of_ble_eq_true rfl) T_ok (fun base w0 => ?_)
  refine AWp.seq (AWp.regionW T_ok rfl (WL.all (by simp (decide := true) only [EVs, EVt, Array.toList] <;> exact rfl) ?_))
  refine AWp.seq (AWp.regionW T_ok rfl ?_)
  (repeat (first | refine WL.c rfl rfl rfl (by simp (decide := true) only [EVs, EVt, Array.toList] <;> exact rfl) (by simp (decide := true) only [EVs, EVt, Array.toList, calleeOf] <;> exact rfl) (by simp (decide := true) only [EVs, EVt, Array.toList, argsOf, frz] <;> exact rfl) (by first | exact f1) rfl ?_ | refine WL.f rfl rfl rfl (by simp (decide := true) only [EVs, EVt, Array.toList] <;> exact rfl) (by simp (decide := true) only [EVs, EVt, Array.toList, calleeOf] <;> exact rfl) (by simp (decide := true) only [EVs, EVt, Array.toList, argsOf, frz] <;> exact rfl) (by first | exact f1) ?_ | refine WL.one (by simp (decide := true) only [EVs, EVt, Array.toList] <;> exact rfl) ?_)); refine WL.nil ?_
  cases hk : okS b.d b.l with
  | false =>
    rw [splE_f hk]
    have e : moO b = ⟨0, 0, 0, [], [], [], [], 0, 0, 0, [], [], []⟩ := by simp [moO, hk]
    rw [e]
    refine AWp.seq (AWp.seq (AWp.regionW T_ok rfl (WL.all (by simp (decide := true) only [EVs, EVt, Array.toList, e14] <;> exact rfl) ?_)))
    refine AWp.cond (t := true) rfl (AWp.seq (AWp.regionW T_ok rfl (WL.all (by simp (decide := true) only [EVs, EVt, Array.toList] <;> exact rfl) ?_)))
    refine AWp.ret ⟨_, rfl, .inl ?_⟩
    exact .tup' (.cons (wkO ⟨0, 0, 0, [], [], [], [], 0, 0, 0, [], [], []⟩ _ _ _ _ _ _ _ _ _ _ _ _ _ _ (.inr rfl) (.inr rfl) (.inr rfl) (.inr rfl) (.inr rfl) (.inr rfl) (.inr rfl)) (.cons (.refl _) .nil))
  | true =>
    rw [splE_t hk, spl_t hk, spl_t hk, spl_t hk]
    have e : moO b = { b with d := 0, l := [], s := lvs b.l 4, i := lvs b.l 1, o := lvs b.l 0 } := by simp [moO, hk]
    rw [e]
    refine AWp.seq (AWp.seq (AWp.regionW T_ok rfl (WL.all (by simp (decide := true) only [EVs, EVt, Array.toList, eqI_self] <;> exact rfl) ?_)))
    refine AWp.cond (t := false) rfl (AWp.skip ?_)
    refine AWp.seq (AWp.drawnK [none, some 4, none, some 1, none, some 1] T_ok mixed (by kernel_rfl) rfl (Nat.le_of_ble_eq_true rfl) (by simp (decide := true) only [EVs, EVt, Array.toList, List.zip_cons_cons, List.zip_nil_left, List.zip_nil_right, runK_nil, runK_cons, keyB, keyFits, dry, beq_self_eq_true, Bool.and_true, Bool.true_and, Bool.not_false] <;> exact rfl) ?_)
    refine AWp.seqI (fun st => ∃ (q : Nat → AV) (B : Nat → Nat × List AV) (L : Nat → Nat) (o1 o2 : Own), st = ⟨47, 0, q, B, L⟩ ∧ q 1 = .ptr 1 1 0 ∧ q 2 = .ptr 2 1 0 ∧ B 2 = (1, [u64 0, i64 0, u8 0, .list 2 [] .full, .list 1 [] .full, .list 1 [] .full, .list 1 [] .full, i64 0, i64 0, i64 0, .list 1 [] .full, .list 1 [] .full, .list 1 [] .full]) ∧
      B 1 = (1, [u64 b.id, i64 b.kind, u8 0, .list 2 [] .full, l16 (lvs b.l 4), l16 (lvs b.l 1), l16 (lvs b.l 0), i64 b.q, i64 b.u, i64 b.x, .list 1 (b.dat.map u8) o1, .list 1 (b.cats.map u16) o2, lrg b.ring])) (AWp.drawnW T_ok mixed (by kernel_rfl) rfl ?_) ?_
    · (repeat (first | refine WL.c rfl rfl rfl (by simp (decide := true) only [EVs, EVt, Array.toList] <;> exact rfl) (by simp (decide := true) only [EVs, EVt, Array.toList, calleeOf] <;> exact rfl) (by simp (decide := true) only [EVs, EVt, Array.toList, argsOf, frz] <;> exact rfl) (by first | exact f2 | exact f3) rfl ?_ | refine WL.f rfl rfl rfl (by simp (decide := true) only [EVs, EVt, Array.toList] <;> exact rfl) (by simp (decide := true) only [EVs, EVt, Array.toList, calleeOf] <;> exact rfl) (by simp (decide := true) only [EVs, EVt, Array.toList, argsOf, frz] <;> exact rfl) (by first | exact f2 | exact f3) ?_ | refine WL.one (by simp (decide := true) only [EVs, EVt, Array.toList] <;> exact rfl) ?_)); refine WL.nil ?_
      exact ⟨_, _, _, _, _, rfl, rfl, rfl, rfl, rfl⟩
    rintro st ⟨q, B, L, o1, o2, rfl, q1, q2, B2, B1⟩
    refine AWp.seq (AWp.regionW T_ok rfl (WL.all (by simp (decide := true) only [EVs, EVt, Array.toList] <;> exact rfl) ?_))
    refine AWp.seqI (fun st => ∃ (q : Nat → AV) (L : Nat → Nat) (v : AV), st = ⟨47, 0, q, B, L⟩ ∧ q 1 = .ptr 1 1 0 ∧ q 2 = .ptr 2 1 0 ∧ q 6 = v ∧ Acc L v 1 (b.ring.map l8)) (AWp.seq (AWp.regionW T_ok rfl (WL.all (by simp (decide := true) only [EVs, EVt, Array.toList, q1, B1] <;> exact rfl) ?_))) ?_
    · refine AWp.block (AWp.loop (fun n st => ∃ (j : Nat) (q : Nat → AV) (L : Nat → Nat) (v : AV), st = ⟨47, 0, q, B, L⟩ ∧ j ≤ b.ring.length ∧ n = b.ring.length - j ∧ q 1 = .ptr 1 1 0 ∧ q 2 = .ptr 2 1 0 ∧ q 32 = lrg b.ring ∧ q 33 = i64 b.ring.length ∧ q 34 = i64 j ∧ q 6 = v ∧ AccK L 42 v 1 ((b.ring.take j).map l8)) ?_ (n := b.ring.length)
        ⟨0, _, _, .list 1 [] .full, rfl, Nat.zero_le _, rfl, ?_, ?_, ?_, ?_, ?_, ?_, AccK.nil _ _ _ _⟩)
      · rintro n st ⟨j, q, L, v, rfl, hj, rfl, q1, q2, q32, q33, q34, q6, hA⟩
        by_cases hlt : j < b.ring.length
        · have e1 : ltI (j : Int) (b.ring.length : Int) = true := ltI_t (by omega)
          have e2 := lrg_get b.ring j hlt
          have e7 := wup j (by omega)
          have f4 := sp_Clone8 b.ring[j] (hrd _ (List.getElem_mem hlt))
          refine AWp.seq (AWp.regionW T_ok rfl (WL.all (by simp (decide := true) only [EVs, EVt, Array.toList, q33, q34, e1] <;> exact rfl) ?_))
          refine AWp.seq (AWp.cond (t := true) rfl (AWp.skip ?_))
          refine AWp.seq (AWp.block (AWp.seq (AWp.regionW T_ok rfl (WL.all (by simp (decide := true) only [EVs, EVt, Array.toList, q32, q34, e2] <;> exact rfl) ?_))))
          refine (AWp.regionW T_ok rfl (WL.next 2 rfl rfl (by simp (decide := true) only [EVs, EVt, Array.toList, q6] <;> exact rfl) ?_))
          refine WL.f rfl rfl rfl rfl (by simp (decide := true) only [EVs, EVt, Array.toList, calleeOf] <;> exact rfl) (by simp (decide := true) only [EVs, EVt, Array.toList, argsOf, frz] <;> exact rfl) f4 ?_
          refine (WL.next 1 rfl rfl (by simp (decide := true) only [EVs, EVt, Array.toList] <;> exact rfl) ?_)
          refine WL.accK (e := 40) (xs := (b.ring.take j).map l8) (ys := [l8 b.ring[j]]) (sy := 1) (oy := .full) rfl rfl rfl rfl rfl rfl rfl T_u8ss rfl T_u8s (by simp (decide := true) only [EVs, EVt, Array.toList, q6]; exact hA.to (bumpL_ne _ _ _ (by decide))) (by simp (decide := true) only [EVs, EVt, Array.toList]) (.inl rfl) (by simp only [List.length_map, List.length_take, List.length_cons, List.length_nil]; omega) (by decide) (fun o1 L1 hA1 _ => ?_)
          refine (WL.all (by simp (decide := true) only [EVs, EVt, Array.toList] <;> exact rfl) ?_)
          refine (AWp.regionW T_ok rfl (WL.all (by simp (decide := true) only [EVs, EVt, Array.toList, q34, e7] <;> exact rfl) ?_))
          refine ⟨b.ring.length - (j + 1), by omega, j + 1, _, _, .list 1 ((b.ring.take j).map l8 ++ [l8 b.ring[j]]) o1, rfl, by omega, rfl, ?_, ?_, ?_, ?_, ?_, ?_, ?_⟩
          · simp (decide := true) only [EVs, EVt, Array.toList, q1]
          · simp (decide := true) only [EVs, EVt, Array.toList, q2]
          · simp (decide := true) only [EVs, EVt, Array.toList, q32]
          · simp (decide := true) only [EVs, EVt, Array.toList, q33]
          · simp (decide := true) only [EVs, EVt, Array.toList]
          · simp (decide := true) only [EVs, EVt, Array.toList]
          · rw [take_snoc b.ring j hlt, List.map_append]; exact hA1
        · obtain rfl : j = b.ring.length := by omega
          have e1 : ltI (b.ring.length : Int) (b.ring.length : Int) = false := ltI_f (by omega)
          rw [List.take_length] at hA
          refine AWp.seq (AWp.regionW T_ok rfl (WL.all (by simp (decide := true) only [EVs, EVt, Array.toList, q33, q34, e1] <;> exact rfl) ?_))
          refine AWp.seq (AWp.cond (t := false) rfl (AWp.exit ?_))
          refine ⟨_, L, v, rfl, ?_, ?_, ?_, hA.acc⟩
          · simp (decide := true) only [EVs, EVt, Array.toList, q1]
          · simp (decide := true) only [EVs, EVt, Array.toList, q2]
          · simp (decide := true) only [EVs, EVt, Array.toList, q6]
      · simp (decide := true) only [EVs, EVt, Array.toList, q1]
      · simp (decide := true) only [EVs, EVt, Array.toList, q2]
      · simp (decide := true) only [EVs, EVt, Array.toList]
      · simp (decide := true) only [EVs, EVt, Array.toList]
      · simp (decide := true) only [EVs, EVt, Array.toList] <;> rfl
      · simp (decide := true) only [EVs, EVt, Array.toList] <;> rfl
    rintro st ⟨q, L, v, rfl, q1, q2, q6, ov, sx, rfl, hacc⟩
    have hw : sx = 1 ∨ b.ring.map l8 = [] := by
      rcases hacc with ⟨_, h | h⟩ | ⟨_, _, h⟩
      · exact .inr h
      · exact .inl h
      · exact .inl h
    refine AWp.seq (AWp.regionW T_ok rfl (WL.all (by simp (decide := true) only [EVs, EVt, Array.toList, q1, q6, B1] <;> exact rfl) ?_))
    refine AWp.seq (AWp.regionW T_ok rfl (WL.all (by simp (decide := true) only [EVs, EVt, Array.toList, q1, q2, B2] <;> exact rfl) ?_))
    refine AWp.ret ⟨_, by show (List.mapM (ares1 T _) [.cell 2 43, .tmp 3]).map (fun vs => AV.tup (vs.map AV.data)) = some _; simp (decide := true) only [EVs, EVt, Array.toList, ares1, mapM_2, q2, B2]; exact rfl, .inl ?_⟩
    exact .tup' (.cons (wkO { b with d := 0, l := [], s := lvs b.l 4, i := lvs b.l 1, o := lvs b.l 0 } _ _ _ _ _ _ _ _ _ _ _ _ _ _ (.inr rfl) (.inl rfl) (.inl rfl) (.inl rfl) (.inl rfl) (.inl rfl) hw) (.cons (.refl _) .nil))
end Go.Proofs.Ytfgndnackofenaa.E
