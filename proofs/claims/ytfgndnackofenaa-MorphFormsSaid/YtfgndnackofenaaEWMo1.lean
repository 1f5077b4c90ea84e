/-
  Copies, names, letters, which objects may be, walked in abstract values. Conditions: lengths.
-/
import Derived.Test.YtfgndnackofenaaE24
import Derived.Test.YtfgndnackofenaaEM14
import Derived.Test.YtfgndnackofenaaEWRMay1
import Derived.Test.YtfgndnackofenaaEWSets2
import Derived.Test.YtfgndnackofenaaEWCan
namespace Go.Proofs.Ytfgndnackofenaa.E
open Go Go.RowKit Go.Proofs.YtfgndnackofenaaW.E
set_option linter.unusedVariables false
set_option linter.unusedSimpArgs false
set_option maxRecDepth 100000
set_option maxHeartbeats 4000000

theorem abin_quo {P : Program} {t : TypeId} {x y : Operand} {k : IntKind} {a b : Int} (hb : b ≠ 0) : abin P .quo t x y (.int k a) (.int k b) = some (.int k (k.wrap (a.tdiv b))) := by
  simp [abin, eqGuard, binOp, pureRun, Op.intDiv, bind, Sem.bind, pure, hb]
theorem abin_neS {P : Program} {t : TypeId} {x y : Operand} {a b : ByteArray} : abin P .neq t x y (.string a) (.string b) = some (.bool (!eqS a b)) := by
  have h : (a != b) = !eqS a b := rfl
  simp [abin, eqGuard, binOp, Op.stringOp, pureRun, bind, Sem.bind, pure, eqS, beq_toListBytes, bne]
theorem mb8 (l : List Int) : (l.map u8).mapM byt = some l := mapM_byt_map l

theorem sp_Clone8 (l : List Int) (hl : l.length ≤ 140737488351232) : ACall Try.prog 74 [.list 1 (l.map u8) .no] (.list 1 (l.map u8) fresh) := by
  refine acall_of Try.func74 rfl rfl (Nat.le_of_ble_eq_true rfl) T_ok (fun base w0 => ?_)
  cases l with
  | nil =>
    refine AWp.seq (AWp.regionW T_ok rfl (WL.all (by simp (decide := true) only [EVs, EVt, Array.toList] <;> exact rfl) ?_))
    refine AWp.slnil (t := 0) (sz := 1) (ow := .no) rfl (fun A k => ?_)
    cases A with
    | none =>
      refine AWp.seq (AWp.seq (AWp.regionW T_ok rfl (WL.all (by simp (decide := true) only [EVs, EVt, Array.toList, anilt] <;> exact rfl) ?_)))
      refine AWp.cond (t := true) rfl (AWp.seq (AWp.regionW T_ok rfl (WL.all (by simp (decide := true) only [EVs, EVt, Array.toList] <;> exact rfl) ?_)))
      exact AWp.ret ⟨_, rfl, .inr ⟨1, _, rfl, ⟨_, _, rfl, .inl ⟨rfl, .inl rfl⟩⟩⟩⟩
    | some A =>
      refine AWp.seq (AWp.seq (AWp.regionW T_ok rfl (WL.all (by simp (decide := true) only [EVs, EVt, Array.toList, anilt] <;> exact rfl) ?_)))
      refine AWp.cond (t := false) rfl (AWp.skip ?_)
      refine AWp.slback (t := 0) (k := k) 1 (A := some A) rfl ?_
      refine AWp.seq (AWp.regionW T_ok rfl (WL.next 2 rfl rfl (by simp (decide := true) only [EVs, EVt, Array.toList] <;> exact rfl) ?_))
      refine WL.acc (e := 5) (xs := []) (ys := []) (sy := 1) (oy := .no) rfl rfl rfl rfl rfl rfl rfl T_u8s rfl T_u8 (by simp (decide := true) only [EVs, EVt, Array.toList]; exact ⟨_, _, rfl, .inl ⟨rfl, .inl rfl⟩⟩) (by simp (decide := true) only [EVs, EVt, Array.toList]) (.inl rfl) (by simp) (by decide) (fun v L1 hA1 => ?_)
      refine (WL.all (by simp (decide := true) only [EVs, EVt, Array.toList] <;> exact rfl) ?_)
      refine AWp.ret ⟨_, rfl, .inr ⟨1, _, rfl, ?_⟩⟩
      simp (decide := true) only [EVs, EVt, Array.toList]
      exact hA1
  | cons x l =>
    refine AWp.seq (AWp.regionW T_ok rfl (WL.all (by simp (decide := true) only [EVs, EVt, Array.toList] <;> exact rfl) ?_))
    refine AWp.seq (AWp.seq (AWp.regionW T_ok rfl (WL.all (by simp (decide := true) only [EVs, EVt, Array.toList, anilt] <;> exact rfl) ?_)))
    refine AWp.cond (t := false) rfl (AWp.skip ?_)
    refine AWp.seq (AWp.regionW T_ok rfl (WL.next 2 rfl rfl (by simp (decide := true) only [EVs, EVt, Array.toList] <;> exact rfl) ?_))
    refine WL.acc (e := 5) (xs := []) (ys := (x :: l).map u8) (sy := 1) (oy := .no) rfl rfl rfl rfl rfl rfl rfl T_u8s rfl T_u8 (by simp (decide := true) only [EVs, EVt, Array.toList]; exact ⟨_, _, rfl, .inl ⟨rfl, .inl rfl⟩⟩) rfl (.inl rfl) (by simp at hl ⊢; omega) (by decide) (fun v L1 hA1 => ?_)
    refine (WL.all (by simp (decide := true) only [EVs, EVt, Array.toList] <;> exact rfl) ?_)
    refine AWp.ret ⟨_, rfl, .inr ⟨1, _, rfl, ?_⟩⟩
    simp (decide := true) only [EVs, EVt, Array.toList]
    exact hA1
theorem sp_Clone16 (l : List Int) (hl : l.length ≤ 70368744175616) : ACall Try.prog 75 [.list 1 (l.map u16) .no] (.list 1 (l.map u16) fresh) := by
  refine acall_of Try.func75 rfl rfl (Nat.le_of_ble_eq_true rfl) T_ok (fun base w0 => ?_)
  cases l with
  | nil =>
    refine AWp.seq (AWp.regionW T_ok rfl (WL.all (by simp (decide := true) only [EVs, EVt, Array.toList] <;> exact rfl) ?_))
    refine AWp.slnil (t := 0) (sz := 1) (ow := .no) rfl (fun A k => ?_)
    cases A with
    | none =>
      refine AWp.seq (AWp.seq (AWp.regionW T_ok rfl (WL.all (by simp (decide := true) only [EVs, EVt, Array.toList, anilt] <;> exact rfl) ?_)))
      refine AWp.cond (t := true) rfl (AWp.seq (AWp.regionW T_ok rfl (WL.all (by simp (decide := true) only [EVs, EVt, Array.toList] <;> exact rfl) ?_)))
      exact AWp.ret ⟨_, rfl, .inr ⟨1, _, rfl, ⟨_, _, rfl, .inl ⟨rfl, .inl rfl⟩⟩⟩⟩
    | some A =>
      refine AWp.seq (AWp.seq (AWp.regionW T_ok rfl (WL.all (by simp (decide := true) only [EVs, EVt, Array.toList, anilt] <;> exact rfl) ?_)))
      refine AWp.cond (t := false) rfl (AWp.skip ?_)
      refine AWp.slback (t := 0) (k := k) 1 (A := some A) rfl ?_
      refine AWp.seq (AWp.regionW T_ok rfl (WL.next 2 rfl rfl (by simp (decide := true) only [EVs, EVt, Array.toList] <;> exact rfl) ?_))
      refine WL.acc (e := 33) (xs := []) (ys := []) (sy := 1) (oy := .no) rfl rfl rfl rfl rfl rfl rfl T_u16s rfl T_u16 (by simp (decide := true) only [EVs, EVt, Array.toList]; exact ⟨_, _, rfl, .inl ⟨rfl, .inl rfl⟩⟩) (by simp (decide := true) only [EVs, EVt, Array.toList]) (.inl rfl) (by simp) (by decide) (fun v L1 hA1 => ?_)
      refine (WL.all (by simp (decide := true) only [EVs, EVt, Array.toList] <;> exact rfl) ?_)
      refine AWp.ret ⟨_, rfl, .inr ⟨1, _, rfl, ?_⟩⟩
      simp (decide := true) only [EVs, EVt, Array.toList]
      exact hA1
  | cons x l =>
    refine AWp.seq (AWp.regionW T_ok rfl (WL.all (by simp (decide := true) only [EVs, EVt, Array.toList] <;> exact rfl) ?_))
    refine AWp.seq (AWp.seq (AWp.regionW T_ok rfl (WL.all (by simp (decide := true) only [EVs, EVt, Array.toList, anilt] <;> exact rfl) ?_)))
    refine AWp.cond (t := false) rfl (AWp.skip ?_)
    refine AWp.seq (AWp.regionW T_ok rfl (WL.next 2 rfl rfl (by simp (decide := true) only [EVs, EVt, Array.toList] <;> exact rfl) ?_))
    refine WL.acc (e := 33) (xs := []) (ys := (x :: l).map u16) (sy := 1) (oy := .no) rfl rfl rfl rfl rfl rfl rfl T_u16s rfl T_u16 (by simp (decide := true) only [EVs, EVt, Array.toList]; exact ⟨_, _, rfl, .inl ⟨rfl, .inl rfl⟩⟩) rfl (.inl rfl) (by simp at hl ⊢; omega) (by decide) (fun v L1 hA1 => ?_)
    refine (WL.all (by simp (decide := true) only [EVs, EVt, Array.toList] <;> exact rfl) ?_)
    refine AWp.ret ⟨_, rfl, .inr ⟨1, _, rfl, ?_⟩⟩
    simp (decide := true) only [EVs, EVt, Array.toList]
    exact hA1
theorem sp_RPath (id : Int) : ACall Try.prog 58 [u64 id] (.list 1 ((pth 20 id []).map u64) fresh) := by
  refine acall_of Try.func58 rfl rfl (Nat.le_of_ble_eq_true rfl) T_ok (fun base w0 => ?_)
  refine AWp.seq (AWp.regionW T_ok rfl (WL.all (by simp (decide := true) only [EVs, EVt, Array.toList] <;> exact rfl) ?_))
  refine AWp.seq (AWp.regionW T_ok rfl (WL.all (by simp (decide := true) only [EVs, EVt, Array.toList] <;> exact rfl) ?_))
  refine AWp.seqI (fun st => ∃ (k : Nat) (cur : Int) (l : List Int) (q : Nat → AV) (B : Nat → Nat × List AV) (L : Nat → Nat) (v : AV), st = ⟨32, 0, q, B, L⟩ ∧ k ≤ 20 ∧ l.length = k ∧ q 0 = u64 cur ∧ q 3 = v ∧ Acc L v 1 (l.map u64) ∧ ¬ (1 < cur ∧ k < 20) ∧ pth (20 - k) cur l = pth 20 id []) (AWp.seq (AWp.regionW T_ok rfl (WL.all (by simp (decide := true) only [EVs, EVt, Array.toList] <;> exact rfl) ?_))) ?_
  · refine AWp.block (AWp.loop (fun n st => ∃ (k : Nat) (cur : Int) (l : List Int) (q : Nat → AV) (B : Nat → Nat × List AV) (L : Nat → Nat) (v : AV), st = ⟨32, 0, q, B, L⟩ ∧ k ≤ 20 ∧ n = 20 - k ∧ l.length = k ∧ q 0 = u64 cur ∧ q 3 = v ∧ q 4 = i64 k ∧ Acc L v 1 (l.map u64) ∧ pth (20 - k) cur l = pth 20 id []) ?_ (n := 20)
      ⟨0, id, [], _, _, _, .list 1 [] .full, rfl, by omega, rfl, rfl, rfl, rfl, rfl, ⟨_, _, rfl, .inl ⟨rfl, .inl rfl⟩⟩, rfl⟩)
    rintro n st ⟨k, cur, l, q, B, L, v, rfl, hk, rfl, hlen, q0, q3, q4, hA, hp⟩
    have e7 := wup k (by omega)
    by_cases hc : 1 < cur
    · have c1 : ltI 1 cur = true := ltI_t hc
      by_cases hk2 : k < 20
      · have c2 : ltI (k : Int) 20 = true := ltI_t (by omega)
        obtain ⟨m, hm⟩ : ∃ m, 20 - k = m + 1 := ⟨20 - (k + 1), by omega⟩
        rw [hm, pth, if_pos hc] at hp
        refine AWp.seq (AWp.seq (AWp.regionW T_ok rfl (WL.all (by simp (decide := true) only [EVs, EVt, Array.toList, q0, q4, c1, c2] <;> exact rfl) ?_)))
        refine AWp.cond (t := true) rfl (AWp.skip ?_)
        by_cases hz : cur.tmod 64 = 0
        · have c3 : eqI (cur.tmod 64) 0 = true := eqI_t hz
          rw [if_pos hz] at hp
          refine AWp.seq (AWp.block (AWp.seq (AWp.seq (AWp.regionW T_ok rfl (WL.all (by simp (decide := true) only [EVs, EVt, Array.toList, q0, abin_rem (P := Try.prog) (k := .u64) (show (64 : Int) ≠ 0 by decide), c3] <;> exact rfl) ?_)))))
          refine AWp.cond (t := true) rfl (AWp.seq (AWp.regionW T_ok rfl (WL.all (by simp (decide := true) only [EVs, EVt, Array.toList] <;> exact rfl) ?_)))
          refine AWp.ret ⟨_, rfl, .inr ⟨1, _, rfl, ?_⟩⟩
          rw [← hp]
          exact ⟨_, _, rfl, .inl ⟨rfl, .inl rfl⟩⟩
        · have c3 : eqI (cur.tmod 64) 0 = false := eqI_f hz
          rw [if_neg hz] at hp
          obtain ⟨ow, sx, rfl, hacc⟩ := hA
          have hw : sx = 1 ∨ l.map u64 = [] := by
            rcases hacc with ⟨_, h | h⟩ | ⟨_, _, h⟩
            · exact .inr h
            · exact .inl h
            · exact .inl h
          refine AWp.seq (AWp.block (AWp.seq (AWp.seq (AWp.regionW T_ok rfl (WL.all (by simp (decide := true) only [EVs, EVt, Array.toList, q0, abin_rem (P := Try.prog) (k := .u64) (show (64 : Int) ≠ 0 by decide), c3] <;> exact rfl) ?_)))))
          refine AWp.cond (t := false) rfl (AWp.skip ?_)
          refine AWp.seq (AWp.regionW T_ok rfl (WL.next 3 rfl rfl (by simp (decide := true) only [EVs, EVt, Array.toList, q0, q3] <;> exact rfl) ?_))
          refine WL.acc (e := 36) (xs := [u64 cur]) (ys := l.map u64) (sy := sx) (oy := ow) rfl rfl rfl rfl rfl rfl rfl T_u64s rfl T_u64 (by simp (decide := true) only [EVs, EVt, Array.toList]; exact ⟨_, _, rfl, .inl ⟨rfl, .inr rfl⟩⟩) (by simp (decide := true) only [EVs, EVt, Array.toList]) hw (by simp only [List.length_cons, List.length_nil, List.length_map]; omega) (by decide) (fun v1 L1 hA1 => ?_)
          refine (WL.all (by simp (decide := true) only [EVs, EVt, Array.toList] <;> exact rfl) ?_)
          refine (AWp.regionW T_ok rfl (WL.all (by simp (decide := true) only [EVs, EVt, Array.toList, q0, abin_quo (P := Try.prog) (k := .u64) (show (64 : Int) ≠ 0 by decide)] <;> exact rfl) ?_))
          refine (AWp.regionW T_ok rfl (WL.all (by simp (decide := true) only [EVs, EVt, Array.toList, q4, e7] <;> exact rfl) ?_))
          refine ⟨20 - (k + 1), by omega, k + 1, IntKind.u64.wrap (cur.tdiv 64), cur :: l, _, _, _, v1, rfl, by omega, rfl, by rw [List.length_cons, hlen], ?_, ?_, ?_, hA1, ?_⟩
          · simp (decide := true) only [EVs, EVt, Array.toList]
          · simp (decide := true) only [EVs, EVt, Array.toList]
          · simp (decide := true) only [EVs, EVt, Array.toList]
          · rw [show 20 - (k + 1) = m by omega]; exact hp
      · have c2 : ltI (k : Int) 20 = false := ltI_f (by omega)
        refine AWp.seq (AWp.seq (AWp.regionW T_ok rfl (WL.all (by simp (decide := true) only [EVs, EVt, Array.toList, q0, q4, c1, c2] <;> exact rfl) ?_)))
        refine AWp.cond (t := false) rfl (AWp.exit ?_)
        refine ⟨k, cur, l, _, B, L, v, rfl, hk, hlen, ?_, ?_, hA, by omega, hp⟩
        · simp (decide := true) only [EVs, EVt, Array.toList, q0]
        · simp (decide := true) only [EVs, EVt, Array.toList, q3]
    · have c1 : ltI 1 cur = false := ltI_f hc
      refine AWp.seq (AWp.seq (AWp.regionW T_ok rfl (WL.all (by simp (decide := true) only [EVs, EVt, Array.toList, q0, q4, c1] <;> exact rfl) ?_)))
      refine AWp.cond (t := false) rfl (AWp.exit ?_)
      refine ⟨k, cur, l, _, B, L, v, rfl, hk, hlen, ?_, ?_, hA, by omega, hp⟩
      · simp (decide := true) only [EVs, EVt, Array.toList, q0]
      · simp (decide := true) only [EVs, EVt, Array.toList, q3]
  rintro st ⟨k, cur, l, q, B, L, v, rfl, hk, hlen, q0, q3, hA, hs, hp⟩
  rw [pth_stop (by omega)] at hp
  obtain ⟨ow, sx, rfl, hacc⟩ := hA
  have hw : sx = 1 ∨ l.map u64 = [] := by
    rcases hacc with ⟨_, h | h⟩ | ⟨_, _, h⟩
    · exact .inr h
    · exact .inl h
    · exact .inl h
  by_cases h1 : cur = 1
  · have c1 : eqI cur 1 = true := eqI_t h1
    by_cases h6 : l.length ≤ 6
    · have c2 : ltI 6 (l.length : Int) = false := ltI_f (by omega)
      rw [if_pos ⟨h1, h6⟩] at hp
      refine AWp.seq (AWp.seq (AWp.regionW T_ok rfl (WL.all (by simp (decide := true) only [EVs, EVt, Array.toList, q0, q3, c1, c2] <;> exact rfl) ?_)))
      refine AWp.cond (t := false) rfl (AWp.skip ?_)
      refine AWp.seq (AWp.regionW T_ok rfl (WL.next 2 rfl rfl (by simp (decide := true) only [EVs, EVt, Array.toList, q3] <;> exact rfl) ?_))
      refine WL.acc (e := 36) (xs := [u64 1]) (ys := l.map u64) (sy := sx) (oy := ow) rfl rfl rfl rfl rfl rfl rfl T_u64s rfl T_u64 (by simp (decide := true) only [EVs, EVt, Array.toList]; exact ⟨_, _, rfl, .inl ⟨rfl, .inr rfl⟩⟩) (by simp (decide := true) only [EVs, EVt, Array.toList]) hw (by simp only [List.length_cons, List.length_nil, List.length_map]; omega) (by decide) (fun v1 L1 hA1 => ?_)
      refine (WL.all (by simp (decide := true) only [EVs, EVt, Array.toList] <;> exact rfl) ?_)
      refine AWp.ret ⟨_, rfl, .inr ⟨1, _, rfl, ?_⟩⟩
      rw [← hp]
      simp (decide := true) only [EVs, EVt, Array.toList]
      exact hA1
    · have c2 : ltI 6 (l.length : Int) = true := ltI_t (by omega)
      rw [if_neg (fun h => h6 h.2)] at hp
      refine AWp.seq (AWp.seq (AWp.regionW T_ok rfl (WL.all (by simp (decide := true) only [EVs, EVt, Array.toList, q0, q3, c1, c2] <;> exact rfl) ?_)))
      refine AWp.cond (t := true) rfl (AWp.seq (AWp.regionW T_ok rfl (WL.all (by simp (decide := true) only [EVs, EVt, Array.toList] <;> exact rfl) ?_)))
      refine AWp.ret ⟨_, rfl, .inr ⟨1, _, rfl, ?_⟩⟩
      rw [← hp]
      exact ⟨_, _, rfl, .inl ⟨rfl, .inl rfl⟩⟩
  · have c1 : eqI cur 1 = false := eqI_f h1
    rw [if_neg (fun h => h1 h.1)] at hp
    refine AWp.seq (AWp.seq (AWp.regionW T_ok rfl (WL.all (by simp (decide := true) only [EVs, EVt, Array.toList, q0, q3, c1] <;> exact rfl) ?_)))
    refine AWp.cond (t := true) rfl (AWp.seq (AWp.regionW T_ok rfl (WL.all (by simp (decide := true) only [EVs, EVt, Array.toList] <;> exact rfl) ?_)))
    refine AWp.ret ⟨_, rfl, .inr ⟨1, _, rfl, ?_⟩⟩
    rw [← hp]
    exact ⟨_, _, rfl, .inl ⟨rfl, .inl rfl⟩⟩
theorem sp_RMayN (id : Int) : ACall Try.prog 49 [u64 id] (bo (mayN id)) := by
  refine acall_of Try.func49 rfl rfl (Nat.le_of_ble_eq_true rfl) T_ok (fun base w0 => ?_)
  refine AWp.seq (AWp.regionW T_ok rfl (WL.all (by simp (decide := true) only [EVs, EVt, Array.toList] <;> exact rfl) ?_))
  refine AWp.seq (AWp.regionW T_ok rfl ?_)
  (repeat (first | refine WL.c rfl rfl rfl (by simp (decide := true) only [EVs, EVt, Array.toList] <;> exact rfl) (by simp (decide := true) only [EVs, EVt, Array.toList, calleeOf] <;> exact rfl) (by simp (decide := true) only [EVs, EVt, Array.toList, argsOf, frz] <;> exact rfl) (by first | exact sp_RPath id) rfl ?_ | refine WL.f rfl rfl rfl (by simp (decide := true) only [EVs, EVt, Array.toList] <;> exact rfl) (by simp (decide := true) only [EVs, EVt, Array.toList, calleeOf] <;> exact rfl) (by simp (decide := true) only [EVs, EVt, Array.toList, argsOf, frz] <;> exact rfl) (by first | exact sp_RPath id) ?_ | refine WL.one (by simp (decide := true) only [EVs, EVt, Array.toList] <;> exact rfl) ?_)); refine WL.nil ?_
  exact AWp.ret ⟨_, rfl, .inl (.refl _)⟩
theorem lrg_get (r : List (List Int)) (j : Nat) (h : j < r.length) : (r.map l8)[j]? = some (l8 r[j]) := by simp [h]
theorem rg_all (r : List (List Int)) (j : Nat) (h : j < r.length) : ((r.take (j + 1)).all fun b => !ltI 16 (b.length : Int)) = (((r.take j).all fun b => !ltI 16 (b.length : Int)) && !ltI 16 (r[j].length : Int)) := by
  rw [take_snoc r j h, List.all_append]; simp
theorem sp_MayRing (r : List (List Int)) (hl : r.length ≤ 140737488351232) : ACall Try.prog 93 [lrg r] (bo (mayRg r)) := by
  refine acall_of Try.func93 rfl rfl (Nat.le_of_ble_eq_true rfl) T_ok (fun base w0 => ?_)
  refine AWp.seq (AWp.regionW T_ok rfl (WL.all (by simp (decide := true) only [EVs, EVt, Array.toList] <;> exact rfl) ?_))
  refine AWp.seq (AWp.seq (AWp.regionW T_ok rfl (WL.all (by simp (decide := true) only [EVs, EVt, Array.toList] <;> exact rfl) ?_)))
  refine AWp.block (AWp.loop (fun n st => ∃ (j : Nat) (q : Nat → AV) (B : Nat → Nat × List AV) (L : Nat → Nat), st = ⟨19, 0, q, B, L⟩ ∧ j ≤ r.length ∧ n = r.length - j ∧ q 0 = lrg r ∧ q 3 = i64 j ∧ ((r.take j).all fun b => !ltI 16 (b.length : Int)) = true) ?_ (n := r.length)
    ⟨0, _, _, _, rfl, Nat.zero_le _, rfl, rfl, rfl, by simp⟩)
  rintro n st ⟨j, q, B, L, rfl, hj, rfl, q0, q3, hg⟩
  by_cases hlt : j < r.length
  · have e1 : ltI (j : Int) (r.length : Int) = true := ltI_t (by omega)
    have e2 := lrg_get r j hlt
    have e7 := wup j (by omega)
    have hs := rg_all r j hlt
    rw [hg, Bool.true_and] at hs
    refine AWp.seq (AWp.seq (AWp.regionW T_ok rfl (WL.all (by simp (decide := true) only [EVs, EVt, Array.toList, q0, q3, e1] <;> exact rfl) ?_)))
    refine AWp.cond (t := true) rfl (AWp.skip ?_)
    cases h16 : ltI 16 (r[j].length : Int) with
    | true =>
      rw [h16] at hs
      have hf : mayRg r = false := by
        have : (r.all fun b => !ltI 16 (b.length : Int)) = false := by
          rw [List.all_eq_false]
          exact ⟨r[j], List.getElem_mem hlt, by rw [h16]; simp⟩
        simp [mayRg, this]
      refine AWp.seq (AWp.block (AWp.seq (AWp.regionW T_ok rfl (WL.all (by simp (decide := true) only [EVs, EVt, Array.toList, q0, q3, e2, h16] <;> exact rfl) ?_))))
      refine AWp.cond (t := true) rfl (AWp.seq (AWp.regionW T_ok rfl (WL.all (by simp (decide := true) only [EVs, EVt, Array.toList] <;> exact rfl) ?_)))
      refine AWp.ret ⟨_, rfl, .inl ?_⟩
      rw [hf]; exact .refl _
    | false =>
      rw [h16] at hs
      refine AWp.seq (AWp.block (AWp.seq (AWp.regionW T_ok rfl (WL.all (by simp (decide := true) only [EVs, EVt, Array.toList, q0, q3, e2, h16] <;> exact rfl) ?_))))
      refine AWp.cond (t := false) rfl (AWp.skip ?_)
      refine (AWp.regionW T_ok rfl (WL.all (by simp (decide := true) only [EVs, EVt, Array.toList, q3, e7] <;> exact rfl) ?_))
      refine ⟨r.length - (j + 1), by omega, j + 1, _, _, _, rfl, by omega, rfl, ?_, ?_, hs⟩
      · simp (decide := true) only [EVs, EVt, Array.toList, q0]
      · simp (decide := true) only [EVs, EVt, Array.toList]
  · obtain rfl : j = r.length := by omega
    have e1 : ltI (r.length : Int) (r.length : Int) = false := ltI_f (by omega)
    rw [List.take_length] at hg
    refine AWp.seq (AWp.seq (AWp.regionW T_ok rfl (WL.all (by simp (decide := true) only [EVs, EVt, Array.toList, q0, q3, e1] <;> exact rfl) ?_)))
    refine AWp.cond (t := false) rfl (AWp.exit ?_)
    refine AWp.seq (AWp.regionW T_ok rfl (WL.all (by simp (decide := true) only [EVs, EVt, Array.toList, q0] <;> exact rfl) ?_))
    refine AWp.ret ⟨_, by show some _ = some _; simp (decide := true) only [EVs, EVt, Array.toList]; exact rfl, .inl ?_⟩
    have : mayRg r = leI (r.length : Int) 4 := by simp [mayRg, hg]
    rw [this]; exact .refl _
theorem sp_SameRing (r : List (List Int)) (hl : r.length ≤ 140737488351232) : ACall Try.prog 43 [lrg r, lrg r] (bo true) := by
  refine acall_of Try.func43 rfl rfl (Nat.le_of_ble_eq_true rfl) T_ok (fun base w0 => ?_)
  refine AWp.seq (AWp.regionW T_ok rfl (WL.all (by simp (decide := true) only [EVs, EVt, Array.toList] <;> exact rfl) ?_))
  refine AWp.seq (AWp.seq (AWp.regionW T_ok rfl (WL.all (by simp (decide := true) only [EVs, EVt, Array.toList, eqI_self] <;> exact rfl) ?_)))
  refine AWp.cond (t := false) rfl (AWp.skip ?_)
  refine AWp.seq (AWp.seq (AWp.regionW T_ok rfl (WL.all (by simp (decide := true) only [EVs, EVt, Array.toList] <;> exact rfl) ?_)))
  refine AWp.block (AWp.loop (fun n st => ∃ (j : Nat) (q : Nat → AV) (B : Nat → Nat × List AV) (L : Nat → Nat), st = ⟨28, 0, q, B, L⟩ ∧ j ≤ r.length ∧ n = r.length - j ∧ q 0 = lrg r ∧ q 1 = lrg r ∧ q 5 = i64 j) ?_ (n := r.length)
    ⟨0, _, _, _, rfl, Nat.zero_le _, rfl, rfl, rfl, rfl⟩)
  rintro n st ⟨j, q, B, L, rfl, hj, rfl, q0, q1, q5⟩
  by_cases hlt : j < r.length
  · have e1 : ltI (j : Int) (r.length : Int) = true := ltI_t (by omega)
    have e2 := lrg_get r j hlt
    have e7 := wup j (by omega)
    refine AWp.seq (AWp.seq (AWp.regionW T_ok rfl (WL.all (by simp (decide := true) only [EVs, EVt, Array.toList, q0, q5, e1] <;> exact rfl) ?_)))
    refine AWp.cond (t := true) rfl (AWp.skip ?_)
    refine AWp.seq (AWp.block (AWp.seq (AWp.drawnW T_ok mixed (by kernel_rfl) rfl (WL.all (by simp (decide := true) only [EVs, EVt, Array.toList, q0, q1, q5, e2, mb8, abin_neS, eqS_self] <;> exact rfl) ?_))))
    refine AWp.cond (t := false) rfl (AWp.skip ?_)
    refine (AWp.regionW T_ok rfl (WL.all (by simp (decide := true) only [EVs, EVt, Array.toList, q5, e7] <;> exact rfl) ?_))
    refine ⟨r.length - (j + 1), by omega, j + 1, _, _, _, rfl, by omega, rfl, ?_, ?_, ?_⟩
    · simp (decide := true) only [EVs, EVt, Array.toList, q0]
    · simp (decide := true) only [EVs, EVt, Array.toList, q1]
    · simp (decide := true) only [EVs, EVt, Array.toList]
  · obtain rfl : j = r.length := by omega
    have e1 : ltI (r.length : Int) (r.length : Int) = false := ltI_f (by omega)
    refine AWp.seq (AWp.seq (AWp.regionW T_ok rfl (WL.all (by simp (decide := true) only [EVs, EVt, Array.toList, q0, q5, e1] <;> exact rfl) ?_)))
    refine AWp.cond (t := false) rfl (AWp.exit ?_)
    refine AWp.seq (AWp.regionW T_ok rfl (WL.all (by simp (decide := true) only [EVs, EVt, Array.toList] <;> exact rfl) ?_))
    exact AWp.ret ⟨_, rfl, .inl (.refl _)⟩
theorem sp_plain (b : Ob) (hc : b.cats.length ≤ 70368744175616) (hr : b.ring.length ≤ 140737488351232) : ACall Try.prog 70 [obj b] (bo (plainO b)) := by
  have f1 := sp_RMayN b.id
  have f2 : ACall Try.prog 61 [l16 b.cats] (bo (mayC b.cats)) := sp_MaySet b.cats (by omega)
  have f3 := sp_MayRing b.ring hr
  refine acall_of Try.func70 rfl rfl (Nat.le_of_ble_eq_true rfl) T_ok (fun base w0 => ?_)
  refine AWp.seq (AWp.regionW T_ok rfl (WL.all (by simp (decide := true) only [EVs, EVt, Array.toList] <;> exact rfl) ?_))
  cases hN : mayN b.id with
  | false =>
    rw [hN] at f1
    refine AWp.seq (AWp.seq (AWp.regionW T_ok rfl ?_))
    (repeat (first | refine WL.c rfl rfl rfl (by simp (decide := true) only [EVs, EVt, Array.toList] <;> exact rfl) (by simp (decide := true) only [EVs, EVt, Array.toList, calleeOf] <;> exact rfl) (by simp (decide := true) only [EVs, EVt, Array.toList, argsOf, frz] <;> exact rfl) (by first | exact f1) rfl ?_ | refine WL.f rfl rfl rfl (by simp (decide := true) only [EVs, EVt, Array.toList] <;> exact rfl) (by simp (decide := true) only [EVs, EVt, Array.toList, calleeOf] <;> exact rfl) (by simp (decide := true) only [EVs, EVt, Array.toList, argsOf, frz] <;> exact rfl) (by first | exact f1) ?_ | refine WL.one (by simp (decide := true) only [EVs, EVt, Array.toList] <;> exact rfl) ?_)); refine WL.nil ?_
    refine AWp.cond (t := true) rfl (AWp.seq (AWp.regionW T_ok rfl (WL.all (by simp (decide := true) only [EVs, EVt, Array.toList] <;> exact rfl) ?_)))
    refine AWp.ret ⟨_, rfl, .inl ?_⟩
    rw [show plainO b = false by simp [plainO, hN]]
    exact .refl _
  | true =>
    rw [hN] at f1
    refine AWp.seq (AWp.seq (AWp.regionW T_ok rfl ?_))
    (repeat (first | refine WL.c rfl rfl rfl (by simp (decide := true) only [EVs, EVt, Array.toList] <;> exact rfl) (by simp (decide := true) only [EVs, EVt, Array.toList, calleeOf] <;> exact rfl) (by simp (decide := true) only [EVs, EVt, Array.toList, argsOf, frz] <;> exact rfl) (by first | exact f1) rfl ?_ | refine WL.f rfl rfl rfl (by simp (decide := true) only [EVs, EVt, Array.toList] <;> exact rfl) (by simp (decide := true) only [EVs, EVt, Array.toList, calleeOf] <;> exact rfl) (by simp (decide := true) only [EVs, EVt, Array.toList, argsOf, frz] <;> exact rfl) (by first | exact f1) ?_ | refine WL.one (by simp (decide := true) only [EVs, EVt, Array.toList] <;> exact rfl) ?_)); refine WL.nil ?_
    refine AWp.cond (t := false) rfl (AWp.skip ?_)
    refine AWp.seq (AWp.seq (AWp.regionW T_ok rfl (WL.all (by simp (decide := true) only [EVs, EVt, Array.toList] <;> exact rfl) ?_)))
    by_cases k1 : b.kind = 1
    · have c1 : eqI b.kind 1 = true := eqI_t k1
      refine AWp.block (AWp.seq (AWp.regionW T_ok rfl (WL.all (by simp (decide := true) only [EVs, EVt, Array.toList, c1] <;> exact rfl) ?_)))
      refine AWp.cond (t := true) rfl ?_
      have e0 : plainO b = (leI 0 b.q && leI b.q 400 && leI 0 b.u && leI b.u b.q && leI 1 b.x && leI b.x 64) := by simp [plainO, hN, k1]
      cases g0 : leI 0 b.q with
      | false =>
        refine AWp.seq (AWp.regionW T_ok rfl (WL.all (by simp (decide := true) only [EVs, EVt, Array.toList, g0] <;> exact rfl) ?_))
        refine AWp.ret ⟨_, rfl, .inl ?_⟩
        rw [show plainO b = false by simp [e0, g0]]
        exact .refl _
      | true =>
        cases g1 : leI b.q 400 with
        | false =>
          refine AWp.seq (AWp.regionW T_ok rfl (WL.all (by simp (decide := true) only [EVs, EVt, Array.toList, g0, g1] <;> exact rfl) ?_))
          refine AWp.ret ⟨_, rfl, .inl ?_⟩
          rw [show plainO b = false by simp [e0, g0, g1]]
          exact .refl _
        | true =>
          cases g2 : leI 0 b.u with
          | false =>
            refine AWp.seq (AWp.regionW T_ok rfl (WL.all (by simp (decide := true) only [EVs, EVt, Array.toList, g0, g1, g2] <;> exact rfl) ?_))
            refine AWp.ret ⟨_, rfl, .inl ?_⟩
            rw [show plainO b = false by simp [e0, g0, g1, g2]]
            exact .refl _
          | true =>
            cases g3 : leI b.u b.q with
            | false =>
              refine AWp.seq (AWp.regionW T_ok rfl (WL.all (by simp (decide := true) only [EVs, EVt, Array.toList, g0, g1, g2, g3] <;> exact rfl) ?_))
              refine AWp.ret ⟨_, rfl, .inl ?_⟩
              rw [show plainO b = false by simp [e0, g0, g1, g2, g3]]
              exact .refl _
            | true =>
              cases g4 : leI 1 b.x with
              | false =>
                refine AWp.seq (AWp.regionW T_ok rfl (WL.all (by simp (decide := true) only [EVs, EVt, Array.toList, g0, g1, g2, g3, g4] <;> exact rfl) ?_))
                refine AWp.ret ⟨_, rfl, .inl ?_⟩
                rw [show plainO b = false by simp [e0, g0, g1, g2, g3, g4]]
                exact .refl _
              | true =>
                cases g5 : leI b.x 64 with
                | false =>
                  refine AWp.seq (AWp.regionW T_ok rfl (WL.all (by simp (decide := true) only [EVs, EVt, Array.toList, g0, g1, g2, g3, g4, g5] <;> exact rfl) ?_))
                  refine AWp.ret ⟨_, rfl, .inl ?_⟩
                  rw [show plainO b = false by simp [e0, g0, g1, g2, g3, g4, g5]]
                  exact .refl _
                | true =>
                  refine AWp.seq (AWp.regionW T_ok rfl (WL.all (by simp (decide := true) only [EVs, EVt, Array.toList, g0, g1, g2, g3, g4, g5] <;> exact rfl) ?_))
                  refine AWp.ret ⟨_, rfl, .inl ?_⟩
                  rw [show plainO b = true by simp [e0, g0, g1, g2, g3, g4, g5]]
                  exact .refl _
    have c1 : eqI b.kind 1 = false := eqI_f k1
    by_cases k2 : b.kind = 2
    · have c2 : eqI b.kind 2 = true := eqI_t k2
      refine AWp.block (AWp.seq (AWp.regionW T_ok rfl (WL.all (by simp (decide := true) only [EVs, EVt, Array.toList, c1] <;> exact rfl) ?_)))
      refine AWp.cond (t := false) rfl (AWp.seq (AWp.regionW T_ok rfl (WL.all (by simp (decide := true) only [EVs, EVt, Array.toList, c2] <;> exact rfl) ?_)))
      refine AWp.cond (t := true) rfl (AWp.seq (AWp.regionW T_ok rfl (WL.all (by simp (decide := true) only [EVs, EVt, Array.toList] <;> exact rfl) ?_)))
      refine AWp.ret ⟨_, rfl, .inl ?_⟩
      rw [show plainO b = leI (b.dat.length : Int) 64 by simp [plainO, hN, k2]]
      exact .refl _
    have c2 : eqI b.kind 2 = false := eqI_f k2
    by_cases k3 : b.kind = 3
    · have c3 : eqI b.kind 3 = true := eqI_t k3
      refine AWp.block (AWp.seq (AWp.regionW T_ok rfl (WL.all (by simp (decide := true) only [EVs, EVt, Array.toList, c1] <;> exact rfl) ?_)))
      refine AWp.cond (t := false) rfl (AWp.seq (AWp.regionW T_ok rfl (WL.all (by simp (decide := true) only [EVs, EVt, Array.toList, c2] <;> exact rfl) ?_)))
      refine AWp.cond (t := false) rfl (AWp.seq (AWp.regionW T_ok rfl (WL.all (by simp (decide := true) only [EVs, EVt, Array.toList, c3] <;> exact rfl) ?_)))
      refine AWp.cond (t := true) rfl (AWp.seq (AWp.regionW T_ok rfl ?_))
      (repeat (first | refine WL.c rfl rfl rfl (by simp (decide := true) only [EVs, EVt, Array.toList] <;> exact rfl) (by simp (decide := true) only [EVs, EVt, Array.toList, calleeOf] <;> exact rfl) (by simp (decide := true) only [EVs, EVt, Array.toList, argsOf, frz] <;> exact rfl) (by first | exact f2) rfl ?_ | refine WL.f rfl rfl rfl (by simp (decide := true) only [EVs, EVt, Array.toList] <;> exact rfl) (by simp (decide := true) only [EVs, EVt, Array.toList, calleeOf] <;> exact rfl) (by simp (decide := true) only [EVs, EVt, Array.toList, argsOf, frz] <;> exact rfl) (by first | exact f2) ?_ | refine WL.one (by simp (decide := true) only [EVs, EVt, Array.toList] <;> exact rfl) ?_)); refine WL.nil ?_
      refine AWp.ret ⟨_, rfl, .inl ?_⟩
      rw [show plainO b = mayC b.cats by simp [plainO, hN, k3]]
      exact .refl _
    have c3 : eqI b.kind 3 = false := eqI_f k3
    by_cases k4 : b.kind = 4
    · have c4 : eqI b.kind 4 = true := eqI_t k4
      refine AWp.block (AWp.seq (AWp.regionW T_ok rfl (WL.all (by simp (decide := true) only [EVs, EVt, Array.toList, c1] <;> exact rfl) ?_)))
      refine AWp.cond (t := false) rfl (AWp.seq (AWp.regionW T_ok rfl (WL.all (by simp (decide := true) only [EVs, EVt, Array.toList, c2] <;> exact rfl) ?_)))
      refine AWp.cond (t := false) rfl (AWp.seq (AWp.regionW T_ok rfl (WL.all (by simp (decide := true) only [EVs, EVt, Array.toList, c3] <;> exact rfl) ?_)))
      refine AWp.cond (t := false) rfl (AWp.seq (AWp.regionW T_ok rfl (WL.all (by simp (decide := true) only [EVs, EVt, Array.toList, c4] <;> exact rfl) ?_)))
      refine AWp.cond (t := true) rfl (AWp.seq (AWp.regionW T_ok rfl ?_))
      (repeat (first | refine WL.c rfl rfl rfl (by simp (decide := true) only [EVs, EVt, Array.toList] <;> exact rfl) (by simp (decide := true) only [EVs, EVt, Array.toList, calleeOf] <;> exact rfl) (by simp (decide := true) only [EVs, EVt, Array.toList, argsOf, frz] <;> exact rfl) (by first | exact f3) rfl ?_ | refine WL.f rfl rfl rfl (by simp (decide := true) only [EVs, EVt, Array.toList] <;> exact rfl) (by simp (decide := true) only [EVs, EVt, Array.toList, calleeOf] <;> exact rfl) (by simp (decide := true) only [EVs, EVt, Array.toList, argsOf, frz] <;> exact rfl) (by first | exact f3) ?_ | refine WL.one (by simp (decide := true) only [EVs, EVt, Array.toList] <;> exact rfl) ?_)); refine WL.nil ?_
      refine AWp.ret ⟨_, rfl, .inl ?_⟩
      rw [show plainO b = mayRg b.ring by simp [plainO, hN, k4]]
      exact .refl _
    have c4 : eqI b.kind 4 = false := eqI_f k4
    refine AWp.block (AWp.seq (AWp.regionW T_ok rfl (WL.all (by simp (decide := true) only [EVs, EVt, Array.toList, c1] <;> exact rfl) ?_)))
    refine AWp.cond (t := false) rfl (AWp.seq (AWp.regionW T_ok rfl (WL.all (by simp (decide := true) only [EVs, EVt, Array.toList, c2] <;> exact rfl) ?_)))
    refine AWp.cond (t := false) rfl (AWp.seq (AWp.regionW T_ok rfl (WL.all (by simp (decide := true) only [EVs, EVt, Array.toList, c3] <;> exact rfl) ?_)))
    refine AWp.cond (t := false) rfl (AWp.seq (AWp.regionW T_ok rfl (WL.all (by simp (decide := true) only [EVs, EVt, Array.toList, c4] <;> exact rfl) ?_)))
    refine AWp.cond (t := false) rfl (AWp.skip ?_)
    refine AWp.seq (AWp.regionW T_ok rfl (WL.all (by simp (decide := true) only [EVs, EVt, Array.toList] <;> exact rfl) ?_))
    refine AWp.ret ⟨_, rfl, .inl ?_⟩
    rw [show plainO b = false by simp [plainO, k1, k2, k3, k4]]
    exact .refl _
theorem sp_May1 (b : Ob) (hl : b.l.length ≤ 35184372087808) (hc : b.cats.length ≤ 70368744175616) (hr : b.ring.length ≤ 140737488351232) : ACall Try.prog 29 [obj b] (bo (may1O b)) := by
  have f1 := sp_plain b hc hr
  have f2 := sp_RMay b.d b.l (by omega)
  have f3 := sp_RLevels b.d b.l 0 hl
  refine acall_of Try.func29 rfl rfl (Nat.le_of_ble_eq_true rfl) T_ok (fun base w0 => ?_)
  refine AWp.seq (AWp.regionW T_ok rfl (WL.all (by simp (decide := true) only [EVs, EVt, Array.toList] <;> exact rfl) ?_))
  unfold may1O
  cases h1 : plainO b <;> rw [h1] at f1
  · refine AWp.seq (AWp.regionW T_ok rfl ?_)
    (repeat (first | refine WL.c rfl rfl rfl (by simp (decide := true) only [EVs, EVt, Array.toList] <;> exact rfl) (by simp (decide := true) only [EVs, EVt, Array.toList, calleeOf] <;> exact rfl) (by simp (decide := true) only [EVs, EVt, Array.toList, argsOf, frz] <;> exact rfl) (by first | exact f1 | exact f2 | exact f3) rfl ?_ | refine WL.f rfl rfl rfl (by simp (decide := true) only [EVs, EVt, Array.toList] <;> exact rfl) (by simp (decide := true) only [EVs, EVt, Array.toList, calleeOf] <;> exact rfl) (by simp (decide := true) only [EVs, EVt, Array.toList, argsOf, frz] <;> exact rfl) (by first | exact f1 | exact f2 | exact f3) ?_ | refine WL.one (by simp (decide := true) only [EVs, EVt, Array.toList] <;> exact rfl) ?_)); refine WL.nil ?_
    exact AWp.ret ⟨_, rfl, .inl (.refl _)⟩
  · cases h2 : mayL b.d b.l <;> rw [h2] at f2
    · refine AWp.seq (AWp.regionW T_ok rfl ?_)
      (repeat (first | refine WL.c rfl rfl rfl (by simp (decide := true) only [EVs, EVt, Array.toList] <;> exact rfl) (by simp (decide := true) only [EVs, EVt, Array.toList, calleeOf] <;> exact rfl) (by simp (decide := true) only [EVs, EVt, Array.toList, argsOf, frz] <;> exact rfl) (by first | exact f1 | exact f2 | exact f3) rfl ?_ | refine WL.f rfl rfl rfl (by simp (decide := true) only [EVs, EVt, Array.toList] <;> exact rfl) (by simp (decide := true) only [EVs, EVt, Array.toList, calleeOf] <;> exact rfl) (by simp (decide := true) only [EVs, EVt, Array.toList, argsOf, frz] <;> exact rfl) (by first | exact f1 | exact f2 | exact f3) ?_ | refine WL.one (by simp (decide := true) only [EVs, EVt, Array.toList] <;> exact rfl) ?_)); refine WL.nil ?_
      exact AWp.ret ⟨_, rfl, .inl (.refl _)⟩
    · have hz := eqI_len (lvs b.l 0)
      cases h3 : decide (lvs b.l 0 = []) <;> rw [h3] at hz
      all_goals
        refine AWp.seq (AWp.regionW T_ok rfl ?_)
        (repeat (first | refine WL.c rfl rfl rfl (by simp (decide := true) only [EVs, EVt, Array.toList, hz] <;> exact rfl) (by simp (decide := true) only [EVs, EVt, Array.toList, calleeOf, hz] <;> exact rfl) (by simp (decide := true) only [EVs, EVt, Array.toList, argsOf, frz, hz] <;> exact rfl) (by first | exact f1 | exact f2 | exact f3) rfl ?_ | refine WL.f rfl rfl rfl (by simp (decide := true) only [EVs, EVt, Array.toList, hz] <;> exact rfl) (by simp (decide := true) only [EVs, EVt, Array.toList, calleeOf, hz] <;> exact rfl) (by simp (decide := true) only [EVs, EVt, Array.toList, argsOf, frz, hz] <;> exact rfl) (by first | exact f1 | exact f2 | exact f3) ?_ | refine WL.one (by simp (decide := true) only [EVs, EVt, Array.toList, hz] <;> exact rfl) ?_)); refine WL.nil ?_
        exact AWp.ret ⟨_, rfl, .inl (.refl _)⟩
end Go.Proofs.Ytfgndnackofenaa.E
