/-
  What the row gives reads as abstract data; what the walk tells is what the row wants. No condition.
-/
import Derived.Test.YtfgndnackofenaaXOpen
import Derived.Test.YtfgndnackofenaaEM1
namespace Go.Proofs.YtfgndnackofenaaW.E
open Go Go.RowKit Go.Proofs.YtfgndnackofenaaW.PrintWords
set_option linter.unusedVariables false
set_option linter.unusedSimpArgs false

theorem calls_true {P : Program} {f : FuncId} {args : List AV} {vs : Array Value} {w : World} (h : ACall P f args (bo true)) (hl : args.length = vs.size) (ha : ∀ (i : Nat) a v, args[i]? = some a → vs[i]? = some v → RD (CellsOf w) w a v) :
    Calls P f vs w fun e w' => e = .returned (.bool true) ∧ Below w.heap.size w w' := by
  refine (h.2 (CellsOf w) w vs (fun _ _ h => h) hl (fun i a v h1 h2 => .data _ _ (ha i a v h1 h2))).mono fun e w' ⟨v, he, hb, N, hN, hr⟩ => ?_
  rcases hr with hr | ⟨sz, xs, A, n, c, hr, _⟩
  · cases hr
    exact ⟨he, hb⟩
  · cases hr

theorem rd_l16 {w : World} {A : Option Addr} {l : List Int} {c : Nat} (h : (Kd.int .u16).C w A l.length l) (hc : l.length ≤ c) : RD (CellsOf w) w (l16 l) (.slice A l.length c) := by
  have e1 : flat (l.map u16) = l.map u16 := by
    clear h hc
    induction l with
    | nil => rfl
    | cons x l ih => simp only [flat, List.map_cons, List.flatMap_cons] at ih ⊢; rw [ih]; rfl
  have e2 : (Value.slice A l.length c) = .slice A (l.map u16).length c := by rw [List.length_map]
  by_cases hn : l = []
  · subst hn
    exact .list 1 [] .no A c 0 0 (fun _ => .bool true) (by simp) (fun h => absurd rfl h) (by simp) (by simp [flat]) (by simp [flat]) (.inl rfl)
  · have hpos : 0 < l.length := by cases l <;> simp_all
    obtain ⟨ad, hA, hc0⟩ := Kd.at_int h 0 (by omega) (by omega)
    have hsp : ad = ⟨ad.block, ad.off, none⟩ := by
      have : (ad.add (0 : Int).toNat) = ad := rfl
      rw [this] at hc0
      unfold World.cell? at hc0
      split at hc0
      · split at hc0
        · cases hc0
        · rename_i h
          obtain ⟨b, o, s⟩ := ad
          cases s with
          | none => rfl
          | some x => simp at h
      · cases hc0
    rw [e2]
    refine .list 1 (l.map u16) .no A c ad.block ad.off (fun i => .int .u16 (l.getD i 0)) (by simpa using hc) (fun _ => hA.trans (congrArg some hsp)) (fun x hx => by obtain ⟨a, _, rfl⟩ := List.mem_map.1 hx; rfl) ?_ ?_ (.inl rfl)
    · intro i y hy
      rw [e1] at hy
      have hi : i < l.length := by have := (List.getElem?_eq_some_iff.1 hy).1; simpa using this
      obtain ⟨ad2, hA2, hc2⟩ := Kd.at_int h (i : Int) (by omega) (by omega)
      rw [hA] at hA2
      cases hA2
      have h3 : (ad.add ((i : Int)).toNat) = ⟨ad.block, ad.off + i, none⟩ := by
        simp only [Int.toNat_natCast, Addr.add]
        split
        · rename_i h; subst h; exact hsp
        · rfl
      rw [h3] at hc2
      have h4 : rd l (i : Int) = l.getD i 0 := by unfold rd; simp
      rw [h4] at hc2
      exact ⟨⟨_, hc2⟩, hc2, rfl⟩
    · intro i y hy
      rw [e1] at hy
      have hi : i < l.length := by have := (List.getElem?_eq_some_iff.1 hy).1; simpa using this
      have : y = u16 (l.getD i 0) := by
        rw [get_mapi u16 l i hi] at hy
        cases hy
        simp [List.getD_eq_getElem?_getD, hi]
      subst this
      exact .val _

theorem rd_sts {w : World} {A B C : Option Addr} {s i o : List Int} {a b c : Nat} (h1 : (Kd.int .u16).C w A s.length s) (k1 : s.length ≤ a) (h2 : (Kd.int .u16).C w B i.length i) (k2 : i.length ≤ b) (h3 : (Kd.int .u16).C w C o.length o) (k3 : o.length ≤ c) :
    RD (CellsOf w) w (sts s i o) (.agg #[.slice A s.length a, .slice B i.length b, .slice C o.length c]) := by
  refine .agg _ _ rfl (by simp [Value.oneCell']) ?_
  rintro (_ | _ | _ | _) x v e1 e2 <;> simp at e1 e2 <;> subst e1 <;> subst e2
  · exact rd_l16 h1 k1
  · exact rd_l16 h2 k2
  · exact rd_l16 h3 k3
end Go.Proofs.YtfgndnackofenaaW.E
