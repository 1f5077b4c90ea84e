/-
  A fast executor for the kernel: one operation of a region, called functions included; regions in the text's order. Laws over any program; no condition.
-/
import Derived.Test.YtmnpjaglgalobaaGreatED11
import Derived.CheckFast
import Derived.Test.YtmnpjaglgalobaaGreatEC23
namespace Go.Proofs.YtmnpjaglgalobaaGreatW.D
open Go Go.RowKit Go.Proofs.YtmnpjaglgalobaaGreatW.C
open Go.Proofs.YtmnpjaglgalobaaGreatW.E (upd upd_same upd_ne dstOK dstOK_spec callable)
set_option linter.unusedVariables false
set_option linter.unusedSimpArgs false

def entB (B : TB) : Nat → Ent := fun k => entK (B.get k)
/-- What is asked of a function that calls functions. -/
def CFOK (P : Program) (T : CTab) (cf : CF) : Prop := ∀ (g : FuncId) (vs : List CV) (B : TB) (nk : Nat) (k : CV → TB → Nat → Rs), cf g vs B nk k = .yes →
  ∃ r B' nk', k r B' nk' = .yes ∧ Lat B B' nk nk' ∧ CallTo P T g vs (entB B) fun r' B'' => r' = r ∧ B'' = entB B'
/-- One operation of a region, done. -/
structure Step1 (P : Program) (ops : Array Oper) (o : Oper) (n : Nat) (s : S) (B : TB) (nk : Nat) (s' : S) (B' : TB) (nk' : Nat) (e : Eff) (F : Nat → Bool) : Prop where
  step : StepF P ops o (stOf n s B) e F
  dst : dstOK o n = true
  st : stOf n s' B' = (stOf n s B).app o.dst e
  lat : Lat B B' nk nk'
  c0 : clsOf P o = 0 → (∀ k, F k = false) ∧ ∀ k, e.ov k = none
  c1 : clsOf P o = 1 → ∀ k, e.ov k = none
def HSOK (P : Program) (T : CTab) (n : Nat) (ops : Array Oper) (o : Oper) (h : H) : Prop := ∀ cf, CFOK P T cf → ∀ (s : S) (B : TB) (nk : Nat) (k : Kt), h cf s B nk k = .yes → ∃ s' B' nk' e F, Step1 P ops o n s B nk s' B' nk' e F ∧ k s' B' nk' = .yes
/-- The same, of an operation whose guard lets it run. -/
def HSOKw (P : Program) (T : CTab) (n : Nat) (ops : Array Oper) (o : Oper) (h : H) : Prop := ∀ cf, CFOK P T cf → ∀ (s : S) (B : TB) (nk : Nat) (k : Kt), awantedC ops o (stOf n s B) = some true → h cf s B nk k = .yes → ∃ s' B' nk' e F, Step1 P ops o n s B nk s' B' nk' e F ∧ k s' B' nk' = .yes

section
variable {P : Program} {T : CTab} {TT : TTab} {n : Nat} {ops : Array Oper} {o : Oper} {d : Dt}
theorem inF_nil (k : Nat) : inF [] k = false := rfl
theorem cls0 (h : clsOf P o = 0) : looks P o = [] ∧ writes P o = [] ∧ makesBox o = false ∧ allF o = false := by
  obtain ⟨dst, op, type, pos, after, guard⟩ := o
  cases op with
  | convert t u x =>
    unfold clsOf at h
    unfold looks writes makesBox allF
    simp only at h ⊢
    cases hu : P.underlying t with
    | none => simp
    | some dd => rw [hu] at h; cases dd <;> first | (cases h; done) | exact ⟨rfl, rfl, trivial, trivial⟩ | exact ⟨rfl, rfl, rfl, rfl⟩ | simp
  | call c =>
    unfold clsOf at h
    unfold looks writes makesBox allF
    simp only at h ⊢
    cases hc : c.callee with
    | builtin b => rw [hc] at h; cases b <;> first | (cases h; done) | exact ⟨rfl, rfl, rfl, rfl⟩ | simp
    | value f => rw [hc] at h; cases h
    | invoke a b => rw [hc] at h; cases h
  | _ => first | (cases h; done) | exact ⟨rfl, rfl, rfl, rfl⟩
theorem cls1 (h : clsOf P o = 1) : writes P o = [] ∧ makesBox o = false ∧ allF o = false := by
  obtain ⟨dst, op, type, pos, after, guard⟩ := o
  cases op with
  | convert t u x =>
    unfold clsOf at h
    simp only at h
    cases hu : P.underlying t with
    | none => rw [hu] at h; cases h
    | some dd => rw [hu] at h; cases dd <;> cases h
  | call c =>
    unfold clsOf at h
    simp only at h
    cases hc : c.callee with
    | builtin b => rw [hc] at h; cases b <;> cases h
    | value f => rw [hc] at h; cases h
    | invoke a b => rw [hc] at h; cases h
  | _ => first | (cases h; done) | exact ⟨rfl, rfl, rfl⟩
theorem wr_foot {st : St} {key k : Nat} (h : wrF P o st key k = true) : footF P o st key k = true := by
  unfold wrF at h
  unfold footF
  by_cases ha : allF o = true
  · rw [if_pos ha]
  · rw [if_neg ha] at h ⊢
    rw [inF_iff] at h ⊢
    unfold wrL at h
    unfold footL
    rcases List.mem_append.1 h with h | h
    · refine List.mem_append_left _ ?_
      obtain ⟨x, hx, hk⟩ := List.mem_flatMap.1 h
      refine List.mem_flatMap.2 ⟨x, ?_, hk⟩
      obtain ⟨dst, op, type, pos, after, guard⟩ := o
      cases op with
      | convert t u x =>
        unfold writes at hx
        unfold looks
        exact hx
      | call c =>
        unfold writes at hx
        unfold looks
        simp only at hx ⊢
        cases hc : c.callee with
        | builtin b =>
          rw [hc] at hx
          cases b <;> first
            | (cases hx; done)
            | (revert hx; cases c.args.toList <;> intro hx
               · cases hx
               · simp only [List.mem_singleton] at hx; subst hx; exact List.mem_cons_self)
        | value f =>
          rw [hc] at hx
          revert hx; cases c.args.toList <;> intro hx
          · cases hx
          · simp only [List.mem_singleton] at hx; subst hx; exact List.mem_cons_self
        | invoke a b =>
          rw [hc] at hx
          revert hx; cases c.args.toList <;> intro hx
          · cases hx
          · simp only [List.mem_singleton] at hx; subst hx; exact List.mem_cons_self
      | store t a b => exact hx
      | mapUpdate t a b c => exact hx
      | _ => cases hx
    · exact List.mem_append_right _ h
theorem dst_ok {q : Option Nat} (h : ∀ t, o.dst = some t → t < n) : dstOK o n = true := by
  unfold dstOK
  cases hd : o.dst with
  | none => rfl
  | some t => simpa using h t hd
/-- An operation that is no call, its guard lets it run. -/
theorem hs_of {a : HA} (h : HOK P n o a) (key : Nat → Nat) : HSOKw P T n ops o fun cf s B nk k => a (key nk) cf s B nk k := by
  intro cf hcf s B nk k hw hy
  obtain ⟨s', B', nk', ⟨⟨e, h1, h2, h3, h4⟩, h5, h6⟩, h7⟩ := h (key nk) cf s B nk k hy
  refine ⟨s', B', nk', e, footF P o (stOf n s B) (key nk), ⟨.inr ⟨hw, h1, fun j hj => ⟨wr_foot (h2 j hj), h3 j hj⟩⟩, dst_ok (q := none) h5, h4, h6, fun hc => ?_, fun hc => ?_⟩, h7⟩
  · obtain ⟨c1, c2, c3, c4⟩ := cls0 hc
    have e1 : ∀ j, footF P o (stOf n s B) (key nk) j = false := fun j => by unfold footF footL; rw [c1, c3, c4]; rfl
    refine ⟨e1, fun j => ?_⟩
    cases hq : e.ov j with
    | none => rfl
    | some y =>
      have := wr_foot (h2 j (by rw [hq]; simp))
      rw [e1 j] at this; cases this
  · obtain ⟨c1, c3, c4⟩ := cls1 hc
    have e1 : ∀ j, wrF P o (stOf n s B) (key nk) j = false := fun j => by unfold wrF wrL; rw [c1, c3, c4]; rfl
    intro j
    cases hq : e.ov j with
    | none => rfl
    | some y =>
      have := h2 j (by rw [hq]; simp)
      rw [e1 j] at this; cases this

/-! ### Calls -/
theorem calleeC_congr {ev ev' : Operand → CV} {c : Call} (h : ∀ y ∈ c.operands, ev' y = ev y) : calleeC ev' c = calleeC ev c := by
  unfold calleeC
  cases hc : c.callee with
  | value f =>
    have ha : c.args.toList.map ev' = c.args.toList.map ev := by
      refine List.map_congr_left fun y hy => h y ?_
      unfold Call.operands
      exact Array.mem_append.2 (.inr (by simpa using hy))
    simp only
    rw [h f (by unfold Call.operands; rw [hc]; simp), ha]
  | _ => rfl
theorem rdAll_ok (l : List Operand) (n : Nat) (s : S) (B : TB) : rdAll (mapL srcOf l) s = l.map (evalC (stOf n s B)) := by
  induction l with
  | nil => rfl
  | cons x l ih =>
    show rd (srcOf x) s :: rdAll (mapL srcOf l) s = _
    rw [rd_ok x n s B, ih]; rfl
/-- A call, whatever it looks at. -/
theorem call_eff (hT : T.OK P) {c : Call} (ho : o.op = .call c) {s : S} {B : TB} {nk : Nat} {g : FuncId} {vs : List CV} (hc : calleeC (evalC (stOf n s B)) c = some (g, vs)) {r : CV} {B' : TB} {nk' : Nat} (hl : Lat B B' nk nk')
    (hcall : CallTo P T g vs (entB B) fun r' B'' => r' = r ∧ B'' = entB B') : ∃ ov : Nat → Option Ent, EffL P o (stOf n s B) ⟨r, ov⟩ (fun _ => true) ∧ (∀ j, ov j ≠ none → (stOf n s B).B j ≠ .dead) ∧ entB B' = ovr (stOf n s B).B ov := by
  let ov : Nat → Option Ent := fun j => match entK (B.get j) with
    | .dead => none
    | _ => some (entK (B'.get j))
  have h1 : ∀ j, ov j ≠ none → entK (B.get j) ≠ .dead := fun j hj e => hj (by simp only [ov, e])
  have h2 : entB B' = ovr (stOf n s B).B ov := by
    funext j
    show entK (B'.get j) = (ov j).getD (entK (B.get j))
    cases hd : entK (B.get j) with
    | dead => simp only [ov, hd, Option.getD_none]; exact hl.dead j hd
    | _ => simp only [ov, hd, Option.getD_some]
  refine ⟨ov, fun st' hn' hx hB base w0 => ?_, h1, h2⟩
  have eB : st'.B = entB B := funext fun k => hB k rfl
  have hc' : calleeC (evalC st') c = some (g, vs) := by
    rw [calleeC_congr (ev := evalC (stOf n s B)) (fun y hy => hx y (by rw [ho]; exact hy))]
    exact hc
  refine does_callC hT ho hc' ?_
  rw [eB]
  have : ovr (entB B) ov = entB B' := h2.symm
  rw [this]
  exact hcall
theorem hs_call (hn : n ≤ 256) (hT : T.OK P) {c : Call} (ho : o.op = .call c) {f : Operand} (hc : c.callee = .value f) (hd : dstOf n o.dst = .mk d) {s : S} {B : TB} {nk : Nat} {g : FuncId} {vs : List CV} (hcv : calleeC (evalC (stOf n s B)) c = some (g, vs)) (hw : awantedC ops o (stOf n s B) = some true)
    {cf : CF} (hcf : CFOK P T cf) {k : Kt} (h : (cf g vs B nk fun r B' nk' => d r s fun s' => k s' B' nk') = .yes) : ∃ s' B' nk' e F, Step1 P ops o n s B nk s' B' nk' e F ∧ k s' B' nk' = .yes := by
  obtain ⟨r, B', nk', h1, h2, h3⟩ := hcf g vs B nk _ h
  obtain ⟨ov, e1, e2, e3⟩ := call_eff hT ho hcv h2 h3
  obtain ⟨s', d1, d2, d3⟩ := dst_app (o := o) (B := B) (B' := B') (e := ⟨r, ov⟩) hn hd h1 rfl e3
  have hcls : clsOf P o = 3 := by unfold clsOf; rw [ho]; simp only [hc]
  exact ⟨s', B', nk', ⟨r, ov⟩, fun _ => true, ⟨.inr ⟨hw, e1, fun j hj => ⟨rfl, e2 j hj⟩⟩, dst_ok (q := none) d2, d3, h2, fun h => (by rw [hcls] at h; cases h), fun h => (by rw [hcls] at h; cases h)⟩, d1⟩
theorem vc_of (hv : isVC o = true) : ∃ c f, o.op = .call c ∧ c.callee = .value f := by
  unfold isVC at hv
  split at hv
  · rename_i c ho
    split at hv
    · rename_i f hf; exact ⟨c, f, ho, hf⟩
    · cases hv
  · cases hv
/-- An operation as it is decoded, its guard lets it run. -/
theorem ordOp_ok (hn : n ≤ 256) (hT : T.OK P) (hTT : TOKs P TT) {h : H} (hh : ordOp P T TT n o = .mk h) : HSOKw P T n ops o h := by
  unfold ordOp at hh
  cases hv : isVC o with
  | false =>
    have hd := decOp_ok (P := P) (T := T) (TT := TT) (o := o) hn hT hTT hv
    cases hq : decOp o.op P T TT n o with
    | h h' =>
      rw [hq] at hh hd
      cases hh
      exact hs_of (a := fun _ => h) hd id
    | a a =>
      rw [hq] at hh hd
      cases hh
      exact hs_of hd id
  | true =>
    obtain ⟨c, f, ho, hf⟩ := vc_of hv
    intro cf hcf s B nk k hw hy
    cases hd : dstOf n o.dst with
    | mk d =>
      have hop : decOp o.op P T TT n o = dCall c P T TT n o := by rw [ho]; rfl
      rw [hop] at hh
      unfold dCall at hh
      simp only [hf] at hh
      cases f with
      | func q =>
        simp only [hd] at hh
        cases hh
        unfold hCall at hy
        refine hs_call hn hT ho hf hd (g := q) (vs := rdAll (mapL srcOf c.args.toList) s) ?_ hw hcf hy
        unfold calleeC
        simp only [hf, evalC]
        rw [rdAll_ok _ n s B]
        simp
      | tmp t =>
        cases hr : srcOf (.tmp t) with
        | mk r =>
          simp only [hd, hr] at hh
          cases hh
          unfold hCallV at hy
          cases hp : fnOf (r s) with
          | no => rw [hp] at hy; cases hy
          | yes g a cc =>
            rw [hp] at hy
            have hv2 : evalC (stOf n s B) (.tmp t) = .fn g a cc := by rw [← src_ok hr n s B]; exact fnOf_ok hp
            refine hs_call hn hT ho hf hd (g := g) (vs := appL a (appL (rdAll (mapL srcOf c.args.toList) s) cc)) ?_ hw hcf hy
            unfold calleeC
            simp only [hf, hv2]
            rw [rdAll_ok _ n s B, appL_eq, appL_eq]
      | const v =>
        simp only [hd, srcOf] at hh
        cases hh
        cases hy
      | global q =>
        simp only [hd, srcOf] at hh
        cases hh
        cases hy
/-- Not wanted. -/
theorem skip_ok (hn : n ≤ 256) (hd : dstOf n o.dst = .mk d) {s : S} {B : TB} {nk : Nat} (hw : awantedC ops o (stOf n s B) = some false) {k : S → Rs} (h : d (.val undef) s k = .yes) :
    ∃ s', Step1 P ops o n s B nk s' B nk { v := .val undef } (fun _ => false) ∧ k s' = .yes := by
  obtain ⟨s', d1, d2, d3⟩ := dst_app (o := o) (B := B) (B' := B) (e := { v := .val undef }) hn hd h rfl rfl
  exact ⟨s', ⟨.inl ⟨hw, rfl⟩, dst_ok (q := none) d2, d3, .refl _ _, fun _ => ⟨fun _ => rfl, fun _ => rfl⟩, fun _ _ => rfl⟩, d1⟩
theorem nth_arr {α : Type} (a : Array α) (i : Nat) : nthL i a.toList = a[i]? := by rw [nthL_eq]; simp
theorem ordGuard_ok (hn : n ≤ 256) (hT : T.OK P) (hTT : TOKs P TT) {h : H} (hh : ordGuard P T TT n ops o = .mk h) : HSOK P T n ops o h := by
  intro cf hcf s B nk k hy
  unfold ordGuard at hh
  cases hg : o.guard with
  | none =>
    rw [hg] at hh
    exact ordOp_ok hn hT hTT hh cf hcf s B nk k (by unfold awantedC; rw [hg]) hy
  | some q =>
    obtain ⟨j, want⟩ := q
    rw [hg] at hh
    simp only [nth_arr] at hh
    cases ht : (ops[j]?).bind (·.dst) with
    | none => rw [ht] at hh; cases hh; cases hy
    | some t =>
      rw [ht] at hh
      simp only at hh
      cases hr : srcOf (.tmp t) with
      | mk r =>
        cases hd : dstOf n o.dst with
        | mk d =>
          rw [hr, hd] at hh
          simp only at hh
          cases hh
          have hv : r s = (stOf n s B).s t := src_ok hr n s B
          unfold hGuard at hy
          cases hw : ordOp P T TT n o with
          | mk h0 =>
            rw [hw] at hy
            cases hb : boolOf (r s) with
            | none =>
              rw [hb] at hy
              cases hi : isVal (r s) with
              | false =>
                have hy' : Bool.rec (motive := fun _ => Rs) .fail (d (.val undef) s fun s' => k s' B nk) (isVal (r s)) = .yes := hy
                rw [hi] at hy'; cases hy'
              | true =>
                have hy' : Bool.rec (motive := fun _ => Rs) .fail (d (.val undef) s fun s' => k s' B nk) (isVal (r s)) = .yes := hy
                rw [hi] at hy'
                have haw : awantedC ops o (stOf n s B) = some false := by
                  unfold awantedC
                  rw [hg]
                  simp only [ht]
                  rw [← hv]
                  cases hrv : r s with
                  | val v => cases v <;> first | rfl | (rw [hrv] at hb; cases hb)
                  | _ => rw [hrv] at hi; cases hi
                obtain ⟨s', a1, a2⟩ := skip_ok (P := P) (nk := nk) hn hd haw (k := fun s' => k s' B nk) hy'
                exact ⟨s', B, nk, _, _, a1, a2⟩
            | some b =>
              rw [hb] at hy
              have hbv := boolOf_ok hb
              have haw : awantedC ops o (stOf n s B) = some (b == want) := by
                unfold awantedC
                rw [hg]
                simp only [ht]
                rw [← hv, hbv]
              have run : awantedC ops o (stOf n s B) = some true → h0 cf s B nk k = .yes → ∃ s' B' nk' e F, Step1 P ops o n s B nk s' B' nk' e F ∧ k s' B' nk' = .yes := fun hw' hy' => ordOp_ok hn hT hTT hw cf hcf s B nk k hw' hy'
              have skip : awantedC ops o (stOf n s B) = some false → (d (.val undef) s fun s' => k s' B nk) = .yes → ∃ s' B' nk' e F, Step1 P ops o n s B nk s' B' nk' e F ∧ k s' B' nk' = .yes := fun hw' hy' => by
                obtain ⟨s', a1, a2⟩ := skip_ok (P := P) (nk := nk) hn hd hw' (k := fun s' => k s' B nk) hy'
                exact ⟨s', B, nk, _, _, a1, a2⟩
              cases b <;> cases want
              · exact run haw hy
              · exact skip haw hy
              · exact skip haw hy
              · exact run haw hy

/-! ### Regions in the text's order -/
/-- What a region's operations come to. -/
structure Runs (P : Program) (ops : Array Oper) (n i m : Nat) (fx : Nat → Eff × (Nat → Bool)) (s : S) (B : TB) (nk : Nat) (s' : S) (B' : TB) (nk' : Nat) : Prop where
  run : DRun P ops fx (List.range' i m) (stOf n s B) (stOf n s' B')
  lat : Lat B B' nk nk'
  cls : ∀ j, i ≤ j → j < i + m → ∀ o, ops[j]? = some o → (clsOf P o = 0 → (∀ k, (fx j).2 k = false) ∧ ∀ k, (fx j).1.ov k = none) ∧ (clsOf P o = 1 → ∀ k, (fx j).1.ov k = none)
theorem DRun.congr {fx fx' : Nat → Eff × (Nat → Bool)} : ∀ {l : List Nat} {st st' : St}, (∀ j ∈ l, fx j = fx' j) → DRun P ops fx l st st' → DRun P ops fx' l st st'
  | [], st, st', _, h => by cases h; exact .nil _
  | i :: l, st, st', hf, h => by
    cases h with
    | cons _ _ _ st1 _ h1 h2 =>
      refine .cons i l st st1 st' ?_ (DRun.congr (fun j hj => hf j (List.mem_cons_of_mem _ hj)) h2)
      unfold DStep at h1 ⊢
      rw [← hf i List.mem_cons_self]
      exact h1
def fxAdd (fx : Nat → Eff × (Nat → Bool)) (i : Nat) (e : Eff) (F : Nat → Bool) : Nat → Eff × (Nat → Bool) := fun j => if j = i then (e, F) else fx j
theorem fxAdd_same {fx : Nat → Eff × (Nat → Bool)} {i : Nat} {e : Eff} {F : Nat → Bool} : fxAdd fx i e F i = (e, F) := by simp [fxAdd]
theorem fxAdd_ne {fx : Nat → Eff × (Nat → Bool)} {i j : Nat} {e : Eff} {F : Nat → Bool} (h : j ≠ i) : fxAdd fx i e F j = fx j := by simp [fxAdd, h]
theorem drop_cons' {i : Nat} {rest : List Oper} (h : o :: rest = ops.toList.drop i) : ops[i]? = some o ∧ rest = ops.toList.drop (i + 1) := by
  obtain ⟨h1, h2⟩ := drop_cons h
  exact ⟨by simpa using h1, h2⟩
theorem runL_ok (hn : n ≤ 256) (hT : T.OK P) (hTT : TOKs P TT) {cf : CF} (hcf : CFOK P T cf) : ∀ (rest : List Oper) (i : Nat) (s : S) (B : TB) (nk : Nat) (k : Kt), rest = ops.toList.drop i → runL (mapL (ordGuard P T TT n ops) rest) cf s B nk k = .yes →
    ∃ fx s' B' nk', Runs P ops n i rest.length fx s B nk s' B' nk' ∧ k s' B' nk' = .yes
  | [], i, s, B, nk, k, hr, h => ⟨fun _ => ({ v := .any }, fun _ => false), s, B, nk, ⟨.nil _, .refl _ _, fun j h1 h2 => by simp at h2; omega⟩, h⟩
  | o :: rest, i, s, B, nk, k, hr, h => by
    obtain ⟨hi, hr'⟩ := drop_cons' hr
    cases hw : ordGuard P T TT n ops o with
    | mk h0 =>
      have h1 : HW.rec (motive := fun _ => Rs) (fun h => h cf s B nk fun s B nk => runL (mapL (ordGuard P T TT n ops) rest) cf s B nk k) (ordGuard P T TT n ops o) = .yes := h
      rw [hw] at h1
      have h2 : h0 cf s B nk (fun s B nk => runL (mapL (ordGuard P T TT n ops) rest) cf s B nk k) = .yes := h1
      obtain ⟨s1, B1, nk1, e, F, st, h3⟩ := ordGuard_ok hn hT hTT hw cf hcf s B nk _ h2
      obtain ⟨fx, s', B', nk', ⟨g1, g2, g3⟩, h4⟩ := runL_ok hn hT hTT hcf rest (i + 1) s1 B1 nk1 k hr' h3
      refine ⟨fxAdd fx i e F, s', B', nk', ⟨?_, st.lat.trans g2, fun j a1 a2 o' ho' => ?_⟩, h4⟩
      · rw [List.length_cons, List.range'_succ]
        refine .cons i _ _ (stOf n s1 B1) _ ⟨o, hi, st.dst, by rw [fxAdd_same]; exact st.step, by rw [fxAdd_same]; exact st.st⟩ (DRun.congr (fun j hj => ?_) g1)
        rw [fxAdd_ne (by have := List.mem_range'_1.1 hj; omega)]
      · by_cases hj : j = i
        · subst hj
          rw [hi] at ho'; cases ho'
          rw [fxAdd_same]
          exact ⟨st.c0, st.c1⟩
        · rw [fxAdd_ne hj]
          exact g3 j (by omega) (by rw [List.length_cons] at a2; omega) o' ho'
/-- In the text's order. -/
theorem wpOps_of_run {fx : Nat → Eff × (Nat → Bool)} {base : Nat → Prop} {w0 : Base} {Q : Exit → Act → World → Prop} : ∀ (l : List Nat) (st st' : St) (a : Act) (w : World), DRun P ops fx l st st' → Rel base w0 st a w → (∀ a' w', Rel base w0 st' a' w' → Q .normal a' w') → wpOps P ops Q l a w
  | [], st, st', a, w, h, hrel, hQ => by cases h; exact hQ _ _ hrel
  | i :: l, st, st', a, w, h, hrel, hQ => by
    cases h with
    | cons _ _ _ st1 _ h1 h2 =>
      obtain ⟨o, ho, hd, he, rfl⟩ := h1
      rw [wpOps_cons]
      exact wpOp_stepF ho hd he hrel fun a' w' hrel' => wpOps_of_run l _ st' a' w' h2 hrel' hQ
end
end Go.Proofs.YtmnpjaglgalobaaGreatW.D

/-
  A fast executor for the kernel: regions whose order is open. Laws over any program; no condition.
-/
namespace Go.Proofs.YtmnpjaglgalobaaGreatW.D
open Go Go.RowKit Go.Proofs.YtmnpjaglgalobaaGreatW.C
open Go.Proofs.YtmnpjaglgalobaaGreatW.E (upd upd_same upd_ne dstOK dstOK_spec callable)
set_option linter.unusedVariables false
set_option linter.unusedSimpArgs false

def SI.confl : SI → List Nat
  | .chk c _ => c
  | .call c _ _ => c
def SI.keep : SI → Bool
  | .chk _ k => k
  | .call _ _ k => k
noncomputable def pairOK (P : Program) (t : RTab) (oj oi : Oper) (j i : Nat) : Bool := !clash (clsOf P oj) (clsOf P oi) || (match lookI i t, lookI j t with
  | some qi, some qj => memN j qi.confl && qj.keep
  | _, _ => false)
/-- What the kernel is asked, once, of each region whose order is open. -/
noncomputable def regOK (P : Program) (ops : Array Oper) (t : RTab) : Bool := (fun M => orderOK ops M && (List.range ops.size).all fun i => match ops[i]? with
  | some oi => (List.range i).all fun j => (M.getD i 0).testBit j || (match ops[j]? with
    | some oj => pairOK P t oj oi j i
    | none => false)
  | none => false) (Go.CheckFast.beforeL ops.toList 0 [])

/-! ### What stands beside what -/
def Bes (e' : Eff) (F' : Nat → Bool) (e : Eff) (F : Nat → Bool) : Prop := (∀ k, e'.ov k ≠ none → F k = false ∧ e.ov k = none) ∧ ∀ k, e.ov k ≠ none → F' k = false
theorem mind_bes {fx : Nat → Eff × (Nat → Bool)} {j i : Nat} (h : Bes (fx j).1 (fx j).2 (fx i).1 (fx i).2) : MInd fx j i := h
def Fits (r : RecK) (e : Eff) (F : Nat → Bool) : Prop := match r with
  | .op _ fl ws => (∀ k, F k = true → k ∈ fl) ∧ ∀ k, e.ov k ≠ none → k ∈ ws
  | .call _ t B H => (∀ k, F k = true → k ∉ H) ∧ ∀ k, e.ov k ≠ none → k ∉ H ∧ ∃ x, B.get k = some x ∧ t ≤ x.stamp
theorem ff {x : Bool} (h : x = true → False) : x = false := by cases x; rfl; exact (h rfl).elim
theorem noneIn_ok : ∀ (l m : List Nat), noneIn l m = true → ∀ k ∈ l, k ∉ m
  | [], m, h, k, hk => by cases hk
  | a :: l, m, h, k, hk => by
    have h' : Bool.rec (motive := fun _ => Bool) (noneIn l m) false (memN a m) = true := h
    cases hm : memN a m with
    | true => rw [hm] at h'; cases h'
    | false =>
      rw [hm] at h'
      rcases List.mem_cons.1 hk with rfl | hk
      · intro hkm; rw [(memN_iff m k).2 hkm] at hm; cases hm
      · exact noneIn_ok l m h' k hk
theorem allIn_ok : ∀ (l m : List Nat), allIn l m = true → ∀ k ∈ l, k ∈ m
  | [], m, h, k, hk => by cases hk
  | a :: l, m, h, k, hk => by
    have h' : Bool.rec (motive := fun _ => Bool) false (allIn l m) (memN a m) = true := h
    cases hm : memN a m with
    | false => rw [hm] at h'; cases h'
    | true =>
      rw [hm] at h'
      rcases List.mem_cons.1 hk with rfl | hk
      · exact (memN_iff m k).1 hm
      · exact allIn_ok l m h' k hk
theorem beStamp_eq {t : Nat} {q : Option BE} (h : beStamp t q = false) {x : BE} (hx : q = some x) : ¬ t ≤ x.stamp := by
  subst hx
  intro hle
  cases x with
  | e y s =>
    have h' : Nat.ble t s = false := h
    rw [Nat.ble_eq_true_of_le (show t ≤ s from hle)] at h'; cases h'
  | big a b c s =>
    have h' : Nat.ble t s = false := h
    rw [Nat.ble_eq_true_of_le (show t ≤ s from hle)] at h'; cases h'
theorem notSince_ok {t : Nat} {B : TB} {H : List Nat} : ∀ (l : List Nat), notSince t B H l = true → ∀ k ∈ l, k ∉ H → ∀ x, B.get k = some x → ¬ t ≤ x.stamp
  | [], h, k, hk => by cases hk
  | a :: l, h, k, hk => by
    have h' : Bool.rec (motive := fun _ => Bool) (Bool.rec (motive := fun _ => Bool) (notSince t B H l) (memN a H) (beStamp t (getT a B))) (notSince t B H l) (memN a H) = true := h
    intro hH x hx
    cases hm : memN a H with
    | true =>
      rw [hm] at h'
      rcases List.mem_cons.1 hk with rfl | hk
      · exact absurd ((memN_iff H k).1 hm) hH
      · exact notSince_ok l h' k hk hH x hx
    | false =>
      rw [hm] at h'
      cases hb : beStamp t (getT a B) with
      | true =>
        rw [hb] at h'
        cases h'
      | false =>
        rw [hb] at h'
        rcases List.mem_cons.1 hk with rfl | hk
        · rw [getT_eq] at hb; exact beStamp_eq hb hx
        · exact notSince_ok l h' k hk hH x hx
theorem besideOp_ok {fl ws : List Nat} {r : RecK} (h : besideOp fl ws r = true) {e : Eff} {F : Nat → Bool} (hF : ∀ k, F k = true → k ∈ fl) (hW : ∀ k, e.ov k ≠ none → k ∈ ws) (hWF : ∀ k, e.ov k ≠ none → F k = true) {e' : Eff} {F' : Nat → Bool} (hfit : Fits r e' F') : Bes e' F' e F := by
  cases r with
  | op i fl' ws' =>
    have h' : Bool.rec (motive := fun _ => Bool) false (noneIn ws' fl) (noneIn ws fl') = true := h
    obtain ⟨f1, f2⟩ := hfit
    cases h1 : noneIn ws fl' with
    | false => rw [h1] at h'; cases h'
    | true =>
      rw [h1] at h'
      have h2 := noneIn_ok _ _ h'
      have h3 := noneIn_ok _ _ h1
      refine ⟨fun k hk => ⟨ff fun hf => h2 k (f2 k hk) (hF k hf), ?_⟩, fun k hk => ff fun hf => h3 k (hW k hk) (f1 k hf)⟩
      cases hq : e.ov k with
      | none => rfl
      | some y => exact absurd (hF k (hWF k (by rw [hq]; simp))) (h2 k (f2 k hk))
  | call i t B H =>
    have h' : Bool.rec (motive := fun _ => Bool) false (allIn ws H) (notSince t B H fl) = true := h
    obtain ⟨f1, f2⟩ := hfit
    cases h1 : notSince t B H fl with
    | false => rw [h1] at h'; cases h'
    | true =>
      rw [h1] at h'
      have h2 := allIn_ok _ _ h'
      have h3 := notSince_ok _ h1
      refine ⟨fun k hk => ⟨ff fun hf => ?_, ?_⟩, fun k hk => ff fun hf => f1 k hf (h2 k (hW k hk))⟩
      · obtain ⟨g1, x, g2, g3⟩ := f2 k hk
        exact h3 k (hF k hf) g1 x g2 g3
      · cases hq : e.ov k with
        | none => rfl
        | some y => exact absurd (h2 k (hW k (by rw [hq]; simp))) (f2 k hk).1
theorem besideCall_ok {t : Nat} {B : TB} {H : List Nat} {r : RecK} (h : besideCall t B H r = true) {e : Eff} {F : Nat → Bool} (hF : ∀ k, F k = true → k ∉ H) (hW : ∀ k, e.ov k ≠ none → k ∉ H ∧ ∃ x, B.get k = some x ∧ t ≤ x.stamp) {e' : Eff} {F' : Nat → Bool} (hfit : Fits r e' F') : Bes e' F' e F := by
  cases r with
  | op i fl' ws' =>
    have h' : Bool.rec (motive := fun _ => Bool) false (notSince t B H fl') (allIn ws' H) = true := h
    obtain ⟨f1, f2⟩ := hfit
    cases h1 : allIn ws' H with
    | false => rw [h1] at h'; cases h'
    | true =>
      rw [h1] at h'
      have h2 := allIn_ok _ _ h1
      have h3 := notSince_ok _ h'
      refine ⟨fun k hk => ⟨ff fun hf => hF k hf (h2 k (f2 k hk)), ?_⟩, fun k hk => ff fun hf => ?_⟩
      · cases hq : e.ov k with
        | none => rfl
        | some y => exact absurd (h2 k (f2 k hk)) (hW k (by rw [hq]; simp)).1
      · obtain ⟨g1, x, g2, g3⟩ := hW k hk
        exact h3 k (f1 k hf) g1 x g2 g3
  | call => cases h
theorem okOp_ok {confl fl ws : List Nat} : ∀ (recs : List RecK), okOp confl fl ws recs = true → ∀ r ∈ recs, idxK r ∈ confl → besideOp fl ws r = true
  | [], h, r, hr => by cases hr
  | a :: l, h, r, hr => by
    have h' : Bool.rec (motive := fun _ => Bool) (okOp confl fl ws l) (Bool.rec (motive := fun _ => Bool) false (okOp confl fl ws l) (besideOp fl ws a)) (memN (idxK a) confl) = true := h
    intro hc
    cases hm : memN (idxK a) confl with
    | false =>
      rw [hm] at h'
      rcases List.mem_cons.1 hr with rfl | hr
      · rw [(memN_iff _ _).2 hc] at hm; cases hm
      · exact okOp_ok l h' r hr hc
    | true =>
      rw [hm] at h'
      have h2 : Bool.rec (motive := fun _ => Bool) false (okOp confl fl ws l) (besideOp fl ws a) = true := h'
      cases hb : besideOp fl ws a with
      | false => rw [hb] at h2; cases h2
      | true =>
        rw [hb] at h2
        rcases List.mem_cons.1 hr with rfl | hr
        · exact hb
        · exact okOp_ok l h2 r hr hc
theorem okCall_ok {confl : List Nat} {t : Nat} {B : TB} {H : List Nat} : ∀ (recs : List RecK), okCall confl t B H recs = true → ∀ r ∈ recs, idxK r ∈ confl → besideCall t B H r = true
  | [], h, r, hr => by cases hr
  | a :: l, h, r, hr => by
    have h' : Bool.rec (motive := fun _ => Bool) (okCall confl t B H l) (Bool.rec (motive := fun _ => Bool) false (okCall confl t B H l) (besideCall t B H a)) (memN (idxK a) confl) = true := h
    intro hc
    cases hm : memN (idxK a) confl with
    | false =>
      rw [hm] at h'
      rcases List.mem_cons.1 hr with rfl | hr
      · rw [(memN_iff _ _).2 hc] at hm; cases hm
      · exact okCall_ok l h' r hr hc
    | true =>
      rw [hm] at h'
      have h2 : Bool.rec (motive := fun _ => Bool) false (okCall confl t B H l) (besideCall t B H a) = true := h'
      cases hb : besideCall t B H a with
      | false => rw [hb] at h2; cases h2
      | true =>
        rw [hb] at h2
        rcases List.mem_cons.1 hr with rfl | hr
        · exact hb
        · exact okCall_ok l h2 r hr hc
theorem shift_eq (nk0 : Nat) : ∀ l : List Nat, shift nk0 l = l.map (nk0 + ·)
  | [] => rfl
  | a :: l => by
    show forceN (Nat.add nk0 a) (fun k => k :: shift nk0 l) = _
    rw [forceN_eq, shift_eq nk0 l]; rfl
theorem keyL_eq (v : CV) : keyL v = kOf v := by cases v <;> rfl
theorem keysAt_eq (l : List Operand) (n : Nat) (s : S) (B : TB) (init : List Nat) : keysAt (mapL srcOf l) s init = l.flatMap (fun x => kOf (evalC (stOf n s B) x)) ++ init := by
  induction l with
  | nil => rfl
  | cons x l ih =>
    show appL (keyL (rd (srcOf x) s)) (keysAt (mapL srcOf l) s init) = _
    rw [appL_eq, ih, keyL_eq, rd_ok x n s B]
    simp

/-! ### One operation -/
/-- What is told of it: nothing was done; or it stands well beside those that it may be at odds with, and is kept in mind if asked. -/
def DOut (confl : List Nat) (keep : Bool) (i : Nat) (recs recs' : List RecK) (e : Eff) (F : Nat → Bool) : Prop :=
  (recs' = recs ∧ (∀ k, F k = false) ∧ ∀ k, e.ov k = none) ∨
  ((∀ r ∈ recs, idxK r ∈ confl → ∀ e' F', Fits r e' F' → Bes e' F' e F) ∧ ∃ r, idxK r = i ∧ Fits r e F ∧ recs' = if keep = true then r :: recs else recs)
def HDOK (P : Program) (T : CTab) (n : Nat) (ops : Array Oper) (o : Oper) (confl : List Nat) (keep : Bool) (i : Nat) (f : DF) : Prop := ∀ cf, CFOK P T cf → ∀ (nk0 : Nat) (recs : List RecK) (s : S) (B : TB) (nk : Nat) (k : List RecK → Kt), f cf nk0 recs s B nk k = .yes →
  ∃ recs' s' B' nk' e F, Step1 P ops o n s B nk s' B' nk' e F ∧ DOut confl keep i recs recs' e F ∧ k recs' s' B' nk' = .yes
def HDOKw (P : Program) (T : CTab) (n : Nat) (ops : Array Oper) (o : Oper) (confl : List Nat) (keep : Bool) (i : Nat) (f : DF) : Prop := ∀ cf, CFOK P T cf → ∀ (nk0 : Nat) (recs : List RecK) (s : S) (B : TB) (nk : Nat) (k : List RecK → Kt), awantedC ops o (stOf n s B) = some true → f cf nk0 recs s B nk k = .yes →
  ∃ recs' s' B' nk' e F, Step1 P ops o n s B nk s' B' nk' e F ∧ DOut confl keep i recs recs' e F ∧ k recs' s' B' nk' = .yes

section
variable {P : Program} {T : CTab} {TT : TTab} {n : Nat} {ops : Array Oper} {o : Oper} {d : Dt}
theorem keep_eq {keep : Bool} {r : RecK} {recs : List RecK} : (Bool.rec (motive := fun _ => List RecK) recs (r :: recs) keep : List RecK) = if keep = true then r :: recs else recs := by cases keep <;> rfl
theorem xChk_ok (hn : n ≤ 256) (hall : allF o = false) {a : HA} (ha : HOK P n o a) (confl : List Nat) (keep : Bool) (i : Nat) :
    HDOKw P T n ops o confl keep i (xChk i confl (mapL srcOf (looks P o)) (mapL srcOf (writes P o)) (if makesBox o = true then [i] else []) keep a) := by
  intro cf hcf nk0 recs s B nk k hw h
  unfold xChk at h
  rw [forceN_eq] at h
  have h : guard (okOp confl (keysAt (mapL srcOf (looks P o)) s (shift nk0 (if makesBox o = true then [i] else []))) (keysAt (mapL srcOf (writes P o)) s (shift nk0 (if makesBox o = true then [i] else []))) recs) .fail
    (a (nk0 + i) cf s B nk (k (Bool.rec (motive := fun _ => List RecK) recs (.op i (keysAt (mapL srcOf (looks P o)) s (shift nk0 (if makesBox o = true then [i] else []))) (keysAt (mapL srcOf (writes P o)) s (shift nk0 (if makesBox o = true then [i] else []))) :: recs) keep))) = .yes := h
  have es : shift nk0 (if makesBox o = true then [i] else []) = if makesBox o = true then [nk0 + i] else [] := by
    rw [shift_eq]; split <;> rfl
  rw [es, keysAt_eq (looks P o) n s B, keysAt_eq (writes P o) n s B, guard_eq] at h
  have e1 : (looks P o).flatMap (fun x => kOf (evalC (stOf n s B) x)) ++ (if makesBox o = true then [nk0 + i] else []) = footL P o (stOf n s B) (nk0 + i) := rfl
  have e2 : (writes P o).flatMap (fun x => kOf (evalC (stOf n s B) x)) ++ (if makesBox o = true then [nk0 + i] else []) = wrL P o (stOf n s B) (nk0 + i) := rfl
  rw [e1, e2] at h
  split at h
  · rename_i hok
    obtain ⟨s', B', nk', ⟨⟨e, h1, h2, h3, h4⟩, h5, h6⟩, h7⟩ := ha (nk0 + i) cf s B nk _ h
    have hF : ∀ j, footF P o (stOf n s B) (nk0 + i) j = true → j ∈ footL P o (stOf n s B) (nk0 + i) := fun j hj => by
      unfold footF at hj
      rw [if_neg (by rw [hall]; simp)] at hj
      exact inF_iff.1 hj
    have hW : ∀ j, e.ov j ≠ none → j ∈ wrL P o (stOf n s B) (nk0 + i) := fun j hj => by
      have := h2 j hj
      unfold wrF at this
      rw [if_neg (by rw [hall]; simp)] at this
      exact inF_iff.1 this
    obtain ⟨s'', B'', nk'', e3, F3, st3, k3⟩ := hs_of (P := P) (T := T) (n := n) (ops := ops) (o := o) ha (fun _ => nk0 + i) cf hcf s B nk _ hw h
    have hst : Step1 P ops o n s B nk s' B' nk' e (footF P o (stOf n s B) (nk0 + i)) := by
      refine ⟨.inr ⟨hw, h1, fun j hj => ⟨wr_foot (h2 j hj), h3 j hj⟩⟩, dst_ok (q := none) h5, h4, h6, fun hc => ?_, fun hc => ?_⟩
      · obtain ⟨c1, c2, c3, c4⟩ := cls0 hc
        have e1 : ∀ j, footF P o (stOf n s B) (nk0 + i) j = false := fun j => by unfold footF footL; rw [c1, c3, c4]; rfl
        refine ⟨e1, fun j => ?_⟩
        cases hq : e.ov j with
        | none => rfl
        | some y =>
          have := wr_foot (h2 j (by rw [hq]; simp))
          rw [e1 j] at this; cases this
      · obtain ⟨c1, c3, c4⟩ := cls1 hc
        have e1 : ∀ j, wrF P o (stOf n s B) (nk0 + i) j = false := fun j => by unfold wrF wrL; rw [c1, c3, c4]; rfl
        intro j
        cases hq : e.ov j with
        | none => rfl
        | some y =>
          have := h2 j (by rw [hq]; simp)
          rw [e1 j] at this; cases this
    refine ⟨_, s', B', nk', e, _, hst, .inr ⟨fun r hr hc e' F' hfit => besideOp_ok (okOp_ok recs hok r hr hc) hF hW (fun j hj => wr_foot (h2 j hj)) hfit, .op i (footL P o (stOf n s B) (nk0 + i)) (wrL P o (stOf n s B) (nk0 + i)), rfl, ⟨hF, hW⟩, keep_eq⟩, h7⟩
  · cases h
theorem hideK_ok : ∀ (l : List Nat) (t : Nat) (B B' : TB), hideK l t B = some B' → ∀ k, B'.get k = if k ∈ l then some (.e .dead t) else B.get k
  | [], t, B, B', h, k => by cases h; simp
  | j :: l, t, B, B', h, k => by
    have h' : thenO (setT B j (.e .dead t)) none (fun B' => hideK l t B') = some B' := h
    rw [thenO_eq] at h'
    cases hs : setT B j (.e .dead t) with
    | none => rw [hs] at h'; cases h'
    | some B1 =>
      rw [hs] at h'
      rw [hideK_ok l t B1 B' h' k, setT_get hs k]
      by_cases hl : k ∈ l
      · simp [hl]
      · by_cases hk : k = j
        · simp [hk]
        · simp [hl, hk]
theorem backK_ok (B0 : TB) (t : Nat) : ∀ (l : List Nat) (B B' : TB), backK B0 t l B = some B' → ∀ k, B'.get k = if k ∈ l then some ((B0.get k).getD (.e .un t)) else B.get k
  | [], B, B', h, k => by cases h; simp
  | j :: l, B, B', h, k => by
    have h' : thenO (setT B j (Option.rec (motive := fun _ => BE) (.e .un t) (fun x => x) (getT j B0))) none (fun B' => backK B0 t l B') = some B' := h
    rw [thenO_eq, getT_eq] at h'
    have e0 : (Option.rec (motive := fun _ => BE) (.e .un t) (fun x => x) (B0.get j) : BE) = (B0.get j).getD (.e .un t) := by cases B0.get j <;> rfl
    rw [e0] at h'
    cases hs : setT B j ((B0.get j).getD (.e .un t)) with
    | none => rw [hs] at h'; cases h'
    | some B1 =>
      rw [hs] at h'
      rw [backK_ok B0 t l B1 B' h' k, setT_get hs k]
      by_cases hl : k ∈ l
      · simp [hl]
      · by_cases hk : k = j
        · simp [hk]
        · simp [hl, hk]
/-- A call that does not see some boxes. -/
theorem xcall_eff (hT : T.OK P) {c : Call} (ho : o.op = .call c) {s : S} {B Bh B1 B2 : TB} {nk nk' : Nat} {H : List Nat} (h1 : hideK H nk B = some Bh) (h2 : backK B nk H B1 = some B2) (hl : Lat Bh B1 nk nk') {g : FuncId} {vs : List CV} (hc : calleeC (evalC (stOf n s B)) c = some (g, vs)) {r : CV}
    (hcall : CallTo P T g vs (entB Bh) fun r' B'' => r' = r ∧ B'' = entB B1) : ∃ ov : Nat → Option Ent, EffL P o (stOf n s B) ⟨r, ov⟩ (fun k => !memN k H) ∧ (∀ k, ov k ≠ none → k ∉ H ∧ ∃ x, B1.get k = some x ∧ nk ≤ x.stamp) ∧ (∀ k, ov k ≠ none → (stOf n s B).B k ≠ .dead) ∧ entB B2 = ovr (stOf n s B).B ov ∧ Lat B B2 nk nk' := by
  have g1 := hideK_ok _ _ _ _ h1
  have g2 := backK_ok _ _ _ _ _ h2
  let ov : Nat → Option Ent := fun k => if memN k H = true then none else (match entK (B.get k) with
    | .dead => none
    | _ => if beStamp nk (B1.get k) = true then some (entK (B1.get k)) else none)
  have st1 : ∀ q : Option BE, beStamp nk q = true → ∃ x, q = some x ∧ nk ≤ x.stamp := fun q hq => by
    cases q with
    | none => cases hq
    | some x => cases x with
      | e y t => exact ⟨_, rfl, by have h' : Nat.ble nk t = true := hq; rw [Nat.ble_eq] at h'; exact h'⟩
      | big a b c t => exact ⟨_, rfl, by have h' : Nat.ble nk t = true := hq; rw [Nat.ble_eq] at h'; exact h'⟩
  have hov : ∀ k, ov k ≠ none → k ∉ H ∧ entK (B.get k) ≠ .dead ∧ beStamp nk (B1.get k) = true := fun k hk => by
    simp only [ov] at hk
    split at hk
    · exact absurd rfl hk
    · rename_i hm
      refine ⟨fun hH => hm ((memN_iff _ _).2 hH), ?_⟩
      split at hk
      · exact absurd rfl hk
      · rename_i hd
        refine ⟨fun e => hd e, ?_⟩
        split at hk
        · rename_i hb; exact hb
        · exact absurd rfl hk
  have inH : ∀ k, k ∈ H → entK (B1.get k) = .dead ∧ ov k = none ∧ entK (B2.get k) = entK (B.get k) := fun k hk => by
    refine ⟨hl.dead k (by rw [g1 k, if_pos hk]; rfl), ?_, ?_⟩
    · simp only [ov]; rw [if_pos ((memN_iff _ _).2 hk)]
    · rw [g2 k, if_pos hk]
      cases B.get k <;> rfl
  have outH : ∀ k, k ∉ H → Bh.get k = B.get k ∧ B2.get k = B1.get k ∧ entK (B1.get k) = (ov k).getD (entK (B.get k)) := fun k hk => by
    have e1 : Bh.get k = B.get k := by rw [g1 k, if_neg hk]
    refine ⟨e1, by rw [g2 k, if_neg hk], ?_⟩
    have hm : ¬ memN k H = true := fun h => hk ((memN_iff _ _).1 h)
    simp only [ov]
    rw [if_neg hm]
    cases hd : entK (B.get k) with
    | dead => simp only [Option.getD_none]; exact hl.dead k (by rw [e1]; exact hd)
    | _ =>
      simp only
      cases hb : beStamp nk (B1.get k) with
      | true => simp
      | false =>
        simp only [Bool.false_eq_true, if_false, Option.getD_none]
        rcases hl.bx k with h5 | ⟨x, h5, h6⟩
        · rw [h5, e1, hd]
        · exact absurd h6 (beStamp_eq hb h5)
  have eB2 : entB B2 = ovr (stOf n s B).B ov := by
    funext k
    show entK (B2.get k) = (ov k).getD (entK (B.get k))
    by_cases hk : k ∈ H
    · rw [(inH k hk).2.1, (inH k hk).2.2]; rfl
    · rw [(outH k hk).2.1, (outH k hk).2.2]
  have hop' : o.op.operands = c.operands := by rw [ho]; rfl
  refine ⟨ov, EffL.of (F := fun k => !memN k H) (fun base w0 => ?_) (fun k hk => ?_), fun k hk => ⟨(hov k hk).1, st1 _ (hov k hk).2.2⟩, fun k hk => (hov k hk).2.1, eB2, ⟨hl.le, fun k => ?_, fun k hk => ?_⟩⟩
  · have hcm : calleeC (evalC (mskS o (fun k => !memN k H) (stOf n s B))) c = some (g, vs) := by
      rw [calleeC_congr (ev := evalC (stOf n s B)) (fun y hy => ?_)]
      · exact hc
      · have hyo : y ∈ o.op.operands := by rw [hop']; exact hy
        cases y with
        | tmp t => simp only [evalC, mskS, named_mem.2 hyo, if_true]
        | _ => rfl
    refine does_callC hT (st := mskS o (fun k => !memN k H) (stOf n s B)) ho hcm ?_
    have hB : (mskS o (fun k => !memN k H) (stOf n s B)).B = entB Bh := by
      funext k
      show (if (!memN k H) = true then entK (B.get k) else .dead) = entK (Bh.get k)
      by_cases hk : k ∈ H
      · rw [(memN_iff _ _).2 hk, g1 k, if_pos hk]; rfl
      · have hm : memN k H = false := ff fun h => hk ((memN_iff _ _).1 h)
        rw [hm, g1 k, if_neg hk]; rfl
    rw [hB]
    have heq : entB B1 = ovr (entB Bh) ov := by
      funext k
      show entK (B1.get k) = (ov k).getD (entK (Bh.get k))
      by_cases hk : k ∈ H
      · rw [(inH k hk).1, (inH k hk).2.1, g1 k, if_pos hk]; rfl
      · rw [(outH k hk).2.2, (outH k hk).1]
    rw [← heq]
    exact hcall
  · have hm : memN k H = false := ff fun h => (hov k hk).1 ((memN_iff _ _).1 h)
    simp [hm]
  · by_cases hk : k ∈ H
    · rw [g2 k, if_pos hk]
      cases hb : B.get k with
      | none => exact .inr ⟨_, rfl, Nat.le_refl _⟩
      | some x => exact .inl rfl
    · rw [(outH k hk).2.1]
      rcases hl.bx k with h5 | h5
      · rw [h5, (outH k hk).1]; exact .inl rfl
      · exact .inr h5
  · by_cases hkH : k ∈ H
    · rw [(inH k hkH).2.2]; exact hk
    · rw [(outH k hkH).2.1]
      exact hl.dead k (by rw [(outH k hkH).1]; exact hk)
theorem xCall_ok (hn : n ≤ 256) (hT : T.OK P) {c : Call} (ho : o.op = .call c) {f : Operand} (hf : c.callee = .value f) {r : Rt} (hr : srcOf f = .mk r) (hd : dstOf n o.dst = .mk d) (confl later : List Nat) (keep : Bool) (i : Nat) :
    HDOKw P T n ops o confl keep i (xCall i confl later keep r (mapL srcOf c.args.toList) d) := by
  intro cf hcf nk0 recs s B nk k hw h
  unfold xCall at h
  cases hp : fnOf (r s) with
  | no => rw [hp] at h; cases h
  | yes g a cc =>
    rw [hp] at h
    generalize hH : hideOf confl (shift nk0 later) recs = H at h
    have h : thenO (hideK H nk B) .fail (fun Bh => cf g (appL a (appL (rdAll (mapL srcOf c.args.toList) s) cc)) Bh nk fun r B1 nk' => guard (okCall confl nk B1 H recs) .fail (thenO (backK B nk H B1) .fail fun B2 =>
      d r s fun s' => k (Bool.rec (motive := fun _ => List RecK) recs (.call i nk B1 H :: recs) keep) s' B2 nk')) = .yes := h
    rw [thenO_eq] at h
    cases hB : hideK H nk B with
    | none => rw [hB] at h; cases h
    | some Bh =>
      rw [hB] at h
      obtain ⟨rv, B1, nk', h1, h2, h3⟩ := hcf _ _ _ _ _ h
      rw [guard_eq] at h1
      split at h1
      · rename_i hok
        rw [thenO_eq] at h1
        cases hb : backK B nk H B1 with
        | none => rw [hb] at h1; cases h1
        | some B2 =>
          rw [hb] at h1
          have hfv : evalC (stOf n s B) f = .fn g a cc := by rw [← src_ok hr n s B]; exact fnOf_ok hp
          have hcv : calleeC (evalC (stOf n s B)) c = some (g, appL a (appL (rdAll (mapL srcOf c.args.toList) s) cc)) := by
            unfold calleeC
            simp only [hf, hfv]
            rw [rdAll_ok _ n s B, appL_eq, appL_eq]
          obtain ⟨ov, e1, e2, e3, e4, e5⟩ := xcall_eff hT ho hB hb h2 hcv h3
          obtain ⟨s', d1, d2, d3⟩ := dst_app (o := o) (B := B) (B' := B2) (e := ⟨rv, ov⟩) hn hd h1 rfl e4
          have hcls : clsOf P o = 3 := by unfold clsOf; rw [ho]; simp only [hf]
          have hF : ∀ j, (!memN j H) = true → j ∉ H := fun j hj hm => by rw [(memN_iff _ _).2 hm] at hj; cases hj
          refine ⟨_, s', B2, nk', ⟨rv, ov⟩, fun j => !memN j H, ⟨.inr ⟨hw, e1, fun j hj => ⟨?_, e3 j hj⟩⟩, dst_ok (q := none) d2, d3, e5, fun h => (by rw [hcls] at h; cases h), fun h => (by rw [hcls] at h; cases h)⟩,
            .inr ⟨fun q hq hc e' F' hfit => besideCall_ok (okCall_ok recs hok q hq hc) hF e2 hfit, .call i nk B1 H, rfl, ⟨hF, e2⟩, keep_eq⟩, d1⟩
          have : memN j H = false := ff fun h => (e2 j hj).1 ((memN_iff _ _).1 h)
          simp [this]
      · cases h1
theorem drSI_ok (hn : n ≤ 256) (hT : T.OK P) (hTT : TOKs P TT) {i : Nat} {q : SI} {f : DF} (h : drSI P T TT n i o q = .mk f) : HDOKw P T n ops o q.confl q.keep i f := by
  have bad : HDOKw P T n ops o q.confl q.keep i xBad := fun cf hcf nk0 recs s B nk k hw h => by cases h
  unfold drSI at h
  cases q with
  | chk confl keep =>
    simp only [drChk] at h
    cases hv : isVC o with
    | true => rw [hv] at h; cases h; exact bad
    | false =>
      cases ha : allF o with
      | true => rw [hv, ha] at h; cases h; exact bad
      | false =>
        rw [hv, ha] at h
        simp only at h
        have hd := decOp_ok (P := P) (T := T) (TT := TT) (o := o) hn hT hTT hv
        cases hq : decOp o.op P T TT n o with
        | h h' => rw [hq] at h hd; cases h; exact xChk_ok hn ha hd confl keep i
        | a a => rw [hq] at h hd; cases h; exact xChk_ok hn ha hd confl keep i
  | call confl later keep =>
    simp only [drCall] at h
    cases ho : o.op with
    | call c =>
      rw [ho] at h
      simp only at h
      cases hc : c.callee with
      | value f0 =>
        rw [hc] at h
        simp only at h
        cases hr : srcOf f0 with
        | mk r =>
          cases hd : dstOf n o.dst with
          | mk d =>
            rw [hr, hd] at h
            cases h
            exact xCall_ok hn hT ho hc hr hd confl later keep i
      | builtin b => rw [hc] at h; cases h; exact bad
      | invoke a b => rw [hc] at h; cases h; exact bad
    | _ => rw [ho] at h; cases h; exact bad
theorem drGuard_ok (hn : n ≤ 256) (hT : T.OK P) (hTT : TOKs P TT) {i : Nat} {q : SI} {f : DF} (hh : drGuard P T TT n ops i o q = .mk f) : HDOK P T n ops o q.confl q.keep i f := by
  intro cf hcf nk0 recs s B nk k hy
  unfold drGuard at hh
  cases hg : o.guard with
  | none =>
    rw [hg] at hh
    exact drSI_ok hn hT hTT hh cf hcf nk0 recs s B nk k (by unfold awantedC; rw [hg]) hy
  | some gw =>
    obtain ⟨j, want⟩ := gw
    rw [hg] at hh
    simp only [nth_arr] at hh
    cases ht : (ops[j]?).bind (·.dst) with
    | none => rw [ht] at hh; cases hh; cases hy
    | some t =>
      rw [ht] at hh
      simp only at hh
      cases hr : srcOf (.tmp t) with
      | mk r =>
        cases hd : dstOf n o.dst with
        | mk d =>
          rw [hr, hd] at hh
          simp only at hh
          cases hh
          have hv : r s = (stOf n s B).s t := src_ok hr n s B
          unfold xGuard at hy
          cases hw : drSI P T TT n i o q with
          | mk h0 =>
            rw [hw] at hy
            have skip : awantedC ops o (stOf n s B) = some false → (d (.val undef) s fun s' => k recs s' B nk) = .yes → ∃ recs' s' B' nk' e F, Step1 P ops o n s B nk s' B' nk' e F ∧ DOut q.confl q.keep i recs recs' e F ∧ k recs' s' B' nk' = .yes := fun hw' hy' => by
              obtain ⟨s', a1, a2⟩ := skip_ok (P := P) (nk := nk) hn hd hw' (k := fun s' => k recs s' B nk) hy'
              exact ⟨recs, s', B, nk, _, _, a1, .inl ⟨rfl, fun _ => rfl, fun _ => rfl⟩, a2⟩
            cases hb : boolOf (r s) with
            | none =>
              rw [hb] at hy
              have hy' : Bool.rec (motive := fun _ => Rs) .fail (d (.val undef) s fun s' => k recs s' B nk) (isVal (r s)) = .yes := hy
              cases hi : isVal (r s) with
              | false => rw [hi] at hy'; cases hy'
              | true =>
                rw [hi] at hy'
                refine skip ?_ hy'
                unfold awantedC
                rw [hg]
                simp only [ht]
                rw [← hv]
                cases hrv : r s with
                | val v => cases v <;> first | rfl | (rw [hrv] at hb; cases hb)
                | _ => rw [hrv] at hi; cases hi
            | some b =>
              rw [hb] at hy
              have hbv := boolOf_ok hb
              have haw : awantedC ops o (stOf n s B) = some (b == want) := by
                unfold awantedC
                rw [hg]
                simp only [ht]
                rw [← hv, hbv]
              have run : awantedC ops o (stOf n s B) = some true → h0 cf nk0 recs s B nk k = .yes → ∃ recs' s' B' nk' e F, Step1 P ops o n s B nk s' B' nk' e F ∧ DOut q.confl q.keep i recs recs' e F ∧ k recs' s' B' nk' = .yes := fun hw' hy' => drSI_ok hn hT hTT hw cf hcf nk0 recs s B nk k hw' hy'
              cases b <;> cases want
              · exact run haw hy
              · exact skip haw hy
              · exact skip haw hy
              · exact run haw hy

/-! ### The region -/
def RecsK (t : RTab) (fx : Nat → Eff × (Nat → Bool)) (recs : List RecK) (i : Nat) : Prop :=
  ∀ j, j < i → ∀ q, lookI j t = some q → q.keep = true → ((∀ k, (fx j).2 k = false) ∧ ∀ k, (fx j).1.ov k = none) ∨ ∃ r ∈ recs, idxK r = j ∧ Fits r (fx j).1 (fx j).2
theorem bes_nil {e e' : Eff} {F F' : Nat → Bool} (h : ((∀ k, F k = false) ∧ ∀ k, e.ov k = none) ∨ ((∀ k, F' k = false) ∧ ∀ k, e'.ov k = none)) : Bes e' F' e F := by
  rcases h with ⟨h1, h2⟩ | ⟨h1, h2⟩
  · exact ⟨fun k _ => ⟨h1 k, h2 k⟩, fun k hk => absurd (h2 k) hk⟩
  · exact ⟨fun k hk => absurd (h2 k) hk, fun k _ => h1 k⟩
theorem runD_ok (hn : n ≤ 256) (hT : T.OK P) (hTT : TOKs P TT) {cf : CF} (hcf : CFOK P T cf) (t : RTab) (nk0 : Nat) : ∀ (rest : List Oper) (i : Nat) (recs : List RecK) (fx0 : Nat → Eff × (Nat → Bool)) (s : S) (B : TB) (nk : Nat) (k : Kt), rest = ops.toList.drop i → RecsK t fx0 recs i →
    runD (drOps P T TT n ops t i rest) cf nk0 recs s B nk k = .yes →
    ∃ fx s' B' nk', Runs P ops n i rest.length fx s B nk s' B' nk' ∧ (∀ j, j < i → fx j = fx0 j) ∧ (∀ i', i ≤ i' → i' < i + rest.length → ∀ qi, lookI i' t = some qi → ∀ j, j < i' → j ∈ qi.confl → ∀ qj, lookI j t = some qj → qj.keep = true → MInd fx j i') ∧ k s' B' nk' = .yes
  | [], i, recs, fx0, s, B, nk, k, hr, hrec, h => ⟨fx0, s, B, nk, ⟨.nil _, .refl _ _, fun j h1 h2 => by simp at h2; omega⟩, fun _ _ => rfl, fun i' h1 h2 => by simp at h2; omega, h⟩
  | o :: rest, i, recs, fx0, s, B, nk, k, hr, hrec, h => by
    obtain ⟨hi, hr'⟩ := drop_cons' hr
    cases hw : drOne P T TT n ops t i o with
    | mk h0 =>
      have h1 : DW.rec (motive := fun _ => Rs) (fun h => h cf nk0 recs s B nk fun recs s B nk => runD (drOps P T TT n ops t (i + 1) rest) cf nk0 recs s B nk k) (drOne P T TT n ops t i o) = .yes := h
      rw [hw] at h1
      have h2 : h0 cf nk0 recs s B nk (fun recs s B nk => runD (drOps P T TT n ops t (i + 1) rest) cf nk0 recs s B nk k) = .yes := h1
      -- what the operation comes to
      obtain ⟨recs1, s1, B1, nk1, e, F, st, hout, h3⟩ : ∃ recs1 s1 B1 nk1 e F, Step1 P ops o n s B nk s1 B1 nk1 e F ∧ (match lookI i t with | none => recs1 = recs | some q => DOut q.confl q.keep i recs recs1 e F) ∧ runD (drOps P T TT n ops t (i + 1) rest) cf nk0 recs1 s1 B1 nk1 k = .yes := by
        unfold drOne at hw
        cases hq : lookI i t with
        | none =>
          rw [hq] at hw
          simp only at hw
          cases hw' : ordGuard P T TT n ops o with
          | mk h' =>
            rw [hw'] at hw
            cases hw
            obtain ⟨s1, B1, nk1, e, F, a1, a2⟩ := ordGuard_ok hn hT hTT hw' cf hcf s B nk _ h2
            exact ⟨recs, s1, B1, nk1, e, F, a1, rfl, a2⟩
        | some q =>
          rw [hq] at hw
          exact drGuard_ok hn hT hTT hw cf hcf nk0 recs s B nk _ h2
      have hrec1 : RecsK t (fxAdd fx0 i e F) recs1 (i + 1) := fun j hj q hq hk => by
        by_cases hji : j = i
        · subst hji
          rw [fxAdd_same]
          rw [hq] at hout
          rcases hout with ⟨_, o1, o2⟩ | ⟨_, r, o1, o2, o3⟩
          · exact .inl ⟨o1, o2⟩
          · rw [if_pos hk] at o3
            exact .inr ⟨r, by rw [o3]; exact List.mem_cons_self, o1, o2⟩
        · rw [fxAdd_ne hji]
          rcases hrec j (by omega) q hq hk with h | ⟨r, hr1, hr2⟩
          · exact .inl h
          · refine .inr ⟨r, ?_, hr2⟩
            cases hqi : lookI i t with
            | none => rw [hqi] at hout; rw [hout]; exact hr1
            | some qi =>
              rw [hqi] at hout
              rcases hout with ⟨o0, _⟩ | ⟨_, r', _, _, o3⟩
              · rw [o0]; exact hr1
              · rw [o3]; split
                · exact List.mem_cons_of_mem _ hr1
                · exact hr1
      obtain ⟨fx, s', B', nk', ⟨g1, g2, g3⟩, g4, g5, h4⟩ := runD_ok hn hT hTT hcf t nk0 rest (i + 1) recs1 (fxAdd fx0 i e F) s1 B1 nk1 k hr' hrec1 h3
      have hfi : fx i = (e, F) := by rw [g4 i (by omega), fxAdd_same]
      have hfj : ∀ j, j < i → fx j = fx0 j := fun j hj => by rw [g4 j (by omega), fxAdd_ne (by omega)]
      refine ⟨fx, s', B', nk', ⟨?_, st.lat.trans g2, fun j a1 a2 o' ho' => ?_⟩, hfj, fun i' a1 a2 qi hqi j hj hc qj hqj hk => ?_, h4⟩
      · rw [List.length_cons, List.range'_succ]
        exact .cons i _ _ (stOf n s1 B1) _ ⟨o, hi, st.dst, by rw [hfi]; exact st.step, by rw [hfi]; exact st.st⟩ g1
      · by_cases hj : j = i
        · subst hj
          rw [hi] at ho'; cases ho'
          rw [hfi]
          exact ⟨st.c0, st.c1⟩
        · exact g3 j (by omega) (by rw [List.length_cons] at a2; omega) o' ho'
      · by_cases hi' : i' = i
        · subst hi'
          apply mind_bes
          rw [hfi, hfj j hj]
          rw [hqi] at hout
          rcases hrec j hj qj hqj hk with hz | ⟨r, hr1, hr2, hr3⟩
          · exact bes_nil (.inr hz)
          · rcases hout with ⟨_, o1, o2⟩ | ⟨o1, _⟩
            · exact bes_nil (.inl ⟨o1, o2⟩)
            · exact o1 r hr1 (by rw [hr2]; exact hc) _ _ hr3
        · exact g5 i' (by omega) (by rw [List.length_cons] at a2; omega) qi hqi j hj hc qj hqj hk
/-- Operations that are not at odds. -/
theorem mind_cls {fx : Nat → Eff × (Nat → Bool)} {i j : Nat} {oi oj : Oper} (hi : (clsOf P oi = 0 → (∀ k, (fx i).2 k = false) ∧ ∀ k, (fx i).1.ov k = none) ∧ (clsOf P oi = 1 → ∀ k, (fx i).1.ov k = none))
    (hj : (clsOf P oj = 0 → (∀ k, (fx j).2 k = false) ∧ ∀ k, (fx j).1.ov k = none) ∧ (clsOf P oj = 1 → ∀ k, (fx j).1.ov k = none)) (h : clash (clsOf P oj) (clsOf P oi) = false) : MInd fx j i := by
  apply mind_bes
  by_cases h0 : clsOf P oj = 0
  · exact bes_nil (.inr (hj.1 h0))
  by_cases h1 : clsOf P oi = 0
  · exact bes_nil (.inl (hi.1 h1))
  by_cases h2 : clsOf P oj = 1 ∧ clsOf P oi = 1
  · exact ⟨fun k hk => absurd (hj.2 h2.1 k) hk, fun k hk => absurd (hi.2 h2.2 k) hk⟩
  · exfalso
    unfold clash at h
    split at h <;> simp_all
theorem region_ok {id : Nat} (hm : P.follows .mixedOrders = true) {t : RTab} (hreg : regOK P ops t = true) {fx : Nat → Eff × (Nat → Bool)} {s s' : S} {B B' : TB} {nk nk' : Nat} (hrun : Runs P ops n 0 ops.size fx s B nk s' B' nk')
    (htab : ∀ i', i' < ops.size → ∀ qi, lookI i' t = some qi → ∀ j, j < i' → j ∈ qi.confl → ∀ qj, lookI j t = some qj → qj.keep = true → MInd fx j i') {base : Nat → Prop} {w0 : Base} {a : Act} {w : World} (hrel : Rel base w0 (stOf n s B) a w) {Q : Exit → Act → World → Prop}
    (hQ : ∀ a' w', Rel base w0 (stOf n s' B') a' w' → Q .normal a' w') : (Code.region id ops true).wp P Q a w := by
  unfold regOK at hreg
  rw [Bool.and_eq_true] at hreg
  refine wp_region_any hm ?_
  have hrel' : Rel base w0 (stOf n s B) a { w with drawn := w.drawn + 1 } := by
    obtain ⟨E, hok, h1, h2, h3⟩ := hrel.ex
    exact ⟨⟨E, hok.drawn 1, h1, h2, h3⟩, hrel.size, hrel.defs⟩
  have hr := hrun.run
  rw [← List.range_eq_range'] at hr
  refine wpAny_run hreg.1 (fun i k hk hi hbit => ?_) ops.size _ (List.range ops.size) _ _ a _ (by simp) (fun i => ?_) List.pairwise_lt_range ?_ (by simp) hr hrel' hQ
  · have h1 := List.all_eq_true.1 hreg.2 i (List.mem_range.2 hi)
    have hoi : ops[i]? = some ops[i] := by simp [hi]
    rw [hoi] at h1
    have h2 := List.all_eq_true.1 h1 k (List.mem_range.2 hk)
    rw [hbit, Bool.false_or] at h2
    have hkl : k < ops.size := by omega
    have hok : ops[k]? = some ops[k] := by simp [hkl]
    rw [hok] at h2
    unfold pairOK at h2
    simp only [Bool.or_eq_true] at h2
    rcases h2 with h2 | h2
    · exact mind_cls (hrun.cls i (Nat.zero_le _) (by omega) _ hoi) (hrun.cls k (Nat.zero_le _) (by omega) _ hok) (by simpa using h2)
    · split at h2
      · rename_i qi qj hqi hqj
        rw [Bool.and_eq_true] at h2
        exact htab i hi qi hqi k hk ((memN_iff _ _).1 h2.1) qj hqj h2.2
      · cases h2
  · by_cases hi : i < ops.size <;> simp [hi, Array.getD]
  · intro k hk hl
    exfalso
    simp [Array.getD, hk] at hl
end
end Go.Proofs.YtmnpjaglgalobaaGreatW.D

/-
  A fast executor for the kernel: code. Laws over any program; no condition.
-/
namespace Go.Proofs.YtmnpjaglgalobaaGreatW.D
open Go Go.RowKit Go.Proofs.YtmnpjaglgalobaaGreatW.C
open Go.Proofs.YtmnpjaglgalobaaGreatW.E (upd upd_same upd_ne dstOK dstOK_spec callable)
set_option linter.unusedVariables false
set_option linter.unusedSimpArgs false

/-- Each of the code's regions whose order is open is as the table says. -/
noncomputable def codeOK (P : Program) (lk : Nat → RTab) : Code → Bool
  | .region id ops true => regOK P ops (lk id)
  | .seq a b => codeOK P lk a && codeOK P lk b
  | .cond _ a b => codeOK P lk a && codeOK P lk b
  | .block _ c => codeOK P lk c
  | .loop c => codeOK P lk c
  | .scope c => codeOK P lk c
  | _ => true
theorem codeOK_find {P : Program} {lk : Nat → RTab} : ∀ (c r : Code) (l : Nat), codeOK P lk c = true → findLabel c l = some r → codeOK P lk r = true
  | .seq a b, r, l, h, hf => by
    have h' : (codeOK P lk a && codeOK P lk b) = true := h
    rw [Bool.and_eq_true] at h'
    unfold findLabel at hf
    split at hf
    · rename_i rest hr
      cases hf
      show (codeOK P lk rest && codeOK P lk b) = true
      rw [Bool.and_eq_true]
      exact ⟨codeOK_find a rest l h'.1 hr, h'.2⟩
    · exact codeOK_find b r l h'.2 hf
  | .label l', r, l, h, hf => by
    unfold findLabel at hf
    split at hf
    · cases hf; rfl
    · cases hf
  | .skip, _, _, _, hf => by cases hf
  | .region .., _, _, _, hf => by cases hf
  | .cond .., _, _, _, hf => by cases hf
  | .block .., _, _, _, hf => by cases hf
  | .loop .., _, _, _, hf => by cases hf
  | .rangeFunc .., _, _, _, hf => by cases hf
  | .exit .., _, _, _, hf => by cases hf
  | .scope .., _, _, _, hf => by cases hf
  | .goto .., _, _, _, hf => by cases hf
  | .ret, _, _, _, hf => by cases hf
  | .refuse .., _, _, _, hf => by cases hf

def contK (k : Kt) (ks : Ks) (e : Exit) (s : S) (B : TB) (nk : Nat) : Rs := match e, ks with
  | .normal, _ => k s B nk
  | .exit i, .mk ex _ _ => ex i s B nk
  | .goto l, .mk _ go _ => go l s B nk
  | .ret, .mk _ _ rt => rt s B nk
  | _, _ => .fail
/-- The code ends so, in this state, whatever memory it stands for. -/
def Ends (P : Program) (n : Nat) (W : (Exit → Act → World → Prop) → Act → World → Prop) (s : S) (B : TB) (e : Exit) (s' : S) (B' : TB) : Prop :=
  ∀ (base : Nat → Prop) (w0 : Base) (a : Act) (w : World), Rel base w0 (stOf n s B) a w → W (fun e' a' w' => e' = e ∧ Rel base w0 (stOf n s' B') a' w') a w
def COK (P : Program) (T : CTab) (n : Nat) (w : CW) (c : Code) : Prop := ∀ cf, CFOK P T cf → ∀ (s : S) (B : TB) (nk : Nat) (k : Kt) (ks : Ks), appC w cf s B nk k ks = .yes →
  ∃ e s' B' nk', Lat B B' nk nk' ∧ contK k ks e s' B' nk' = .yes ∧ Ends P n (fun Q => c.wp P Q) s B e s' B'

section
variable {P : Program} {T : CTab} {TT : TTab} {DT : DTab} {n : Nat}
theorem loop_ok {w : CW} {c : Code} (hw : COK P T n w c) {cf : CF} (hcf : CFOK P T cf) (k : Kt) (ks : Ks) : ∀ (N : Nat) (s : S) (B : TB) (nk : Nat), loopN w cf ks N s B nk = .yes →
    ∃ e s' B' nk', Lat B B' nk nk' ∧ e ≠ .normal ∧ contK k ks e s' B' nk' = .yes ∧ Ends P n (fun Q => LoopW P c Q) s B e s' B'
  | 0, s, B, nk, h => by cases h
  | N + 1, s, B, nk, h => by
    have h' : appC w cf s B nk (loopN w cf ks N) ks = .yes := h
    obtain ⟨e1, s1, B1, nk1, l1, c1, w1⟩ := hw cf hcf s B nk _ ks h'
    by_cases he : e1 = .normal
    · subst he
      obtain ⟨e2, s2, B2, nk2, l2, n2, c2, w2⟩ := loop_ok hw hcf k ks N s1 B1 nk1 c1
      refine ⟨e2, s2, B2, nk2, l1.trans l2, n2, c2, fun base w0 a wd hrel => ?_⟩
      refine loopW_step (wp_mono (w1 base w0 a wd hrel) fun e' a' w' ⟨he', hr'⟩ => ?_)
      subst he'
      exact w2 base w0 a' w' hr'
    · refine ⟨e1, s1, B1, nk1, l1, he, ?_, fun base w0 a wd hrel => ?_⟩
      · cases e1 <;> first | exact absurd rfl he | exact c1
      · refine loopW_step (wp_mono (w1 base w0 a wd hrel) fun e' a' w' ⟨he', hr'⟩ => ?_)
        subst he'
        cases e' <;> first | exact absurd rfl he | exact ⟨rfl, hr'⟩
theorem scope_ok {g : FuncId} {d : Nat} {c : Code} (hall : ∀ y, codeOK P (fun id => lookR g id DT) y = true → COK P T n (comp P T TT DT g n d y) y) (hc : codeOK P (fun id => lookR g id DT) c = true) {cf : CF} (hcf : CFOK P T cf) (k : Kt) (ex go : Nat → Kt) (rt : Kt) : ∀ (N : Nat) (y : Code), codeOK P (fun id => lookR g id DT) y = true → ∀ (s : S) (B : TB) (nk : Nat),
    scopeN (labW (comp P T TT DT g n d) c) cf k ex rt N (comp P T TT DT g n d y) s B nk = .yes →
    ∃ e s' B' nk', Lat B B' nk nk' ∧ contK k (.mk ex go rt) e s' B' nk' = .yes ∧ Ends P n (fun Q => ScopeW P c y Q) s B e s' B'
  | 0, y, hy, s, B, nk, h => by cases h
  | N + 1, y, hy, s, B, nk, h => by
    have h' : appC (comp P T TT DT g n d y) cf s B nk k (.mk ex (fun l s B nk => LK.rec (motive := fun _ => Rs) .fail (fun w' => scopeN (labW (comp P T TT DT g n d) c) cf k ex rt N w' s B nk) (labW (comp P T TT DT g n d) c l)) rt) = .yes := h
    obtain ⟨e1, s1, B1, nk1, l1, c1, w1⟩ := hall y hy cf hcf s B nk _ _ h'
    cases e1 with
    | goto l =>
      have c1 : LK.rec (motive := fun _ => Rs) .fail (fun w' => scopeN (labW (comp P T TT DT g n d) c) cf k ex rt N w' s1 B1 nk1) (labW (comp P T TT DT g n d) c l) = .yes := c1
      unfold labW at c1
      cases hf : findLabel c l with
      | none => simp only [hf] at c1; cases c1
      | some r =>
        simp only [hf] at c1
        obtain ⟨e2, s2, B2, nk2, l2, c2, w2⟩ := scope_ok hall hc hcf k ex go rt N r (codeOK_find c r l hc hf) s1 B1 nk1 c1
        refine ⟨e2, s2, B2, nk2, l1.trans l2, c2, fun base w0 a wd hrel => ?_⟩
        refine scopeW_step (wp_mono (w1 base w0 a wd hrel) fun e' a' w' ⟨he', hr'⟩ => ?_)
        subst he'
        simp only [hf]
        exact w2 base w0 a' w' hr'
    | normal =>
      refine ⟨.normal, s1, B1, nk1, l1, c1, fun base w0 a wd hrel => scopeW_step (wp_mono (w1 base w0 a wd hrel) fun e' a' w' ⟨he', hr'⟩ => ?_)⟩
      subst he'; exact ⟨rfl, hr'⟩
    | exit i =>
      refine ⟨.exit i, s1, B1, nk1, l1, c1, fun base w0 a wd hrel => scopeW_step (wp_mono (w1 base w0 a wd hrel) fun e' a' w' ⟨he', hr'⟩ => ?_)⟩
      subst he'; exact ⟨rfl, hr'⟩
    | ret =>
      refine ⟨.ret, s1, B1, nk1, l1, c1, fun base w0 a wd hrel => scopeW_step (wp_mono (w1 base w0 a wd hrel) fun e' a' w' ⟨he', hr'⟩ => ?_)⟩
      subst he'; exact ⟨rfl, hr'⟩
    | panic ch => cases c1
    | outgrown => cases c1

theorem appC_mk {f : C} {cf : CF} {s : S} {B : TB} {nk : Nat} {k : Kt} {ks : Ks} : appC (.mk f) cf s B nk k ks = f cf s B nk k ks := rfl
theorem comp_loop {g : FuncId} {d : Nat} {c : Code} : comp P T TT DT g n (d + 1) (.loop c) = .mk (kLoop (comp P T TT DT g n d c)) := rfl
theorem comp_scope {g : FuncId} {d : Nat} {c : Code} : comp P T TT DT g n (d + 1) (.scope c) = .mk (kScope (labW (comp P T TT DT g n d) c) (comp P T TT DT g n d c)) := rfl
theorem kLoop_eq {a : CW} {cf : CF} {s : S} {B : TB} {nk : Nat} {k : Kt} {ks : Ks} : kLoop a cf s B nk k ks = loopN a cf ks fuelN s B nk := rfl
theorem kScope_eq {lab : Nat → LK} {a : CW} {cf : CF} {s : S} {B : TB} {nk : Nat} {k : Kt} {ex go : Nat → Kt} {rt : Kt} : kScope lab a cf s B nk k (.mk ex go rt) = scopeN lab cf k ex rt fuelN a s B nk := rfl

theorem comp_ok (hn : n ≤ 256) (hT : T.OK P) (hTT : TOKs P TT) (hm : P.follows .mixedOrders = true) {g : FuncId} : ∀ (d : Nat) (c : Code), codeOK P (fun id => lookR g id DT) c = true → COK P T n (comp P T TT DT g n d c) c := by
  intro d
  induction d with
  | zero => intro c hc cf hcf s B nk k ks h; cases h
  | succ d ih =>
    intro c hc cf hcf s B nk k ks h
    have fin : ∀ e, contK k ks e s B nk = .yes → (Ends P n (fun Q => c.wp P Q) s B e s B) → ∃ e s' B' nk', Lat B B' nk nk' ∧ contK k ks e s' B' nk' = .yes ∧ Ends P n (fun Q => c.wp P Q) s B e s' B' := fun e h1 h2 => ⟨e, s, B, nk, .refl _ _, h1, h2⟩
    cases c with
    | skip => exact fin .normal h fun base w0 a w hrel => wp_skip ⟨rfl, hrel⟩
    | label l => exact fin .normal h fun base w0 a w hrel => wp_label ⟨rfl, hrel⟩
    | exit i =>
      refine fin (.exit i) ?_ fun base w0 a w hrel => wp_exit ⟨rfl, hrel⟩
      cases ks; exact h
    | goto l =>
      refine fin (.goto l) ?_ fun base w0 a w hrel => wp_goto ⟨rfl, hrel⟩
      cases ks; exact h
    | ret =>
      refine fin .ret ?_ fun base w0 a w hrel => wp_ret ⟨rfl, hrel⟩
      cases ks; exact h
    | rangeFunc _ _ _ _ => cases h
    | refuse _ => cases h
    | region id ops draw =>
      have hsz : ops.toList.length = ops.size := by simp
      cases draw with
      | false =>
        have h' : runL (mapL (ordGuard P T TT n ops) ops.toList) cf s B nk k = .yes := h
        obtain ⟨fx, s', B', nk', hrun, h1⟩ := runL_ok hn hT hTT hcf ops.toList 0 s B nk k (by simp) h'
        refine ⟨.normal, s', B', nk', hrun.lat, h1, fun base w0 a w hrel => wp_region ?_⟩
        have hr := hrun.run
        rw [hsz, ← List.range_eq_range'] at hr
        exact wpOps_of_run _ _ _ a w hr hrel fun a' w' hr' => ⟨rfl, hr'⟩
      | true =>
        have hreg : regOK P ops (lookR g id DT) = true := hc
        have h' : appC (kOpen P T TT n ops (lookR g id DT)) cf s B nk k ks = .yes := h
        unfold kOpen at h'
        cases ht : lookR g id DT with
        | nil =>
          rw [ht] at h' hreg
          have h2 : runL (mapL (ordGuard P T TT n ops) ops.toList) cf s B nk k = .yes := h'
          obtain ⟨fx, s', B', nk', hrun, h1⟩ := runL_ok hn hT hTT hcf ops.toList 0 s B nk k (by simp) h2
          rw [hsz] at hrun
          refine ⟨.normal, s', B', nk', hrun.lat, h1, fun base w0 a w hrel => ?_⟩
          exact region_ok hm hreg hrun (fun i' _ qi hqi => by cases hqi) hrel fun a' w' hr' => ⟨rfl, hr'⟩
        | cons p l =>
          rw [ht] at h' hreg
          have h2 : forceN (Nat.add nk ops.size) (fun nk' => runD (drOps P T TT n ops (p :: l) 0 ops.toList) cf nk [] s B nk' k) = .yes := h'
          rw [forceN_eq] at h2
          obtain ⟨fx, s', B', nk', hrun, _, htab, h1⟩ := runD_ok hn hT hTT hcf (p :: l) nk ops.toList 0 [] (fun _ => ({ v := .any }, fun _ => false)) s B (nk + ops.size) k (by simp) (fun j hj => by omega) h2
          rw [hsz] at hrun htab
          have hlat : Lat B B' nk nk' := Lat.trans ⟨Nat.le_add_right _ _, fun _ => .inl rfl, fun _ h => h⟩ hrun.lat
          refine ⟨.normal, s', B', nk', hlat, h1, fun base w0 a w hrel => ?_⟩
          exact region_ok hm hreg hrun (fun i' hi' qi hqi j hj hcj qj hqj hk => htab i' (Nat.zero_le _) (by omega) qi hqi j hj hcj qj hqj hk) hrel fun a' w' hr' => ⟨rfl, hr'⟩
    | seq c1 c2 =>
      have hc' : (codeOK P (fun id => lookR g id DT) c1 && codeOK P (fun id => lookR g id DT) c2) = true := hc
      rw [Bool.and_eq_true] at hc'
      have h' : appC (comp P T TT DT g n d c1) cf s B nk (fun s B nk => appC (comp P T TT DT g n d c2) cf s B nk k ks) ks = .yes := h
      obtain ⟨e1, s1, B1, nk1, l1, k1, w1⟩ := ih c1 hc'.1 cf hcf s B nk _ ks h'
      by_cases he : e1 = .normal
      · subst he
        obtain ⟨e2, s2, B2, nk2, l2, k2, w2⟩ := ih c2 hc'.2 cf hcf s1 B1 nk1 k ks k1
        refine ⟨e2, s2, B2, nk2, l1.trans l2, k2, fun base w0 a w hrel => wp_seq (wp_mono (w1 base w0 a w hrel) fun e' a' w' ⟨he', hr'⟩ => ?_)⟩
        subst he'
        exact w2 base w0 a' w' hr'
      · refine ⟨e1, s1, B1, nk1, l1, ?_, fun base w0 a w hrel => wp_seq (wp_mono (w1 base w0 a w hrel) fun e' a' w' ⟨he', hr'⟩ => ?_)⟩
        · cases e1 <;> first | exact absurd rfl he | exact k1
        · subst he'
          cases e' <;> first | exact absurd rfl he | exact ⟨rfl, hr'⟩
    | cond c a1 a2 =>
      have hc' : (codeOK P (fun id => lookR g id DT) a1 && codeOK P (fun id => lookR g id DT) a2) = true := hc
      rw [Bool.and_eq_true] at hc'
      have h0 : appC (match srcOf c with | .mk r => .mk (kCond r (comp P T TT DT g n d a1) (comp P T TT DT g n d a2))) cf s B nk k ks = .yes := h
      cases hr : srcOf c with
      | mk r =>
        rw [hr] at h0
        have h' : Option.rec (motive := fun _ => Rs) .fail (fun t => Bool.rec (motive := fun _ => Rs) (appC (comp P T TT DT g n d a2) cf s B nk k ks) (appC (comp P T TT DT g n d a1) cf s B nk k ks) t) (boolOf (r s)) = .yes := h0
        cases hb : boolOf (r s) with
        | none => rw [hb] at h'; cases h'
        | some b =>
          rw [hb] at h'
          have hv : evalC (stOf n s B) c = .val (.bool b) := by rw [← src_ok hr n s B]; exact boolOf_ok hb
          have hcv : ∀ base w0 a w, Rel base w0 (stOf n s B) a w → a.eval c = .bool b := fun base w0 a w hrel => by
            obtain ⟨E, _, _, _, hs⟩ := hrel.ex
            have := evalC_ok hs c
            rw [hv, RV.val_iff] at this
            exact this
          cases b with
          | true =>
            obtain ⟨e1, s1, B1, nk1, l1, k1, w1⟩ := ih a1 hc'.1 cf hcf s B nk k ks h'
            exact ⟨e1, s1, B1, nk1, l1, k1, fun base w0 a w hrel => wp_cond_true (hcv base w0 a w hrel) (w1 base w0 a w hrel)⟩
          | false =>
            obtain ⟨e1, s1, B1, nk1, l1, k1, w1⟩ := ih a2 hc'.2 cf hcf s B nk k ks h'
            exact ⟨e1, s1, B1, nk1, l1, k1, fun base w0 a w hrel => wp_cond_false (hcv base w0 a w hrel) (w1 base w0 a w hrel)⟩
    | block id c =>
      obtain ⟨ex, go, rt⟩ := ks
      have h' : appC (comp P T TT DT g n d c) cf s B nk k (.mk (fun i s B nk => Bool.rec (motive := fun _ => Rs) (ex i s B nk) (k s B nk) (Nat.beq i id)) go rt) = .yes := h
      obtain ⟨e1, s1, B1, nk1, l1, k1, w1⟩ := ih c hc cf hcf s B nk k _ h'
      cases e1 with
      | exit i =>
        have k1 : Bool.rec (motive := fun _ => Rs) (ex i s1 B1 nk1) (k s1 B1 nk1) (Nat.beq i id) = .yes := k1
        cases hb : Nat.beq i id with
        | true =>
          rw [hb] at k1
          have hi := Nat.eq_of_beq_eq_true hb
          refine ⟨.normal, s1, B1, nk1, l1, k1, fun base w0 a w hrel => wp_block (wp_mono (w1 base w0 a w hrel) fun e' a' w' ⟨he', hr'⟩ => ?_)⟩
          subst he'
          simp only [Exit.inBlock]
          rw [if_pos hi]
          exact ⟨trivial, hr'⟩
        | false =>
          rw [hb] at k1
          have hi : i ≠ id := fun e => by subst e; rw [Nat.beq_refl] at hb; cases hb
          refine ⟨.exit i, s1, B1, nk1, l1, k1, fun base w0 a w hrel => wp_block (wp_mono (w1 base w0 a w hrel) fun e' a' w' ⟨he', hr'⟩ => ?_)⟩
          subst he'
          simp only [Exit.inBlock]
          rw [if_neg hi]
          exact ⟨trivial, hr'⟩
      | normal =>
        refine ⟨.normal, s1, B1, nk1, l1, k1, fun base w0 a w hrel => wp_block (wp_mono (w1 base w0 a w hrel) fun e' a' w' ⟨he', hr'⟩ => ?_)⟩
        subst he'; exact ⟨rfl, hr'⟩
      | goto l =>
        refine ⟨.goto l, s1, B1, nk1, l1, k1, fun base w0 a w hrel => wp_block (wp_mono (w1 base w0 a w hrel) fun e' a' w' ⟨he', hr'⟩ => ?_)⟩
        subst he'; exact ⟨rfl, hr'⟩
      | ret =>
        refine ⟨.ret, s1, B1, nk1, l1, k1, fun base w0 a w hrel => wp_block (wp_mono (w1 base w0 a w hrel) fun e' a' w' ⟨he', hr'⟩ => ?_)⟩
        subst he'; exact ⟨rfl, hr'⟩
      | panic ch => cases k1
      | outgrown => cases k1
    | loop c =>
      rw [comp_loop, appC_mk, kLoop_eq] at h
      obtain ⟨e1, s1, B1, nk1, l1, _, k1, w1⟩ := loop_ok (ih c hc) hcf k ks fuelN s B nk h
      exact ⟨e1, s1, B1, nk1, l1, k1, fun base w0 a w hrel => wp_loopW (w1 base w0 a w hrel)⟩
    | scope c =>
      obtain ⟨ex, go, rt⟩ := ks
      rw [comp_scope, appC_mk, kScope_eq] at h
      have hcc : codeOK P (fun id => lookR g id DT) c = true := hc
      obtain ⟨e1, s1, B1, nk1, l1, k1, w1⟩ := scope_ok (c := c) ih hcc hcf k ex go rt fuelN c hcc s B nk h
      exact ⟨e1, s1, B1, nk1, l1, k1, fun base w0 a w hrel => wp_scopeW (w1 base w0 a w hrel)⟩
end
end Go.Proofs.YtmnpjaglgalobaaGreatW.D

/-
  A fast executor for the kernel: functions. Laws over any program; no condition.
-/
namespace Go.Proofs.YtmnpjaglgalobaaGreatW.D
open Go Go.RowKit Go.Proofs.YtmnpjaglgalobaaGreatW.C
open Go.Proofs.YtmnpjaglgalobaaGreatW.E (upd upd_same upd_ne dstOK dstOK_spec callable res1 results_eq)
set_option linter.unusedVariables false
set_option linter.unusedSimpArgs false

/-- What is asked of the tables. -/
structure PK (P : Program) (T : CTab) (TT : TTab) (DT : DTab) (hk : FuncId → Option HK) : Prop where
  t : T.OK P
  tt : ∀ t i, TT.get t = some i → T.get t = some i.c ∧ KD.OK P t i.d
  mixed : P.follows .mixedOrders = true
  call : ∀ g fn, P.funcs[g]? = some fn → fn.body.isSome = true → callable P g = true
  code : ∀ g fn c, P.funcs[g]? = some fn → fn.body = some c → codeOK P (fun id => lookR g id DT) c = true
  hook : ∀ g h, hk g = some h → ∀ vs B nk k, h vs B nk k = .yes → ∃ r B' nk', k r B' nk' = .yes ∧ Lat B B' nk nk' ∧ CallTo P T g vs (entB B) fun r' B'' => r' = r ∧ B'' = entB B'
theorem PK.tok {P : Program} {T : CTab} {TT : TTab} {DT : DTab} {hk : FuncId → Option HK} (h : PK P T TT DT hk) : TOKs P TT := fun t i hi => ⟨h.t _ _ (h.tt t i hi).1, (h.tt t i hi).2⟩

theorem chunks_get {α : Type} : ∀ (n : Nat) (l : List α) (i : Nat), (chunks n l)[i]? = if i < n then some (l.drop (20 * i)) else none
  | 0, l, i => by simp [chunks]
  | n + 1, l, 0 => by simp [chunks]
  | n + 1, l, i + 1 => by
    unfold chunks
    rw [List.getElem?_cons_succ, chunks_get n _ i, List.drop_drop]
    by_cases h : i < n
    · rw [if_pos h, if_pos (by omega)]; congr 2; omega
    · rw [if_neg h, if_neg (by omega)]
theorem nth20_ok {P : Program} {g : Nat} {fn : Func} (h : nth20 (funL P) g = some fn) : P.funcs[g]? = some fn := by
  unfold nth20 funL at h
  rw [thenO_eq, nthL_eq, chunks_get] at h
  by_cases hg : Nat.div g 20 < 50
  · rw [if_pos hg] at h
    simp only [nthL_eq, List.getElem?_drop] at h
    have e : 20 * (Nat.div g 20) + Nat.mod g 20 = g := Nat.div_add_mod g 20
    rw [e] at h
    simpa using h
  · rw [if_neg hg] at h; cases h

/-! ### Arguments, results -/
theorem N0_get (i : Nat) : N0.get i = .val undef := by
  have : ∀ q : Nat, (List.replicate 16 (CV.val undef)).getD q (.val undef) = .val undef := fun q => by
    rw [List.getD_eq_getElem?_getD, List.getElem?_replicate]
    split <;> rfl
  exact this i
theorem S0_get (j : Nat) : S0.get j = .val undef := by
  show (if j < 256 then ((List.replicate 16 N0).getD (j / 16) N0).get (j % 16) else .val undef) = .val undef
  split
  · have : (List.replicate 16 N0).getD (j / 16) N0 = N0 := by
      rw [List.getD_eq_getElem?_getD, List.getElem?_replicate]
      split <;> rfl
    rw [this, N0_get]
  · rfl
theorem argsS_get : ∀ (vs : List CV) (i : Nat) (s : S), i + vs.length ≤ 256 → ∀ j, (argsS vs i s).get j = if i ≤ j ∧ j < i + vs.length then (vs[j - i]?).getD (.val undef) else s.get j
  | [], i, s, h, j => by rw [if_neg (by simp)]; rfl
  | v :: vs, i, s, h, j => by
    have hlen : (v :: vs).length = vs.length + 1 := rfl
    rw [hlen] at h ⊢
    obtain ⟨hh, l, wh, wl, e1, _, f2⟩ := slot_ok (show i < 256 by omega)
    obtain ⟨s', _, g1, g2⟩ := f2 s v
    have es : setS (slotOf i) v s = s' := by rw [e1]; exact g1
    show (argsS vs (i + 1) (setS (slotOf i) v s)).get j = _
    rw [es, argsS_get vs (i + 1) s' (by omega) j, g2 j]
    by_cases h2 : j = i
    · subst h2
      rw [if_neg (by omega), if_pos rfl, if_pos (by omega)]
      simp
    · by_cases h3 : i + 1 ≤ j ∧ j < i + 1 + vs.length
      · rw [if_pos h3, if_pos (by omega), show j - i = (j - (i + 1)) + 1 by omega, List.getElem?_cons_succ]
      · rw [if_neg h3, if_neg h2, if_neg (by omega)]
theorem args_st {n : Nat} {vs : List CV} (h : vs.length ≤ 256) (B : TB) : stOf n (argsS vs 0 S0) B = ⟨n, fun t => vs.getD t (.val undef), entB B⟩ := by
  unfold stOf
  simp only [St.mk.injEq, true_and]
  refine ⟨?_, rfl⟩
  funext j
  rw [argsS_get vs 0 S0 (by omega) j]
  simp only [Nat.zero_le, true_and, Nat.zero_add, Nat.sub_zero]
  by_cases hj : j < vs.length
  · rw [if_pos hj, List.getD_eq_getElem?_getD]
  · rw [if_neg hj, S0_get, List.getD_eq_getElem?_getD, List.getElem?_eq_none (by omega)]; rfl

section
variable {P : Program} {T : CTab} {TT : TTab} {DT : DTab} {hk : FuncId → Option HK} {n : Nat}
theorem res1_ok (pk : PK P T TT DT hk) {r : ResultVar} {s : S} {B : TB} {v : CV} (h : res1K (rkOf TT r) s B = some v) : res1C T (stOf n s B) r = some v := by
  cases r with
  | tmp t =>
    unfold rkOf at h
    simp only at h
    cases hr : srcOf (.tmp t) with
    | mk f =>
      rw [hr] at h
      have h' : some (f s) = some v := h
      have := src_ok hr n s B
      cases h'
      rw [this]; rfl
  | cell a t =>
    unfold rkOf at h
    simp only at h
    cases hi : TT.get t with
    | none => rw [hi] at h; cases hr : srcOf (.tmp a) <;> rw [hr] at h <;> cases h
    | some i =>
      cases hr : srcOf (.tmp a) with
      | mk f =>
        rw [hi, hr] at h
        have h' : P2.rec (motive := fun _ => Option CV) none (fun k off => ldAt i.c.agg i.c.sz off (rowOf (getT k B))) (ptrOf (f s)) = some v := h
        cases hp : ptrOf (f s) with
        | no => rw [hp] at h'; cases h'
        | yes k off =>
          rw [hp] at h'
          have h2 : ldAt i.c.agg i.c.sz off (rowOf (getT k B)) = some v := h'
          rw [getT_eq] at h2
          obtain ⟨cs, g1, g2⟩ := ld_ok h2
          have hv : (stOf n s B).s a = .ptr k off := by
            have := src_ok hr n s B
            rw [ptrOf_ok hp] at this
            exact this.symm
          unfold res1C
          simp only [hv]
          rw [show (stOf n s B).B k = .row cs from g1, (pk.tt t i hi).1]
          exact g2
theorem resM_ok (pk : PK P T TT DT hk) {s : S} {B : TB} : ∀ (rs : List ResultVar) (vs : List CV), resM (mapL (rkOf TT) rs) s B = some vs → resMC T (stOf n s B) rs = some vs
  | [], vs, h => by cases h; rfl
  | r :: rs, vs, h => by
    have h' : thenO (res1K (rkOf TT r) s B) none (fun v => consO v (resM (mapL (rkOf TT) rs) s B)) = some vs := h
    rw [thenO_eq] at h'
    cases h1 : res1K (rkOf TT r) s B with
    | none => rw [h1] at h'; cases h'
    | some v =>
      rw [h1] at h'
      simp only at h'
      cases h2 : resM (mapL (rkOf TT) rs) s B with
      | none => rw [h2] at h'; cases h'
      | some l =>
        rw [h2] at h'
        cases h'
        unfold resMC
        rw [res1_ok (n := n) pk h1, resM_ok pk rs l h2]
theorem resK_ok (pk : PK P T TT DT hk) {s : S} {B : TB} {nk : Nat} {k : CV → TB → Nat → Rs} (rs : List ResultVar) (h : resK (mapL (rkOf TT) rs) s B nk k = .yes) : ∃ r, resC T (stOf n s B) rs = some r ∧ k r B nk = .yes := by
  match rs, h with
  | [], h => exact ⟨.tup [], rfl, h⟩
  | [r], h =>
    have h' : Option.rec (motive := fun _ => Rs) .fail (fun v => k v B nk) (res1K (rkOf TT r) s B) = .yes := h
    cases h1 : res1K (rkOf TT r) s B with
    | none => rw [h1] at h'; cases h'
    | some v => rw [h1] at h'; exact ⟨v, res1_ok pk h1, h'⟩
  | r :: q :: rs, h =>
    have h' : Option.rec (motive := fun _ => Rs) .fail (fun vs => k (.tup vs) B nk) (resM (mapL (rkOf TT) (r :: q :: rs)) s B) = .yes := h
    cases h1 : resM (mapL (rkOf TT) (r :: q :: rs)) s B with
    | none => rw [h1] at h'; cases h'
    | some vs =>
      rw [h1] at h'
      refine ⟨.tup vs, ?_, h'⟩
      have := resM_ok (n := n) pk _ vs h1
      unfold resC
      simp only [this]
theorem runF_ok (pk : PK P T TT DT hk) : ∀ d, CFOK P T (runF P T TT DT hk d)
  | 0, g, vs, B, nk, k, h => by cases h
  | d + 1, g, vs, B, nk, k, h => by
    have ih := runF_ok pk d
    have h0 : FK.rec (motive := fun _ => Rs) .fail (fun h => h vs B nk k) (fun w rs m => Bool.rec (motive := fun _ => Rs) .fail (appC w (runF P T TT DT hk d) (argsS vs 0 S0) B nk (fun s B nk => resK rs s B nk k) (.mk (fun _ _ _ _ => .fail) (fun _ _ _ _ => .fail) fun s B nk => resK rs s B nk k)) (Nat.ble (List.length vs) m)) (fnK P T TT DT hk g) = .yes := h
    unfold fnK at h0
    cases hh : hk g with
    | some hf => rw [hh] at h0; exact pk.hook g hf hh vs B nk k h0
    | none =>
      rw [hh] at h0
      simp only at h0
      cases hfn : nth20 (funL P) g with
      | none => rw [hfn] at h0; cases h0
      | some fn =>
        rw [hfn] at h0
        simp only at h0
        cases hb : fn.body with
        | none => rw [hb] at h0; cases h0
        | some c =>
          cases hs : smallF fn with
          | false => rw [hb, hs] at h0; cases h0
          | true =>
            rw [hb, hs] at h0
            have h1 : Bool.rec (motive := fun _ => Rs) .fail (appC (comp P T TT DT g fn.ntmps 300 c) (runF P T TT DT hk d) (argsS vs 0 S0) B nk (fun s B nk => resK (mapL (rkOf TT) fn.results.toList) s B nk k) (.mk (fun _ _ _ _ => .fail) (fun _ _ _ _ => .fail) fun s B nk => resK (mapL (rkOf TT) fn.results.toList) s B nk k)) (Nat.ble (List.length vs) fn.ntmps) = .yes := h0
            cases hl : Nat.ble (List.length vs) fn.ntmps with
            | false => rw [hl] at h1; cases h1
            | true =>
              rw [hl] at h1
              have hf := nth20_ok hfn
              have hn : fn.ntmps ≤ 256 := by unfold smallF at hs; rw [Nat.ble_eq] at hs; exact hs
              have hlen : vs.length ≤ fn.ntmps := by rw [Nat.ble_eq] at hl; exact hl
              obtain ⟨e, s', B', nk', l1, c1, w1⟩ := comp_ok (TT := TT) hn pk.t pk.tok pk.mixed 300 c (pk.code g fn c hf hb) (runF P T TT DT hk d) ih _ B nk _ _ h1
              have done : resK (mapL (rkOf TT) fn.results.toList) s' B' nk' k = .yes → (e = .normal ∨ e = .ret) → ∃ r B' nk', k r B' nk' = .yes ∧ Lat B B' nk nk' ∧ CallTo P T g vs (entB B) fun r' B'' => r' = r ∧ B'' = entB B' := fun hres he => by
                obtain ⟨r, r1, r2⟩ := resK_ok (n := fn.ntmps) pk _ hres
                refine ⟨r, B', nk', r2, l1, pk.call g fn hf (by rw [hb]; rfl), fn, c, hf, hb, hlen, fun base w0 a w hrel => ?_⟩
                rw [← args_st (n := fn.ntmps) (by omega) B] at hrel
                refine wp_mono (w1 base w0 a w hrel) fun e' a' w' ⟨he', hr'⟩ => ?_
                subst he'
                refine ⟨_, ?_, hr'⟩
                rcases he with rfl | rfl
                · exact ⟨r, r1, rfl, rfl⟩
                · exact ⟨r, r1, rfl, rfl⟩
              cases e with
              | normal => exact done c1 (.inl rfl)
              | ret => exact done c1 (.inr rfl)
              | _ => cases c1

/-- Nothing is known of any box. -/
def env0 (sr : Src) : Env := ⟨fun _ => none, fun _ => 0, sr⟩
/-- A law: called so, the function returns true, and all that was there is as it was. -/
theorem calls_runS (pk : PK P T TT DT hk) {sr : Src} {g : FuncId} {args : List CV} {vs : Array Value} {w : World} (hsr : SrcOK (fun _ => False) w sr) {d : Nat} {k : CV → TB → Nat → Rs} (hk' : ∀ r B nk, k r B nk = .yes → r = .val (.bool true)) (h : runF P T TT DT hk d g args .lf 0 k = .yes) (hl : args.length = vs.size)
    (ha : ∀ (i : Nat) a v, args[i]? = some a → vs[i]? = some v → RV (env0 sr) a v) : Calls P g vs w fun e w' => e = .returned (.bool true) ∧ Below w.heap.size w w' := by
  obtain ⟨r, B', nk', h1, h2, hcb, fn, code, hf, hb, hle, hbody⟩ := runF_ok pk d g args .lf 0 k h
  have hr := hk' r B' nk' h1
  subst hr
  have hok : OK (fun _ => False) w (env0 sr) (entB .lf) w := ⟨Keep.refl _ _, fun _ _ => rfl, (fun j hj => by cases hj), (fun j j' b _ hj => by cases hj), hsr⟩
  have hslots : ∀ t, RV (env0 sr) (args.getD t (.val undef)) ((vs ++ Array.replicate (fn.ntmps - vs.size) undef).getD t undef) := fun t => by
    by_cases ht : t < vs.size
    · have e1 : (vs ++ Array.replicate (fn.ntmps - vs.size) undef).getD t undef = vs[t] := by
        simp [Array.getD, Array.size_append, Array.size_replicate, show t < vs.size + (fn.ntmps - vs.size) by omega, Array.getElem_append_left ht]
      have ht' : t < args.length := by omega
      have e2 : args.getD t (.val undef) = args[t] := by simp only [List.getD_eq_getElem?_getD, List.getElem?_eq_getElem ht', Option.getD_some]
      rw [e1, e2]
      exact ha t _ _ (List.getElem?_eq_getElem ht') (by simp [ht])
    · have e1 : (vs ++ Array.replicate (fn.ntmps - vs.size) undef).getD t undef = undef := by
        rw [Array.getD_eq_getD_getElem?, Array.getElem?_append_right (by omega), Array.getElem?_replicate]
        split <;> rfl
      have e2 : args.getD t (.val undef) = .val undef := by
        simp only [List.getD_eq_getElem?_getD, List.getElem?_eq_none (show args.length ≤ t by omega), Option.getD_none]
      rw [e1, e2]
      exact .val _
  have hrel0 : Rel (fun _ => False) ⟨w, (env0 sr), entB .lf⟩ ⟨fn.ntmps, fun t => args.getD t (.val undef), entB .lf⟩ { tmps := vs ++ Array.replicate (fn.ntmps - vs.size) undef, defers := [] } w :=
    ⟨⟨_, hok, Env.Le.refl _, fun k hk => ⟨hk, rfl⟩, hslots⟩, by simp; omega, rfl⟩
  refine calls_of_wp hf hb (wp_mono (hbody _ _ _ w hrel0) fun e a' w' ⟨st', hq, hrel'⟩ => ?_)
  have fin : (∃ r, resC T st' fn.results.toList = some r ∧ (r = .val (.bool true) ∧ st'.B = entB B')) → a'.defers = [] ∧ ∃ v, (results fn a'.tmps).run P w' = .ok v w' ∧ (Ending.returned v = .returned (.bool true) ∧ Below w.heap.size w w') := by
    rintro ⟨r, hr, rfl, _⟩
    obtain ⟨E', hok', hle', hdd, hs'⟩ := hrel'.ex
    obtain ⟨x, hx, hxr⟩ := run_resC (P := P) pk.t hok' hs' hrel'.size hrel'.defs hr
    rw [RV.val_iff] at hxr
    subst hxr
    exact ⟨hrel'.defs, _, hx, rfl, hok'.below.below⟩
  cases e with
  | normal => exact fin hq
  | ret => exact fin hq
  | _ => exact hq.elim
theorem calls_run (pk : PK P T TT DT hk) {g : FuncId} {args : List CV} {vs : Array Value} {w : World} {d : Nat} {k : CV → TB → Nat → Rs} (hk' : ∀ r B nk, k r B nk = .yes → r = .val (.bool true)) (h : runF P T TT DT hk d g args .lf 0 k = .yes) (hl : args.length = vs.size)
    (ha : ∀ (i : Nat) a v, args[i]? = some a → vs[i]? = some v → RV (env0 ⟨0, 0, 0, 0⟩) a v) : Calls P g vs w fun e w' => e = .returned (.bool true) ∧ Below w.heap.size w w' :=
  calls_runS pk (.inl rfl) hk' h hl ha
end
end Go.Proofs.YtmnpjaglgalobaaGreatW.D

/-
  A fast executor for the kernel: its tables, as the kernel checks them. Laws over any program; no condition.
-/
namespace Go.Proofs.YtmnpjaglgalobaaGreatW.D
open Go Go.RowKit Go.Proofs.YtmnpjaglgalobaaGreatW.C
open Go.Proofs.YtmnpjaglgalobaaGreatW.E (callable)
set_option linter.unusedVariables false
set_option linter.unusedSimpArgs false

/-- The types' rows, as the program has them. -/
def mkRows (P : Program) : List Nat → Option CTab
  | [] => some []
  | t :: l => match mkC P t, mkRows P l with
    | some i, some r => some ((t, i) :: r)
    | _, _ => none
theorem mkRows_ok {P : Program} : ∀ (l : List Nat) (T : CTab), mkRows P l = some T → T.OK P
  | [], T, h => by cases h; exact CTab.OK.nil P
  | t :: l, T, h => by
    unfold mkRows at h
    split at h
    · rename_i i r hi hr
      cases h
      exact CTab.OK.cons hi (mkRows_ok l r hr)
    · cases h
def tabOf (L : List (Nat × TInf)) : CTab := L.map fun p => (p.1, p.2.c)
def mkTr : List (Nat × TInf) → Option TTab
  | [] => some .lf
  | (k, i) :: l => match mkTr l with
    | some t => Tr.set 20 t k i
    | none => none
theorem mkTr_ok : ∀ (L : List (Nat × TInf)) (t : TTab), mkTr L = some t → ∀ k, t.get k = L.lookup k
  | [], t, h, k => by cases h; rfl
  | (j, i) :: l, t, h, k => by
    unfold mkTr at h
    split at h
    · rename_i t1 h1
      rw [Tr.get_set _ _ _ _ _ h k, mkTr_ok l t1 h1 k, List.lookup_cons]
      by_cases hk : k = j
      · subst hk; simp
      · have : (k == j) = false := by simpa using hk
        rw [if_neg hk, this]
    · cases h
theorem tab_lookup (L : List (Nat × TInf)) (t : Nat) (i : TInf) (h : L.lookup t = some i) : (tabOf L).lookup t = some i.c := by
  induction L with
  | nil => cases h
  | cons p l ih =>
    obtain ⟨k, q⟩ := p
    rw [List.lookup_cons] at h
    unfold tabOf
    rw [List.map_cons, List.lookup_cons]
    split at h
    · rename_i e
      cases h
      simp only [e]
    · rename_i e
      simp only [e]
      exact ih h
theorem mem_lookup {L : List (Nat × TInf)} {t : Nat} {i : TInf} (h : L.lookup t = some i) : (t, i) ∈ L := by
  induction L with
  | nil => cases h
  | cons p l ih =>
    obtain ⟨k, q⟩ := p
    rw [List.lookup_cons] at h
    split at h
    · rename_i e
      cases h
      have : t = k := by simpa using e
      subst this
      exact List.mem_cons_self
    · exact List.mem_cons_of_mem _ (ih h)
def kdOK (P : Program) (t : Nat) : KD → Bool
  | .int k => match P.underlying t with
    | some (.int k') => k == k'
    | _ => false
  | .arr n e => match P.underlying t with
    | some (.array n' e') => n == n' && e == e'
    | _ => false
  | .sl e => match P.underlying t with
    | some (.slice e') => e == e'
    | _ => false
  | .other => true
theorem kdOK_ok {P : Program} {t : Nat} {d : KD} (h : kdOK P t d = true) : KD.OK P t d := by
  cases d with
  | int k =>
    unfold kdOK at h
    simp only at h
    split at h
    · rename_i k' hu
      have : k = k' := by simpa using h
      subst this; exact hu
    · cases h
  | arr n e =>
    unfold kdOK at h
    simp only at h
    split at h
    · rename_i n' e' hu
      simp only [Bool.and_eq_true, beq_iff_eq] at h
      obtain ⟨rfl, rfl⟩ := h
      exact hu
    · cases h
  | sl e =>
    unfold kdOK at h
    simp only at h
    split at h
    · rename_i e' hu
      have : e = e' := by simpa using h
      subst this; exact hu
    · cases h
  | other => trivial
def namesOK : List Func → Bool
  | [] => true
  | fn :: l => (fn.name != "runtime.NumGoroutine") && namesOK l
noncomputable def codesOK (P : Program) (DT : DTab) : Nat → List Func → Bool
  | _, [] => true
  | g, fn :: l => (match fn.body with
    | some c => codeOK P (fun id => lookR g id DT) c
    | none => true) && codesOK P DT (g + 1) l
theorem namesOK_ok : ∀ (l : List Func), namesOK l = true → ∀ fn ∈ l, (fn.name != "runtime.NumGoroutine") = true
  | [], h, fn, hf => by cases hf
  | a :: l, h, fn, hf => by
    unfold namesOK at h
    rw [Bool.and_eq_true] at h
    rcases List.mem_cons.1 hf with rfl | hf
    · exact h.1
    · exact namesOK_ok l h.2 fn hf
theorem codesOK_ok {P : Program} {DT : DTab} : ∀ (l : List Func) (g : Nat), codesOK P DT g l = true → ∀ (i : Nat) fn c, l[i]? = some fn → fn.body = some c → codeOK P (fun id => lookR (g + i) id DT) c = true
  | [], g, h, i, fn, c, hf, hb => by simp at hf
  | a :: l, g, h, i, fn, c, hf, hb => by
    unfold codesOK at h
    rw [Bool.and_eq_true] at h
    cases i with
    | zero =>
      simp only [List.getElem?_cons_zero, Option.some.injEq] at hf
      subst hf
      rw [hb] at h
      exact h.1
    | succ i =>
      rw [List.getElem?_cons_succ] at hf
      have := codesOK_ok l (g + 1) h.2 i fn c hf hb
      rw [show g + 1 + i = g + (i + 1) by omega] at this
      exact this
theorem pk_of {P : Program} {L : List (Nat × TInf)} {TT : TTab} {DT : DTab} {hk : FuncId → Option HK} {ts : List Nat} (h1 : mkRows P ts = some (tabOf L)) (h2 : mkTr L = some TT) (h3 : (L.all fun p => kdOK P p.1 p.2.d) = true) (h4 : P.follows .mixedOrders = true) (h5 : namesOK P.funcs.toList = true) (h6 : codesOK P DT 0 P.funcs.toList = true)
    (h7 : ∀ g h, hk g = some h → ∀ vs B nk k, h vs B nk k = .yes → ∃ r B' nk', k r B' nk' = .yes ∧ Lat B B' nk nk' ∧ CallTo P (tabOf L) g vs (entB B) fun r' B'' => r' = r ∧ B'' = entB B') : PK P (tabOf L) TT DT hk where
  t := mkRows_ok ts _ h1
  tt t i hi := by
    rw [mkTr_ok L TT h2 t] at hi
    exact ⟨tab_lookup L t i hi, kdOK_ok (List.all_eq_true.1 h3 _ (mem_lookup hi))⟩
  mixed := h4
  call g fn hf hb := by
    unfold callable
    rw [hf]
    have hm : fn ∈ P.funcs.toList := by
      have : P.funcs.toList[g]? = some fn := by simpa using hf
      exact List.mem_of_getElem? this
    simp only [namesOK_ok _ h5 fn hm, hb, Bool.and_self]
  code g fn c hf hb := by
    have : P.funcs.toList[g]? = some fn := by simpa using hf
    have := codesOK_ok _ 0 h6 g fn c this hb
    rw [Nat.zero_add] at this
    exact this
  hook := h7
end Go.Proofs.YtmnpjaglgalobaaGreatW.D

/-
  A function that ranges over a map: run in all orders from what its argument reaches; its one outcome goes to a new box. Laws over any program; no condition.
-/
namespace Go.Proofs.YtmnpjaglgalobaaGreatW.D
open Go Go.RowKit Go.Proofs.YtmnpjaglgalobaaGreatW.C
open Go.Proofs.YtmnpjaglgalobaaGreatW.E (upd upd_same upd_ne callable)
set_option linter.unusedVariables false
set_option linter.unusedSimpArgs false

def isV : CV → Bool
  | .val _ => true
  | _ => false
def flatV : CV → Bool
  | .val _ => true
  | .sl .. => true
  | .ptr .. => true
  | _ => false
def rowK (B : TB) (k : Nat) : Option (List CV) := match entK (B.get k) with
  | .row cs => some cs
  | _ => none
def vKeys (cs : List CV) : List Nat := cs.flatMap kOf
/-- Rows of plain values, put into a small trie. -/
def smallB (B : TB) : List Nat → Tr (Ent × Nat) → Option (Tr (Ent × Nat))
  | [], t => some t
  | k :: l, t => match rowK B k with
    | some r => if r.all isV = true then (match Tr.set 40 t k (.row r, 0) with
      | some t' => smallB B l t'
      | none => none) else none
    | none => none
def closeB (B : TB) (k : Nat) : Option (List Nat × Tr (Ent × Nat)) := match rowK B k with
  | some cs => if cs.all flatV = true ∧ (vKeys cs).contains k = false then (match smallB B (vKeys cs) .lf with
      | some t => (match Tr.set 40 t k (.row cs, 0) with
        | some t' => some (k :: vKeys cs, t')
        | none => none)
      | none => none) else none
  | none => none
/-- What such a trie holds. -/
structure Small (B : TB) (V : List Nat) (t : Tr (Ent × Nat)) : Prop where
  inV : ∀ k ∈ V, ∃ cs, entK (B.get k) = .row cs ∧ t.get k = some (.row cs, 0) ∧ cs.all flatV = true ∧ ∀ c ∈ cs, ∀ j ∈ kOf c, j ∈ V
  out : ∀ k, k ∉ V → t.get k = none
theorem rowK_ok {B : TB} {k : Nat} {cs : List CV} (h : rowK B k = some cs) : entK (B.get k) = .row cs := by
  unfold rowK at h
  split at h
  · rename_i cs' hc; cases h; exact hc
  · cases h
theorem smallB_ok {B : TB} : ∀ (l : List Nat) (t t' : Tr (Ent × Nat)), smallB B l t = some t' → (∀ k ∈ l, ∃ cs, entK (B.get k) = .row cs ∧ t'.get k = some (.row cs, 0) ∧ cs.all isV = true) ∧ ∀ k, k ∉ l → t'.get k = t.get k
  | [], t, t', h => by cases h; exact ⟨by simp, fun _ _ => rfl⟩
  | k :: l, t, t', h => by
    unfold smallB at h
    split at h
    · rename_i r hr
      split at h
      · rename_i hv
        split at h
        · rename_i t1 h1
          obtain ⟨i1, i2⟩ := smallB_ok l t1 t' h
          have hs := Tr.get_set _ _ _ _ _ h1
          refine ⟨fun j hj => ?_, fun j hj => ?_⟩
          · by_cases hjl : j ∈ l
            · exact i1 j hjl
            · rcases List.mem_cons.1 hj with rfl | hj
              · exact ⟨r, rowK_ok hr, by rw [i2 j hjl, hs j, if_pos rfl], hv⟩
              · exact absurd hj hjl
          · simp only [List.mem_cons, not_or] at hj
            rw [i2 j hj.2, hs j, if_neg hj.1]
        · cases h
      · cases h
    · cases h
theorem isV_keys {c : CV} (h : isV c = true) : kOf c = [] ∧ flatV c = true := by cases c <;> first | exact ⟨rfl, rfl⟩ | cases h
theorem closeB_ok {B : TB} {k : Nat} {V : List Nat} {t : Tr (Ent × Nat)} (h : closeB B k = some (V, t)) : k ∈ V ∧ Small B V t := by
  unfold closeB at h
  split at h
  · rename_i cs hr
    split at h
    · rename_i hc
      split at h
      · rename_i t1 h1
        split at h
        · rename_i t2 h2
          cases h
          obtain ⟨i1, i2⟩ := smallB_ok _ _ _ h1
          have hs := Tr.get_set _ _ _ _ _ h2
          have hk : k ∉ vKeys cs := by simpa using hc.2
          refine ⟨List.mem_cons_self, ⟨fun j hj => ?_, fun j hj => ?_⟩⟩
          · rcases List.mem_cons.1 hj with rfl | hj
            · exact ⟨cs, rowK_ok hr, by rw [hs j, if_pos rfl], hc.1, fun c hcm i hi => List.mem_cons_of_mem _ (List.mem_flatMap.2 ⟨c, hcm, hi⟩)⟩
            · obtain ⟨r, r1, r2, r3⟩ := i1 j hj
              refine ⟨r, r1, by rw [hs j, if_neg (fun e : j = k => hk (e ▸ hj))]; exact r2, ?_, fun c hcm i hi => ?_⟩
              · exact List.all_eq_true.2 fun c hcm => (isV_keys (List.all_eq_true.1 r3 c hcm)).2
              · rw [(isV_keys (List.all_eq_true.1 r3 c hcm)).1] at hi; cases hi
          · simp only [List.mem_cons, not_or] at hj
            rw [hs j, if_neg hj.1, i2 j hj.2]; rfl
        · cases h
      · cases h
    · cases h
  · cases h

/-- A value that names only keys of V reads alike where these lie alike. -/
theorem RV.on {E E' : Env} {V : List Nat} (hE : ∀ k ∈ V, E'.bm k = E.bm k ∧ E'.Z k = E.Z k) {c : CV} {v : Value} (hf : flatV c = true) (hk : ∀ j ∈ kOf c, j ∈ V) (h : RV E c v) : RV E' c v := by
  cases h with
  | val v => exact .val v
  | ptr k off b h => exact .ptr k off b (by rw [(hE k (hk k (by simp [kOf, Go.Proofs.YtmnpjaglgalobaaGreatW.C.keyOf]))).1]; exact h)
  | sl sz k off n c b c' h hn hc hz hff =>
    have := hE k (hk k (by simp [kOf, Go.Proofs.YtmnpjaglgalobaaGreatW.C.keyOf]))
    exact .sl sz k off n c b c' (by rw [this.1]; exact h) hn hc (by rw [this.2]; exact hz) (fun e => by rw [this.2]; exact hff e)
  | _ => cases hf

def sameV : List CV → List CV → Bool
  | [], [] => true
  | .val (.int k a) :: l, .val (.int k' b) :: m => k == k' && a == b && sameV l m
  | _, _ => false
theorem sameV_ok : ∀ (l m : List CV), sameV l m = true → l = m ∧ l.all isV = true
  | [], [], _ => ⟨rfl, rfl⟩
  | a :: l, [], h => by unfold sameV at h; split at h <;> first | (rename_i e1 e2; cases e1; done) | (rename_i e1 e2; cases e2; done) | cases h
  | [], b :: m, h => by cases h
  | a :: l, b :: m, h => by
    unfold sameV at h
    split at h
    · rename_i e1 e2; cases e1
    · rename_i k x l' k' y m' e1 e2
      cases e1; cases e2
      simp only [Bool.and_eq_true, beq_iff_eq] at h
      obtain ⟨⟨rfl, rfl⟩, h3⟩ := h
      obtain ⟨rfl, h4⟩ := sameV_ok _ _ h3
      exact ⟨rfl, by simpa [isV] using h4⟩
    · cases h
def leafGuess (T : CTab) (fn : Func) (e : Exit) (x : X) : Option (Nat × List CV) := match leaveX T fn e x with
  | some (.sl 1 kb 0 n none, x1) => match x1.ent kb with
    | .row cs => some (n, cs)
    | _ => none
  | _ => none
def leafOK (T : CTab) (fn : Func) (V : List Nat) (nk n : Nat) (cells : List CV) (e : Exit) (x : X) : Bool := match leaveX T fn e x with
  | some (.sl 1 kb 0 n' none, x1) => (match x1.ent kb with
    | .row cs => sameV cells cs && n == n' && !V.contains kb && V.all fun v => match x1.B.get v with
      | some (_, s) => Nat.blt s nk
      | none => false
    | _ => false)
  | _ => false
theorem leafOK_ok {T : CTab} {fn : Func} {V : List Nat} {nk n : Nat} {cells : List CV} {e : Exit} {x : X} (h : leafOK T fn V nk n cells e x = true) :
    ∃ kb, (e = .normal ∨ e = .ret) ∧ resC T x.st fn.results.toList = some (.sl 1 kb 0 n none) ∧ x.ent kb = .row cells ∧ cells.all isV = true ∧ kb ∉ V ∧ ∀ v ∈ V, ∃ y s, x.B.get v = some (y, s) ∧ s < nk := by
  unfold leafOK at h
  split at h
  · rename_i kb n' x1 hl
    obtain ⟨rfl, he, hres⟩ := leave_eq hl
    split at h
    · rename_i cs hcs
      simp only [Bool.and_eq_true, Bool.not_eq_true', beq_iff_eq] at h
      obtain ⟨⟨⟨h1, h2⟩, h3⟩, h4⟩ := h
      subst h2
      obtain ⟨rfl, h5⟩ := sameV_ok _ _ h1
      refine ⟨kb, he, hres, hcs, h5, by simpa using h3, fun v hv => ?_⟩
      have := List.all_eq_true.1 h4 v hv
      split at this
      · rename_i y s hq; exact ⟨y, s, hq, blt_iff.1 this⟩
      · cases this
    · cases h
  · cases h

section
variable {P : Program} {T : CTab}
def hookAll (P : Program) (T : CTab) (fn : Func) (code : Code) (fuel : Nat) (vs : List CV) (B : TB) (nk : Nat) : Option (Nat × List CV) := match vs with
  | [.sl z kx off n c] => match closeB B kx, argsTr [.sl z kx off n c] 0 .lf with
    | some (V, t), some s => match Go.Proofs.YtmnpjaglgalobaaGreatW.C.runT P T fuel (Option (Nat × List CV)) ⟨none, fun l => l.headD none⟩ (.code code) ⟨fn.ntmps, s, t, nk⟩ (leafGuess T fn) with
      | some (m, cells) => if Go.Proofs.YtmnpjaglgalobaaGreatW.C.runT P T fuel Bool ⟨false, fun l => l.all id⟩ (.code code) ⟨fn.ntmps, s, t, nk⟩ (leafOK T fn V nk m cells) = true ∧ V.contains nk = false then some (m, cells) else none
      | none => none
    | _, _ => none
  | _ => none
noncomputable def hookK (P : Program) (T : CTab) (fn : Func) (code : Code) (fuel : Nat) : HK := fun vs B nk k => thenO (hookAll P T fn code fuel vs B nk) .fail fun q => newBox nk (.e (.row q.2) nk) B nk .fail fun B' nk' => k (.sl 1 nk 0 q.1 none) B' nk'

theorem hook_ok (hT : T.OK P) {g : FuncId} {fn : Func} {code : Code} (hf : P.funcs[g]? = some fn) (hb : fn.body = some code) (hc : callable P g = true) {t2 : Nat} (hres : fn.results.toList = [.tmp t2]) (hnt : 1 ≤ fn.ntmps) (fuel : Nat) :
    ∀ vs B nk k, hookK P T fn code fuel vs B nk k = .yes → ∃ r B' nk', k r B' nk' = .yes ∧ Lat B B' nk nk' ∧ CallTo P T g vs (entB B) fun r' B'' => r' = r ∧ B'' = entB B' := by
  intro vs B nk k h
  unfold hookK at h
  rw [thenO_eq] at h
  cases hq : hookAll P T fn code fuel vs B nk with
  | none => rw [hq] at h; cases h
  | some q =>
    obtain ⟨m, cells⟩ := q
    rw [hq] at h
    obtain ⟨hun, B', h1, h2⟩ := new_ok h
    refine ⟨.sl 1 nk 0 m none, B', nk + 1, h1, lat_put (Nat.le_refl _) (by rw [hun]; simp) h2, hc, fn, code, hf, hb, ?_⟩
    unfold hookAll at hq
    split at hq
    · rename_i z kx off n c
      split at hq
      · rename_i V t s hcl hargs
        split at hq
        · rename_i m' cells' hguess
          split at hq
          · rename_i hcond
            cases hq
            obtain ⟨hrun, hnV⟩ := hcond
            have hnV : nk ∉ V := by simpa using hnV
            obtain ⟨hkx, hsm⟩ := closeB_ok hcl
            refine ⟨by simpa using hnt, fun base w0 a w hrel => ?_⟩
            obtain ⟨E, hok, hle0, hdd, hs⟩ := hrel.ex
            -- the small surroundings
            let E0 : Env := ⟨fun j => if j ∈ V then E.bm j else none, E.Z, E.src⟩
            let Own : Nat → Prop := fun b => ∃ j ∈ V, E.bm j = some b
            let x0 : X := ⟨fn.ntmps, s, t, nk⟩
            have hE0 : ∀ j ∈ V, E0.bm j = E.bm j ∧ E0.Z j = E.Z j := fun j hj => ⟨by simp only [E0, if_pos hj], rfl⟩
            have hent : ∀ j, j ∈ V → x0.ent j = entB B j := fun j hj => by
              obtain ⟨cs, c1, c2, _⟩ := hsm.inV j hj
              show entOf (t.get j) = entK (B.get j)
              rw [c1, c2]; rfl
            have hentn : ∀ j, j ∉ V → x0.ent j = .un := fun j hj => by
              show entOf (t.get j) = .un
              rw [hsm.out j hj]; rfl
            have hlive : ∀ j ∈ V, (entB B j).live = true := fun j hj => by
              obtain ⟨cs, c1, _⟩ := hsm.inV j hj
              show (entK (B.get j)).live = true
              rw [c1]; rfl
            have own_ok : ∀ b, Own b → base b ∨ w0.w.heap.size ≤ b := fun b ⟨j, hj, hjb⟩ => by
              obtain ⟨b', b1, b2, _⟩ := hok.box j (hlive j hj)
              rw [hjb] at b1; cases b1
              exact b2
            have hok0 : OK Own w E0 x0.ent w := by
              refine ⟨Keep.refl _ _, fun j hj => ?_, fun j hj => ?_, fun j j' b hne hj hj' hjb => ?_, hok.src.inner hok.below own_ok⟩
              · by_cases hv : j ∈ V
                · have := hlive j hv
                  rw [hent j hv] at hj
                  rw [hj] at this; cases this
                · simp only [E0, if_neg hv]
              · by_cases hv : j ∈ V
                · obtain ⟨b, b1, b2, b3⟩ := hok.box j (hlive j hv)
                  refine ⟨b, by rw [(hE0 j hv).1]; exact b1, .inl ⟨j, hv, b1⟩, ?_⟩
                  obtain ⟨cs, c1, c2, c3, c4⟩ := hsm.inV j hv
                  rw [hent j hv]
                  have e1 : entB B j = .row cs := c1
                  have b3 : BoxAt E w b (E.Z j) (entB B j) := b3
                  rw [e1] at b3 ⊢
                  obtain ⟨ty, ccs, d1, d2, d3, d4⟩ := b3
                  refine ⟨ty, ccs, d1, d2, d3, fun i cc v hcc hv2 => ⟨(d4 i cc v hcc hv2).1, RV.on (V := V) hE0 (List.all_eq_true.1 c3 cc (List.mem_of_getElem? hcc)) (c4 cc (List.mem_of_getElem? hcc)) (d4 i cc v hcc hv2).2⟩⟩
                · rw [hentn j hv] at hj; cases hj
              · have v1 : j ∈ V := Classical.byContradiction fun hv => by rw [hentn j hv] at hj; cases hj
                have v2 : j' ∈ V := Classical.byContradiction fun hv => by rw [hentn j' hv] at hj'; cases hj'
                rw [(hE0 j v1).1] at hjb
                rw [(hE0 j' v2).1]
                exact hok.inj j j' b hne (hlive j v1) (hlive j' v2) hjb
            have hslot : ∀ q, x0.slot q = (([.sl z kx off n c] : List CV)[q]?).getD (.val undef) := fun q => by
              show (s.get q).getD (.val undef) = _
              rw [argsTr_ok _ _ _ _ hargs q]
              simp only [Nat.zero_le, true_and, Nat.zero_add, Nat.sub_zero]
              by_cases hq : q < ([.sl z kx off n c] : List CV).length
              · rw [if_pos hq]
              · rw [if_neg hq, List.getElem?_eq_none (by omega)]; rfl
            have hrel0 : Rel Own ⟨w, E0, x0.ent⟩ x0.st a w := by
              refine ⟨⟨E0, hok0, Env.Le.refl _, fun j hj => ?_, fun q => ?_⟩, hrel.size, hrel.defs⟩
              · exact ⟨hj, rfl⟩
              · show RV E0 (x0.slot q) _
                have hsq := hs q
                rw [hslot q]
                have e1 : (⟨fn.ntmps, fun t => ([.sl z kx off n c] : List CV).getD t (.val undef), entB B⟩ : St).s q = ([.sl z kx off n c] : List CV).getD q (.val undef) := rfl
                rw [e1, List.getD_eq_getElem?_getD] at hsq
                cases q with
                | zero => exact RV.on (V := V) hE0 rfl (fun j hj => by
                    simp only [kOf, Go.Proofs.YtmnpjaglgalobaaGreatW.C.keyOf, List.getElem?_cons_zero, Option.getD_some, List.mem_singleton] at hj
                    subst hj; exact hkx) hsq
                | succ q =>
                  simp only [List.getElem?_cons_succ, List.getElem?_nil, Option.getD_none] at hsq ⊢
                  rw [RV.val_iff] at hsq ⊢
                  exact hsq
            have hwp := (Go.Proofs.YtmnpjaglgalobaaGreatW.C.runT_ok hT fuel Bool ⟨false, fun l => l.all id⟩ (fun b => b = true) (by simp) (fun l hl r hr => by
              have := List.all_eq_true.1 hl r hr
              exact this) (.code code) x0 (leafOK T fn V nk m cells) hrun).2 Own ⟨w, E0, x0.ent⟩ a w hrel0
            refine wp_mono hwp fun e a' w' hso => ?_
            obtain ⟨x', hlat, hgood, hrel'⟩ := hso
            obtain ⟨kb, he, hr1, hr2, hr3, hr4, hr5⟩ := leafOK_ok hgood
            obtain ⟨E1, hok1, hle1, hdd1, hs1⟩ := hrel'.ex
            have hV' : ∀ j ∈ V, x'.ent j = entB B j := fun j hj => by
              obtain ⟨y, sg, y1, y2⟩ := hr5 j hj
              rw [← hent j hj]
              unfold X.ent
              rcases hlat.B j with h9 | ⟨e9, s9, h9, h10⟩
              · rw [h9]
              · exfalso
                rw [h9] at y1
                cases y1
                have : x0.nk = nk := rfl
                omega
            have hE1 : ∀ j ∈ V, E1.bm j = E.bm j ∧ E1.Z j = E.Z j := fun j hj => by
              obtain ⟨b, b1, _⟩ := hok.box j (hlive j hj)
              have := hle1.1 j b (by rw [(hE0 j hj).1]; exact b1)
              exact ⟨by rw [this.1, b1], this.2⟩
            obtain ⟨bb, bb1, bb2, bb3⟩ := hok1.box kb (by show (x'.st.B kb).live = true; rw [show x'.st.B kb = .row cells from hr2]; rfl)
            rw [show x'.st.B kb = .row cells from hr2] at bb3
            have hBe : entB B' = upd (entB B) nk (.row cells) := by
              funext j
              show entK (B'.get j) = _
              rw [h2 j]
              unfold upd
              by_cases e9 : j = nk
              · rw [if_pos e9, if_pos e9]; rfl
              · rw [if_neg e9, if_neg e9]; rfl
            have hnkE : E.bm nk = none := hok.un nk hun
            let E' : Env := E.add nk bb (E1.Z kb)
            have hleE : E.Le E' := Env.le_add hnkE
            have hE' : ∀ j, j ≠ nk → E'.bm j = E.bm j ∧ E'.Z j = E.Z j := fun j hj => ⟨by show (upd E.bm nk (some bb)) j = _; rw [upd_ne _ _ hj], by show (upd E.Z nk (E1.Z kb)) j = _; rw [upd_ne _ _ hj]⟩
            have hVnk : ∀ j ∈ V, j ≠ nk := fun j hj e9 => hnV (e9 ▸ hj)
            have hlt : ∀ j b, (entB B j).live = true → E.bm j = some b → b < w.heap.size := fun j b hj hb9 => by
              obtain ⟨b', b1, _, b3⟩ := hok.box j hj
              rw [hb9] at b1; cases b1
              exact b3.lt hj
            -- where the new row lies: in no old box
            have bbnew : ∀ j b, (entB B j).live = true → E.bm j = some b → b ≠ bb := fun j b hj hb9 e9 => by
              subst e9
              by_cases hv : j ∈ V
              · have h8 := hok1.inj kb j b (fun e8 => hr4 (e8 ▸ hv)) (by rw [show x'.st.B kb = .row cells from hr2]; rfl) (by rw [show x'.st.B j = entB B j from hV' j hv]; exact hj) bb1
                rw [(hE1 j hv).1] at h8
                exact h8 hb9
              · rcases bb2 with ⟨j2, j2v, j2b⟩ | h8
                · have hne : j ≠ j2 := fun e8 => hv (e8 ▸ j2v)
                  exact hok.inj j j2 b hne hj (hlive j2 j2v) hb9 j2b
                · have := hlt j b hj hb9
                  have hws : (⟨w, E0, x0.ent⟩ : Base).w.heap.size = w.heap.size := rfl
                  omega
            have hok' : OK base w0.w E' (entB B') w' := by
              rw [hBe]
              refine ⟨⟨hok1.below.os.trans hok.below.os, hok1.below.tape.trans hok.below.tape, hok1.below.output.trans hok.below.output, Nat.le_trans hok.below.size hok1.below.size, fun i hi hnb => ?_⟩, fun j hj => ?_, fun j hj => ?_, fun j j' b hne hj hj' hjb => ?_, hok.src⟩
              · rw [hok1.below.block i (Nat.lt_of_lt_of_le hi hok.below.size) fun hown => by
                  rcases own_ok i hown with h9 | h9
                  · exact hnb h9
                  · omega]
                exact hok.below.block i hi hnb
              · by_cases e9 : j = nk
                · subst e9; rw [upd_same] at hj; cases hj
                · rw [upd_ne _ _ e9] at hj
                  rw [(hE' j e9).1]
                  exact hok.un j hj
              · by_cases e9 : j = nk
                · subst e9
                  rw [upd_same]
                  refine ⟨bb, Env.add_bm .., ?_, ?_⟩
                  · rcases bb2 with h8 | h8
                    · exact own_ok bb h8
                    · exact .inr (Nat.le_trans hok.below.size h8)
                  · rw [show E'.Z j = E1.Z kb from Env.add_Z ..]
                    obtain ⟨ty, ccs, d1, d2, d3, d4⟩ := bb3
                    refine ⟨ty, ccs, d1, d2, d3, fun i cc v hcc hv2 => ⟨(d4 i cc v hcc hv2).1, ?_⟩⟩
                    have h8 := List.all_eq_true.1 hr3 cc (List.mem_of_getElem? hcc)
                    have h7 := (d4 i cc v hcc hv2).2
                    cases cc <;> first | (rw [RV.val_iff] at h7 ⊢; exact h7) | cases h8
                · rw [upd_ne _ _ e9] at hj ⊢
                  obtain ⟨b, b1, b2, b3⟩ := hok.box j hj
                  refine ⟨b, by rw [(hE' j e9).1]; exact b1, b2, ?_⟩
                  rw [(hE' j e9).2]
                  by_cases hv : j ∈ V
                  · obtain ⟨b', c1, _, c3⟩ := hok1.box j (by rw [show x'.st.B j = entB B j from hV' j hv]; exact hj)
                    rw [(hE1 j hv).1, b1] at c1; cases c1
                    rw [show x'.st.B j = entB B j from hV' j hv, (hE1 j hv).2] at c3
                    obtain ⟨cs, k1, k2, k3, k4⟩ := hsm.inV j hv
                    rw [show entB B j = .row cs from k1] at c3 ⊢
                    obtain ⟨ty, ccs, d1, d2, d3, d4⟩ := c3
                    refine ⟨ty, ccs, d1, d2, d3, fun i cc v hcc hv2 => ⟨(d4 i cc v hcc hv2).1, RV.on (V := V) (fun i9 hi9 => ?_) (List.all_eq_true.1 k3 cc (List.mem_of_getElem? hcc)) (k4 cc (List.mem_of_getElem? hcc)) (d4 i cc v hcc hv2).2⟩⟩
                    rw [(hE' i9 (hVnk i9 hi9)).1, (hE' i9 (hVnk i9 hi9)).2, (hE1 i9 hi9).1, (hE1 i9 hi9).2]
                    exact ⟨rfl, rfl⟩
                  · refine b3.mono hleE (hok1.below.block b (hlt j b hj b1) fun ⟨j2, j2v, j2b⟩ => ?_)
                    exact hok.inj j j2 b (fun e8 => hv (e8 ▸ j2v)) hj (hlive j2 j2v) b1 j2b
              · by_cases e9 : j = nk
                · subst e9
                  rw [show E'.bm j = some bb from Env.add_bm ..] at hjb
                  cases hjb
                  rw [upd_ne _ _ (Ne.symm hne)] at hj'
                  rw [(hE' j' (Ne.symm hne)).1]
                  exact fun h8 => bbnew j' bb hj' h8 rfl
                · rw [upd_ne _ _ e9] at hj
                  rw [(hE' j e9).1] at hjb
                  by_cases e8 : j' = nk
                  · subst e8
                    rw [show E'.bm j' = some bb from Env.add_bm ..]
                    exact fun h8 => bbnew j b hj hjb (Option.some.inj h8).symm
                  · rw [upd_ne _ _ e8] at hj'
                    rw [(hE' j' e8).1]
                    exact hok.inj j j' b hne hj hj' hjb
            have hr1' : x'.slot t2 = .sl 1 kb 0 m none := by
              rw [hres] at hr1
              have : some (x'.slot t2) = some (CV.sl 1 kb 0 m none) := hr1
              exact Option.some.inj this
            have hrelF : Rel base w0 ⟨x'.n, fun q => if q = t2 then .sl 1 nk 0 m none else .any, entB B'⟩ a' w' := by
              refine ⟨⟨E', hok', hle0.trans hleE, fun j hj => ?_, fun q => ?_⟩, ?_, hrel'.defs⟩
              · have h8 := hdd j hj
                have h8a : entB B j = .dead := h8.1
                have hne : j ≠ nk := fun e8 => by
                  subst e8
                  rw [show entB B j = .un from hun] at h8a; cases h8a
                refine ⟨?_, by rw [(hE' j hne).1]; exact h8.2⟩
                show entB B' j = .dead
                rw [hBe, upd_ne _ _ hne]; exact h8a
              · show RV E' (if q = t2 then .sl 1 nk 0 m none else .any) _
                by_cases hq9 : q = t2
                · subst hq9
                  rw [if_pos rfl]
                  have h8 := hs1 q
                  rw [show x'.st.s q = .sl 1 kb 0 m none from hr1'] at h8
                  generalize a'.tmps.getD q undef = v at h8 ⊢
                  cases h8 with
                  | sl _ _ _ _ _ b c' g1 g2 g3 g4 g5 =>
                    rw [bb1] at g1; cases g1
                    exact .sl 1 nk 0 m none bb c' (Env.add_bm ..) g2 (fun x hx => by cases hx) (by rw [show E'.Z nk = E1.Z kb from Env.add_Z ..]; exact g4) (fun _ => by rw [show E'.Z nk = E1.Z kb from Env.add_Z ..]; exact g5 rfl)
                · rw [if_neg hq9]; exact .any _
              · exact hrel'.size
            refine ⟨_, ?_, hrelF⟩
            have hfin : ∃ r, resC T ⟨x'.n, fun q => if q = t2 then .sl 1 nk 0 m none else .any, entB B'⟩ fn.results.toList = some r ∧ (r = .sl 1 nk 0 m none ∧ entB B' = entB B') := by
              refine ⟨_, ?_, rfl, rfl⟩
              rw [hres]
              show some (if t2 = t2 then CV.sl 1 nk 0 m none else .any) = _
              rw [if_pos rfl]
            rcases he with rfl | rfl
            · exact hfin
            · exact hfin
          · cases hq
        · cases hq
      · cases hq
    · cases hq
end
end Go.Proofs.YtmnpjaglgalobaaGreatW.D

/-
  A function that ranges over a map, told by proved entries: its one argument's rows are compared with an entry's, whose outcome goes to a new box. Laws over any program; no condition.
-/
namespace Go.Proofs.YtmnpjaglgalobaaGreatW.D
open Go Go.RowKit Go.Proofs.YtmnpjaglgalobaaGreatW.C
open Go.Proofs.YtmnpjaglgalobaaGreatW.E (upd upd_same upd_ne callable)
set_option linter.unusedVariables false
set_option linter.unusedSimpArgs false

/-- What such a function is called with, in keys 0, 1, ..: a slice (z, off, n, c) of row 0; what the rows hold; the outcome, m of the cells out. -/
structure En where
  z : Nat
  off : Nat
  n : Nat
  c : Option Nat
  rows : List (List CV)
  m : Nat
  out : List CV
def eqO : Option Nat → Option Nat → Bool
  | none, none => true
  | some a, some b => Nat.beq a b
  | _, _ => false
theorem eqO_ok : ∀ {a b : Option Nat}, eqO a b = true → a = b
  | none, none, _ => rfl
  | some a, some b, h => by rw [Nat.eq_of_beq_eq_true h]
  | none, some _, h => by cases h
  | some _, none, h => by cases h
/-- A cell, and the same cell in an entry's keys. -/
def cmpC (V : List Nat) : CV → CV → Bool
  | .val (.int k a), .val (.int k' b) => k == k' && a == b
  | .val (.bool a), .val (.bool b) => a == b
  | .val (.slice none a b), .val (.slice none a' b') => Nat.beq a a' && Nat.beq b b'
  | .sl z k off n c, .sl z' i off' n' c' => Nat.beq z z' && eqO V[i]? (some k) && Nat.beq off off' && Nat.beq n n' && eqO c c'
  | .ptr k off, .ptr i off' => eqO V[i]? (some k) && Nat.beq off off'
  | .res k m r, .res k' m' r' => k == k' && Nat.beq m m' && Nat.beq r r'
  | _, _ => false
inductive CmpC (V : List Nat) : CV → CV → Prop where
  | val (v : Value) : CmpC V (.val v) (.val v)
  | sl (z k off n : Nat) (c : Option Nat) (i : Nat) (h : V[i]? = some k) : CmpC V (.sl z k off n c) (.sl z i off n c)
  | ptr (k off i : Nat) (h : V[i]? = some k) : CmpC V (.ptr k off) (.ptr i off)
  | res (k : IntKind) (m r : Nat) : CmpC V (.res k m r) (.res k m r)
theorem cmpC_ok {V : List Nat} {c c' : CV} (h : cmpC V c c' = true) : CmpC V c c' := by
  unfold cmpC at h
  split at h
  · simp only [Bool.and_eq_true, beq_iff_eq] at h
    obtain ⟨rfl, rfl⟩ := h
    exact .val _
  · rw [beq_iff_eq] at h
    subst h
    exact .val _
  · simp only [Bool.and_eq_true] at h
    obtain ⟨h1, h2⟩ := h
    rw [Nat.eq_of_beq_eq_true h1, Nat.eq_of_beq_eq_true h2]
    exact .val _
  · simp only [Bool.and_eq_true] at h
    obtain ⟨⟨⟨⟨h1, h2⟩, h3⟩, h4⟩, h5⟩ := h
    rw [Nat.eq_of_beq_eq_true h1, Nat.eq_of_beq_eq_true h3, Nat.eq_of_beq_eq_true h4, eqO_ok h5]
    exact .sl _ _ _ _ _ _ (eqO_ok h2)
  · simp only [Bool.and_eq_true] at h
    obtain ⟨h1, h2⟩ := h
    rw [Nat.eq_of_beq_eq_true h2]
    exact .ptr _ _ _ (eqO_ok h1)
  · simp only [Bool.and_eq_true, beq_iff_eq] at h
    obtain ⟨⟨rfl, h2⟩, h3⟩ := h
    rw [Nat.eq_of_beq_eq_true h2, Nat.eq_of_beq_eq_true h3]
    exact .res _ _ _
  · cases h
theorem RV.down {E E' : Env} {V : List Nat} (hE : ∀ i k, V[i]? = some k → E'.bm i = E.bm k ∧ E'.Z i = E.Z k) (hsr : E'.src = E.src) {c c' : CV} {v : Value} (hc : CmpC V c c') (h : RV E c v) : RV E' c' v := by
  cases hc with
  | val v => rw [RV.val_iff] at h ⊢; exact h
  | res k m r => cases h with | res _ _ _ _ h2 => exact .res _ _ _ _ (by rw [hsr]; exact h2)
  | ptr k off i hi =>
    cases h with
    | ptr _ _ b hb => exact .ptr i off b (by rw [(hE i k hi).1]; exact hb)
  | sl z k off n c i hi =>
    cases h with
    | sl _ _ _ _ _ b c' hb hn hc hz hf => exact .sl z i off n c b c' (by rw [(hE i k hi).1]; exact hb) hn hc (by rw [(hE i k hi).2]; exact hz) (fun e => by rw [(hE i k hi).2]; exact hf e)
theorem RV.up {E E' : Env} {V : List Nat} (hE : ∀ i k, V[i]? = some k → E'.bm i = E.bm k ∧ E'.Z i = E.Z k) (hsr : E'.src = E.src) {c c' : CV} {v : Value} (hc : CmpC V c c') (h : RV E' c' v) : RV E c v := by
  cases hc with
  | val v => rw [RV.val_iff] at h ⊢; exact h
  | res k m r => cases h with | res _ _ _ _ h2 => exact .res _ _ _ _ (by rw [← hsr]; exact h2)
  | ptr k off i hi =>
    cases h with
    | ptr _ _ b hb => exact .ptr k off b (by rw [← (hE i k hi).1]; exact hb)
  | sl z k off n c i hi =>
    cases h with
    | sl _ _ _ _ _ b c' hb hn hc hz hf => exact .sl z k off n c b c' (by rw [← (hE i k hi).1]; exact hb) hn hc (by rw [← (hE i k hi).2]; exact hz) (fun e => by rw [← (hE i k hi).2]; exact hf e)
def cmpL (V : List Nat) : List CV → List CV → Bool
  | [], [] => true
  | c :: l, c' :: l' => cmpC V c c' && cmpL V l l'
  | _, _ => false
theorem cmpL_ok {V : List Nat} : ∀ {l l' : List CV}, cmpL V l l' = true → l.length = l'.length ∧ ∀ (i : Nat) c c', l[i]? = some c → l'[i]? = some c' → CmpC V c c'
  | [], [], _ => ⟨rfl, fun i c c' h => by simp at h⟩
  | [], _ :: _, h => by cases h
  | _ :: _, [], h => by cases h
  | a :: l, b :: l', h => by
    unfold cmpL at h
    rw [Bool.and_eq_true] at h
    obtain ⟨i1, i2⟩ := cmpL_ok h.2
    refine ⟨by simp [i1], fun i c c' h1 h2 => ?_⟩
    cases i with
    | zero =>
      simp only [List.getElem?_cons_zero, Option.some.injEq] at h1 h2
      subst h1; subst h2
      exact cmpC_ok h.1
    | succ i =>
      simp only [List.getElem?_cons_succ] at h1 h2
      exact i2 i c c' h1 h2
def cmpR (B : TB) (V : List Nat) : List Nat → List (List CV) → Bool
  | [], [] => true
  | k :: ks, r :: rs => (match rowK B k with
    | some cs => cmpL V cs r
    | none => false) && cmpR B V ks rs
  | _, _ => false
theorem cmpR_ok {B : TB} {V : List Nat} : ∀ {ks : List Nat} {rs : List (List CV)}, cmpR B V ks rs = true → ks.length = rs.length ∧ ∀ (i k : Nat), ks[i]? = some k → ∃ cs r, entK (B.get k) = .row cs ∧ rs[i]? = some r ∧ cmpL V cs r = true
  | [], [], _ => ⟨rfl, fun i k h => by simp at h⟩
  | [], _ :: _, h => by cases h
  | _ :: _, [], h => by cases h
  | a :: l, b :: l', h => by
    unfold cmpR at h
    rw [Bool.and_eq_true] at h
    obtain ⟨i1, i2⟩ := cmpR_ok h.2
    refine ⟨by simp [i1], fun i k h1 => ?_⟩
    cases i with
    | zero =>
      simp only [List.getElem?_cons_zero, Option.some.injEq] at h1
      subst h1
      have h3 := h.1
      split at h3
      · rename_i cs hr
        exact ⟨cs, b, rowK_ok hr, rfl, h3⟩
      · cases h3
    | succ i =>
      simp only [List.getElem?_cons_succ] at h1
      obtain ⟨cs, r, r1, r2, r3⟩ := i2 i k h1
      exact ⟨cs, r, r1, by rw [List.getElem?_cons_succ]; exact r2, r3⟩
def rowsTr : List (List CV) → Nat → Tr (Ent × Nat) → Option (Tr (Ent × Nat))
  | [], _, t => some t
  | c :: cs, i, t => match Tr.set 20 t i (.row c, 0) with
    | some t' => rowsTr cs (i + 1) t'
    | none => none
theorem rowsTr_ok : ∀ (cs : List (List CV)) (i : Nat) (t t' : Tr (Ent × Nat)), rowsTr cs i t = some t' → ∀ j, t'.get j = if i ≤ j ∧ j < i + cs.length then (cs[j - i]?).map (fun r => (Ent.row r, 0)) else t.get j
  | [], i, t, t', h, j => by
    cases h
    rw [if_neg (by simp)]
  | c :: cs, i, t, t', h, j => by
    unfold rowsTr at h
    split at h
    · rename_i t1 h1
      rw [rowsTr_ok cs (i + 1) t1 t' h j, Tr.get_set _ _ _ _ _ h1 j]
      by_cases h2 : j = i
      · subst h2
        rw [if_neg (by omega), if_pos rfl, if_pos (by simp)]
        simp
      · by_cases h3 : i + 1 ≤ j ∧ j < i + 1 + cs.length
        · rw [if_pos h3, if_pos (by simp; omega), show j - i = (j - (i + 1)) + 1 by omega, List.getElem?_cons_succ]
        · rw [if_neg h3, if_neg h2, if_neg (by simp; omega)]
    · cases h
/-- An entry, run in all orders. -/
def coreOK (P : Program) (T : CTab) (fn : Func) (code : Code) (fuel : Nat) (e : En) : Bool := match rowsTr e.rows 0 .lf, argsTr [.sl e.z 0 e.off e.n e.c] 0 .lf with
  | some t, some s => Nat.blt 0 e.rows.length && Go.Proofs.YtmnpjaglgalobaaGreatW.C.runT P T fuel Bool ⟨false, fun l => l.all id⟩ (.code code) ⟨fn.ntmps, s, t, e.rows.length⟩ (leafOK T fn (List.range e.rows.length) e.rows.length e.m e.out)
  | _, _ => false
def nodupB : List Nat → Bool
  | [] => true
  | a :: l => !l.contains a && nodupB l
theorem nodupB_ok : ∀ {l : List Nat}, nodupB l = true → l.Nodup
  | [], _ => List.nodup_nil
  | a :: l, h => by
    unfold nodupB at h
    simp only [Bool.and_eq_true, Bool.not_eq_true'] at h
    exact List.nodup_cons.2 ⟨by simpa using h.1, nodupB_ok h.2⟩
def pickE (B : TB) (V : List Nat) (z off n : Nat) (c : Option Nat) : List En → Option En
  | [] => none
  | e :: l => match Nat.beq e.z z && Nat.beq e.off off && Nat.beq e.n n && eqO e.c c && cmpR B V V e.rows with
    | true => some e
    | false => pickE B V z off n c l
theorem pickE_ok {B : TB} {V : List Nat} {z off n : Nat} {c : Option Nat} : ∀ {l : List En} {e : En}, pickE B V z off n c l = some e → e ∈ l ∧ e.z = z ∧ e.off = off ∧ e.n = n ∧ e.c = c ∧ cmpR B V V e.rows = true
  | [], e, h => by cases h
  | a :: l, e, h => by
    unfold pickE at h
    split at h
    · rename_i hc
      cases h
      simp only [Bool.and_eq_true] at hc
      obtain ⟨⟨⟨⟨h1, h2⟩, h3⟩, h4⟩, h5⟩ := hc
      exact ⟨List.mem_cons_self, Nat.eq_of_beq_eq_true h1, Nat.eq_of_beq_eq_true h2, Nat.eq_of_beq_eq_true h3, eqO_ok h4, h5⟩
    · obtain ⟨h1, h2⟩ := pickE_ok h
      exact ⟨List.mem_cons_of_mem _ h1, h2⟩
def selE (es : List En) (vs : List CV) (B : TB) (nk : Nat) : Option En := match vs with
  | [.sl z kx off n c] => match rowK B kx with
    | some cs => match nodupB (kx :: vKeys cs) && !(kx :: vKeys cs).contains nk with
      | true => pickE B (kx :: vKeys cs) z off n c es
      | false => none
    | none => none
  | _ => none
noncomputable def hookE (es : List En) : HK := fun vs B nk k => thenO (selE es vs B nk) .fail fun q => newBox nk (.e (.row q.out) nk) B nk .fail fun B' nk' => k (.sl 1 nk 0 q.m none) B' nk'

section
variable {P : Program} {T : CTab}
theorem hookE_ok (hT : T.OK P) {g : FuncId} {fn : Func} {code : Code} (hf : P.funcs[g]? = some fn) (hb : fn.body = some code) (hc : callable P g = true) {t2 : Nat} (hres : fn.results.toList = [.tmp t2]) (hnt : 1 ≤ fn.ntmps) (fuel : Nat) (es : List En) (hes : ∀ e ∈ es, coreOK P T fn code fuel e = true) :
    ∀ vs B nk k, hookE es vs B nk k = .yes → ∃ r B' nk', k r B' nk' = .yes ∧ Lat B B' nk nk' ∧ CallTo P T g vs (entB B) fun r' B'' => r' = r ∧ B'' = entB B' := by
  intro vs B nk k h
  unfold hookE at h
  rw [thenO_eq] at h
  cases hq : selE es vs B nk with
  | none => rw [hq] at h; cases h
  | some e =>
    rw [hq] at h
    obtain ⟨hun, B', h1, h2⟩ := new_ok h
    refine ⟨.sl 1 nk 0 e.m none, B', nk + 1, h1, lat_put (Nat.le_refl _) (by rw [hun]; simp) h2, hc, fn, code, hf, hb, ?_⟩
    unfold selE at hq
    split at hq
    · rename_i z kx off n c
      split at hq
      · rename_i cs0 hcs0
        split at hq
        · rename_i hcond
          obtain ⟨hmem, ez, eoff, en, ec, hcmp⟩ := pickE_ok hq
          have hcore := hes e hmem
          rw [Bool.and_eq_true] at hcond
          have hnd := nodupB_ok hcond.1
          have hnV : nk ∉ kx :: vKeys cs0 := by simpa using hcond.2
          have hV0 : (kx :: vKeys cs0)[0]? = some kx := rfl
          obtain ⟨hlen, hrows⟩ := cmpR_ok hcmp
          generalize hV : kx :: vKeys cs0 = V at hnd hnV hV0 hlen hrows
          unfold coreOK at hcore
          split at hcore
          · rename_i t s hrt hargs
            rw [Bool.and_eq_true] at hcore
            have hN : 0 < e.rows.length := blt_iff.1 hcore.1
            have hrun := hcore.2
            rw [ez, eoff, en, ec] at hargs
            refine ⟨by simpa using hnt, fun base w0 a w hrel => ?_⟩
            obtain ⟨E, hok, hle0, hdd, hs⟩ := hrel.ex
            -- the small surroundings
            let E0 : Env := ⟨fun i => (V[i]?).bind E.bm, fun i => E.Z ((V[i]?).getD 0), E.src⟩
            let Own : Nat → Prop := fun b => ∃ j ∈ V, E.bm j = some b
            let x0 : X := ⟨fn.ntmps, s, t, e.rows.length⟩
            have hE0 : ∀ i k, V[i]? = some k → E0.bm i = E.bm k ∧ E0.Z i = E.Z k := fun i k hi => ⟨by show (V[i]?).bind E.bm = _; rw [hi]; rfl, by show E.Z ((V[i]?).getD 0) = _; rw [hi]; rfl⟩
            have hinV : ∀ i k, V[i]? = some k → k ∈ V := fun i k hi => List.mem_of_getElem? hi
            have hVin : ∀ k ∈ V, ∃ i, V[i]? = some k := fun k hk => List.mem_iff_getElem?.1 hk
            have hltN : ∀ i k, V[i]? = some k → i < e.rows.length := fun i k hi => by
              rw [← hlen]; exact (List.getElem?_eq_some_iff.1 hi).1
            have hent0 : ∀ i, x0.ent i = entOf ((e.rows[i]?).map fun r => (Ent.row r, 0)) := fun i => by
              show entOf (t.get i) = _
              rw [rowsTr_ok _ _ _ _ hrt i]
              simp only [Nat.zero_le, true_and, Nat.zero_add, Nat.sub_zero]
              by_cases hi : i < e.rows.length
              · rw [if_pos hi]
              · rw [if_neg hi, List.getElem?_eq_none (by omega)]; rfl
            have hentr : ∀ i r, e.rows[i]? = some r → x0.ent i = .row r := fun i r hi => by rw [hent0 i, hi]; rfl
            have hent : ∀ i k, V[i]? = some k → ∃ cs r, entB B k = .row cs ∧ e.rows[i]? = some r ∧ x0.ent i = .row r ∧ cmpL V cs r = true := fun i k hi => by
              obtain ⟨cs, r, r1, r2, r3⟩ := hrows i k hi
              exact ⟨cs, r, r1, r2, hentr i r r2, r3⟩
            have hentn : ∀ i, V[i]? = none → x0.ent i = .un := fun i hi => by
              rw [hent0 i, List.getElem?_eq_none (by rw [← hlen]; exact List.getElem?_eq_none_iff.1 hi)]; rfl
            have hliv0 : ∀ i, (x0.ent i).live = true → ∃ k, V[i]? = some k := fun i hi => by
              cases hv : V[i]? with
              | some k => exact ⟨k, rfl⟩
              | none => rw [hentn i hv] at hi; cases hi
            have hlive : ∀ j ∈ V, (entB B j).live = true := fun j hj => by
              obtain ⟨i, hi⟩ := hVin j hj
              obtain ⟨cs, r, c1, _⟩ := hent i j hi
              rw [c1]; rfl
            have own_ok : ∀ b, Own b → base b ∨ w0.w.heap.size ≤ b := fun b ⟨j, hj, hjb⟩ => by
              obtain ⟨b', b1, b2, _⟩ := hok.box j (hlive j hj)
              rw [hjb] at b1; cases b1
              exact b2
            have hVinj : ∀ i i' k, V[i]? = some k → V[i']? = some k → i = i' := fun i i' k hi hi' => by
              have g1 := (List.getElem?_eq_some_iff.1 hi)
              have g2 := (List.getElem?_eq_some_iff.1 hi')
              exact (List.getElem_inj hnd).1 (g1.2.trans g2.2.symm)
            have hok0 : OK Own w E0 x0.ent w := by
              refine ⟨Keep.refl _ _, fun i hi => ?_, fun i hi => ?_, fun i i' b hne hi hi' hib => ?_, hok.src.inner hok.below own_ok⟩
              · cases hv : V[i]? with
                | some k =>
                  obtain ⟨cs, r, c1, c2, c3, _⟩ := hent i k hv
                  rw [c3] at hi; cases hi
                | none => show (V[i]?).bind E.bm = none; rw [hv]; rfl
              · obtain ⟨k, hv⟩ := hliv0 i hi
                obtain ⟨cs, r, c1, c2, c3, c4⟩ := hent i k hv
                obtain ⟨b, b1, b2, b3⟩ := hok.box k (hlive k (hinV i k hv))
                refine ⟨b, by rw [(hE0 i k hv).1]; exact b1, .inl ⟨k, hinV i k hv, b1⟩, ?_⟩
                obtain ⟨l1, l2⟩ := cmpL_ok c4
                have b3 : BoxAt E w b (E.Z k) (entB B k) := b3
                rw [c1] at b3
                rw [c3, (hE0 i k hv).2]
                obtain ⟨ty, ccs, d1, d2, d3, d4⟩ := b3
                refine ⟨ty, ccs, d1, d2, by rw [← l1]; exact d3, fun q cc' v hcc' hv2 => ?_⟩
                have hql : q < cs.length := by rw [l1]; exact (List.getElem?_eq_some_iff.1 hcc').1
                have hcc : cs[q]? = some cs[q] := List.getElem?_eq_getElem hql
                exact ⟨(d4 q _ v hcc hv2).1, RV.down hE0 rfl (l2 q _ _ hcc hcc') (d4 q _ v hcc hv2).2⟩
              · obtain ⟨k, hv⟩ := hliv0 i hi
                obtain ⟨k', hv'⟩ := hliv0 i' hi'
                rw [(hE0 i k hv).1] at hib
                rw [(hE0 i' k' hv').1]
                exact hok.inj k k' b (fun e9 => hne (hVinj i i' k hv (e9 ▸ hv'))) (hlive k (hinV i k hv)) (hlive k' (hinV i' k' hv')) hib
            have hslot : ∀ q, x0.slot q = (([.sl z 0 off n c] : List CV)[q]?).getD (.val undef) := fun q => by
              show (s.get q).getD (.val undef) = _
              rw [argsTr_ok _ _ _ _ hargs q]
              simp only [Nat.zero_le, true_and, Nat.zero_add, Nat.sub_zero]
              by_cases hq : q < ([.sl z 0 off n c] : List CV).length
              · rw [if_pos hq]
              · rw [if_neg hq, List.getElem?_eq_none (by omega)]; rfl
            have hrel0 : Rel Own ⟨w, E0, x0.ent⟩ x0.st a w := by
              refine ⟨⟨E0, hok0, Env.Le.refl _, fun j hj => ?_, fun q => ?_⟩, hrel.size, hrel.defs⟩
              · exact ⟨hj, rfl⟩
              · show RV E0 (x0.slot q) _
                have hsq := hs q
                rw [hslot q]
                have e1 : (⟨fn.ntmps, fun t => ([.sl z kx off n c] : List CV).getD t (.val undef), entB B⟩ : St).s q = ([.sl z kx off n c] : List CV).getD q (.val undef) := rfl
                rw [e1, List.getD_eq_getElem?_getD] at hsq
                cases q with
                | zero => exact RV.down hE0 rfl (.sl z kx off n c 0 hV0) hsq
                | succ q =>
                  simp only [List.getElem?_cons_succ, List.getElem?_nil, Option.getD_none] at hsq ⊢
                  rw [RV.val_iff] at hsq ⊢
                  exact hsq
            have hwp := (Go.Proofs.YtmnpjaglgalobaaGreatW.C.runT_ok hT fuel Bool ⟨false, fun l => l.all id⟩ (fun b => b = true) (by simp) (fun l hl r hr => by
              have := List.all_eq_true.1 hl r hr
              exact this) (.code code) x0 (leafOK T fn (List.range e.rows.length) e.rows.length e.m e.out) hrun).2 Own ⟨w, E0, x0.ent⟩ a w hrel0
            refine wp_mono hwp fun ex a' w' hso => ?_
            obtain ⟨x', hlat, hgood, hrel'⟩ := hso
            obtain ⟨kb, he, hr1, hr2, hr3, hr4, hr5⟩ := leafOK_ok hgood
            obtain ⟨E1, hok1, hle1, hdd1, hs1⟩ := hrel'.ex
            have hr4' : ∀ i k, V[i]? = some k → kb ≠ i := fun i k hi e9 => hr4 (e9 ▸ List.mem_range.2 (hltN i k hi))
            have hV' : ∀ i k, V[i]? = some k → x'.ent i = x0.ent i := fun i k hi => by
              obtain ⟨y, sg, y1, y2⟩ := hr5 i (List.mem_range.2 (hltN i k hi))
              unfold X.ent
              rcases hlat.B i with h9 | ⟨e9, s9, h9, h10⟩
              · rw [h9]
              · exfalso
                rw [h9] at y1
                cases y1
                have : x0.nk = e.rows.length := rfl
                omega
            have hE1 : ∀ i k, V[i]? = some k → E1.bm i = E.bm k ∧ E1.Z i = E.Z k := fun i k hi => by
              obtain ⟨b, b1, _⟩ := hok.box k (hlive k (hinV i k hi))
              have := hle1.1 i b (by rw [(hE0 i k hi).1]; exact b1)
              exact ⟨by rw [this.1, b1], by rw [this.2]; exact (hE0 i k hi).2⟩
            have hlv1 : ∀ i k, V[i]? = some k → (x'.ent i).live = true := fun i k hi => by
              obtain ⟨cs, r, c1, c2, c3, _⟩ := hent i k hi
              rw [hV' i k hi, c3]; rfl
            obtain ⟨bb, bb1, bb2, bb3⟩ := hok1.box kb (by show (x'.st.B kb).live = true; rw [show x'.st.B kb = .row e.out from hr2]; rfl)
            rw [show x'.st.B kb = .row e.out from hr2] at bb3
            have hBe : entB B' = upd (entB B) nk (.row e.out) := by
              funext j
              show entK (B'.get j) = _
              rw [h2 j]
              unfold upd
              by_cases e9 : j = nk
              · rw [if_pos e9, if_pos e9]; rfl
              · rw [if_neg e9, if_neg e9]; rfl
            have hnkE : E.bm nk = none := hok.un nk hun
            let E' : Env := E.add nk bb (E1.Z kb)
            have hleE : E.Le E' := Env.le_add hnkE
            have hE' : ∀ j, j ≠ nk → E'.bm j = E.bm j ∧ E'.Z j = E.Z j := fun j hj => ⟨by show (upd E.bm nk (some bb)) j = _; rw [upd_ne _ _ hj], by show (upd E.Z nk (E1.Z kb)) j = _; rw [upd_ne _ _ hj]⟩
            have hVnk : ∀ j ∈ V, j ≠ nk := fun j hj e9 => hnV (e9 ▸ hj)
            have hlt : ∀ j b, (entB B j).live = true → E.bm j = some b → b < w.heap.size := fun j b hj hb9 => by
              obtain ⟨b', b1, _, b3⟩ := hok.box j hj
              rw [hb9] at b1; cases b1
              exact b3.lt hj
            -- where the new row lies: in no old box
            have bbnew : ∀ j b, (entB B j).live = true → E.bm j = some b → b ≠ bb := fun j b hj hb9 e9 => by
              subst e9
              by_cases hv : j ∈ V
              · obtain ⟨i, hi⟩ := hVin j hv
                have h8 := hok1.inj kb i b (hr4' i j hi) (by rw [show x'.st.B kb = .row e.out from hr2]; rfl) (hlv1 i j hi) bb1
                rw [(hE1 i j hi).1] at h8
                exact h8 hb9
              · rcases bb2 with ⟨j2, j2v, j2b⟩ | h8
                · have hne : j ≠ j2 := fun e8 => hv (e8 ▸ j2v)
                  exact hok.inj j j2 b hne hj (hlive j2 j2v) hb9 j2b
                · have := hlt j b hj hb9
                  have hws : (⟨w, E0, x0.ent⟩ : Base).w.heap.size = w.heap.size := rfl
                  omega
            have hok' : OK base w0.w E' (entB B') w' := by
              rw [hBe]
              refine ⟨⟨hok1.below.os.trans hok.below.os, hok1.below.tape.trans hok.below.tape, hok1.below.output.trans hok.below.output, Nat.le_trans hok.below.size hok1.below.size, fun i hi hnb => ?_⟩, fun j hj => ?_, fun j hj => ?_, fun j j' b hne hj hj' hjb => ?_, hok.src⟩
              · rw [hok1.below.block i (Nat.lt_of_lt_of_le hi hok.below.size) fun hown => by
                  rcases own_ok i hown with h9 | h9
                  · exact hnb h9
                  · omega]
                exact hok.below.block i hi hnb
              · by_cases e9 : j = nk
                · subst e9; rw [upd_same] at hj; cases hj
                · rw [upd_ne _ _ e9] at hj
                  rw [(hE' j e9).1]
                  exact hok.un j hj
              · by_cases e9 : j = nk
                · subst e9
                  rw [upd_same]
                  refine ⟨bb, Env.add_bm .., ?_, ?_⟩
                  · rcases bb2 with h8 | h8
                    · exact own_ok bb h8
                    · exact .inr (Nat.le_trans hok.below.size h8)
                  · rw [show E'.Z j = E1.Z kb from Env.add_Z ..]
                    obtain ⟨ty, ccs, d1, d2, d3, d4⟩ := bb3
                    refine ⟨ty, ccs, d1, d2, d3, fun i cc v hcc hv2 => ⟨(d4 i cc v hcc hv2).1, ?_⟩⟩
                    have h8 := List.all_eq_true.1 hr3 cc (List.mem_of_getElem? hcc)
                    have h7 := (d4 i cc v hcc hv2).2
                    cases cc <;> first | (rw [RV.val_iff] at h7 ⊢; exact h7) | cases h8
                · rw [upd_ne _ _ e9] at hj ⊢
                  obtain ⟨b, b1, b2, b3⟩ := hok.box j hj
                  refine ⟨b, by rw [(hE' j e9).1]; exact b1, b2, ?_⟩
                  rw [(hE' j e9).2]
                  by_cases hv : j ∈ V
                  · obtain ⟨i0, hi0⟩ := hVin j hv
                    obtain ⟨b', c1, _, c3⟩ := hok1.box i0 (hlv1 i0 j hi0)
                    rw [(hE1 i0 j hi0).1, b1] at c1; cases c1
                    obtain ⟨cs, r, k1, k2, k3, k4⟩ := hent i0 j hi0
                    rw [show x'.st.B i0 = .row r from (hV' i0 j hi0).trans k3, (hE1 i0 j hi0).2] at c3
                    rw [k1]
                    obtain ⟨l1, l2⟩ := cmpL_ok k4
                    obtain ⟨ty, ccs, d1, d2, d3, d4⟩ := c3
                    refine ⟨ty, ccs, d1, d2, by rw [l1]; exact d3, fun q cc v hcc hv2 => ?_⟩
                    have hql : q < r.length := by rw [← l1]; exact (List.getElem?_eq_some_iff.1 hcc).1
                    have hcc' : r[q]? = some r[q] := List.getElem?_eq_getElem hql
                    refine ⟨(d4 q _ v hcc' hv2).1, RV.up (E := E') (V := V) (fun i9 k9 hi9 => ?_) (show E1.src = E'.src from hle1.2) (l2 q _ _ hcc hcc') (d4 q _ v hcc' hv2).2⟩
                    rw [(hE' k9 (hVnk k9 (hinV i9 k9 hi9))).1, (hE' k9 (hVnk k9 (hinV i9 k9 hi9))).2]
                    exact hE1 i9 k9 hi9
                  · refine b3.mono hleE (hok1.below.block b (hlt j b hj b1) fun ⟨j2, j2v, j2b⟩ => ?_)
                    exact hok.inj j j2 b (fun e8 => hv (e8 ▸ j2v)) hj (hlive j2 j2v) b1 j2b
              · by_cases e9 : j = nk
                · subst e9
                  rw [show E'.bm j = some bb from Env.add_bm ..] at hjb
                  cases hjb
                  rw [upd_ne _ _ (Ne.symm hne)] at hj'
                  rw [(hE' j' (Ne.symm hne)).1]
                  exact fun h8 => bbnew j' bb hj' h8 rfl
                · rw [upd_ne _ _ e9] at hj
                  rw [(hE' j e9).1] at hjb
                  by_cases e8 : j' = nk
                  · subst e8
                    rw [show E'.bm j' = some bb from Env.add_bm ..]
                    exact fun h8 => bbnew j b hj hjb (Option.some.inj h8).symm
                  · rw [upd_ne _ _ e8] at hj'
                    rw [(hE' j' e8).1]
                    exact hok.inj j j' b hne hj hj' hjb
            have hr1' : x'.slot t2 = .sl 1 kb 0 e.m none := by
              rw [hres] at hr1
              have : some (x'.slot t2) = some (CV.sl 1 kb 0 e.m none) := hr1
              exact Option.some.inj this
            have hrelF : Rel base w0 ⟨x'.n, fun q => if q = t2 then .sl 1 nk 0 e.m none else .any, entB B'⟩ a' w' := by
              refine ⟨⟨E', hok', hle0.trans hleE, fun j hj => ?_, fun q => ?_⟩, ?_, hrel'.defs⟩
              · have h8 := hdd j hj
                have h8a : entB B j = .dead := h8.1
                have hne : j ≠ nk := fun e8 => by
                  subst e8
                  rw [show entB B j = .un from hun] at h8a; cases h8a
                refine ⟨?_, by rw [(hE' j hne).1]; exact h8.2⟩
                show entB B' j = .dead
                rw [hBe, upd_ne _ _ hne]; exact h8a
              · show RV E' (if q = t2 then .sl 1 nk 0 e.m none else .any) _
                by_cases hq9 : q = t2
                · subst hq9
                  rw [if_pos rfl]
                  have h8 := hs1 q
                  rw [show x'.st.s q = .sl 1 kb 0 e.m none from hr1'] at h8
                  generalize a'.tmps.getD q undef = v at h8 ⊢
                  cases h8 with
                  | sl _ _ _ _ _ b c' g1 g2 g3 g4 g5 =>
                    rw [bb1] at g1; cases g1
                    exact .sl 1 nk 0 e.m none bb c' (Env.add_bm ..) g2 (fun x hx => by cases hx) (by rw [show E'.Z nk = E1.Z kb from Env.add_Z ..]; exact g4) (fun _ => by rw [show E'.Z nk = E1.Z kb from Env.add_Z ..]; exact g5 rfl)
                · rw [if_neg hq9]; exact .any _
              · exact hrel'.size
            refine ⟨_, ?_, hrelF⟩
            have hfin : ∃ r, resC T ⟨x'.n, fun q => if q = t2 then .sl 1 nk 0 e.m none else .any, entB B'⟩ fn.results.toList = some r ∧ (r = .sl 1 nk 0 e.m none ∧ entB B' = entB B') := by
              refine ⟨_, ?_, rfl, rfl⟩
              rw [hres]
              show some (if t2 = t2 then CV.sl 1 nk 0 e.m none else .any) = _
              rw [if_pos rfl]
            rcases he with rfl | rfl
            · exact hfin
            · exact hfin
          · cases hcore
        · cases hq
      · cases hq
    · cases hq
end
end Go.Proofs.YtmnpjaglgalobaaGreatW.D
