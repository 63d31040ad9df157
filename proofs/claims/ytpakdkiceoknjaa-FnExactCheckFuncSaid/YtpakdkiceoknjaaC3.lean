/- The abstract machine, part 23: a walk that is reckoned step by step over a stack of code; contracts of callees by a list. No condition. -/
import Derived.Test.YtpakdkiceoknjaaC2
import Derived.Test.YtpakdkiceoknjaaC1
namespace Go.Proofs.Ytpakdkiceoknjaa
set_option linter.unusedVariables false
set_option linter.unusedSimpArgs false

/-- A contract: of arguments what must hold, the answer, and the places that are new with it. -/
structure Ent (P : Program) where
  f : FuncId
  e : List V → Option (Prop × V × Heap)
  good : ∀ vs c r R, e vs = some (c, r, R) → c → ∀ H, CallsD P f vs H (answers r R H)
  cl : ∀ vs x, e vs = some x → closedL vs = true
/-- A contract that speaks of the caller's places. -/
structure EntH (P : Program) where
  f : FuncId
  e : List V → Heap → R
  good : ∀ vs H k, (e vs H).holds P k → CallsD P f vs H k
  gro : Bool
  det : gro = true → ∀ vs H (k : V → Heap → Prop), (e vs H).holds P k → ∃ r S, (∀ k' : V → Heap → Prop, k' r (H ++ S) → (e vs H).holds P k') ∧ k r (H ++ S)
section
variable {P : Program}
def tab : List (Ent P) → FuncId → List V → Option (Prop × V × Heap)
  | [], _, _ => none
  | K :: l, g, vs => if K.f = g then K.e vs else tab l g vs
def tabH : List (EntH P) → FuncId → List V → Heap → R
  | [], g, vs, H => .call g vs H
  | K :: l, g, vs, H => if K.f = g then K.e vs H else tabH l g vs H
def tabK : List (EntH P) → FuncId → List V → Heap → R
  | [], _, _, _ => .bad
  | K :: l, g, vs, H => if K.f = g then (bif K.gro then K.e vs H else .bad) else tabK l g vs H
open Classical in
noncomputable def tabG (l : List (Ent P)) : Table := fun g vs => match tab l g vs with
  | some (c, r, R) => if c then some (r, R) else none
  | none => none
theorem tab_good {g : FuncId} {vs : List V} {c : Prop} {r : V} {R : Heap} : ∀ (l : List (Ent P)), tab l g vs = some (c, r, R) → c → ∀ H, CallsD P g vs H (answers r R H)
  | [], h, _, _ => by simp [tab] at h
  | K :: l, h, hc, H => by
    simp only [tab] at h
    split at h
    · rename_i e; rw [← e]; exact K.good vs c r R h hc H
    · exact tab_good l h hc H
theorem tabG_good (l : List (Ent P)) : Good P (tabG l) := by
  intro g vs r R H h
  unfold tabG at h
  split at h
  · rename_i e
    split at h
    · rename_i hc; cases h; exact tab_good l e hc H
    · cases h
  · cases h
theorem tab_cl {g : FuncId} {vs : List V} : ∀ (l : List (Ent P)) {x : Prop × V × Heap}, tab l g vs = some x → closedL vs = true
  | [], _, h => by simp [tab] at h
  | K :: l, x, h => by
    simp only [tab] at h
    split at h
    · exact K.cl vs x h
    · exact tab_cl l h
theorem tabH_good {g : FuncId} {vs : List V} {H : Heap} {k : V → Heap → Prop} : ∀ (l : List (EntH P)), (tabH l g vs H).holds P k → CallsD P g vs H k
  | [], h => h
  | K :: l, h => by
    simp only [tabH] at h
    split at h
    · rename_i e; rw [← e]; exact K.good vs H k h
    · exact tabH_good l h
end

theorem tabK_good {P : Program} {g : FuncId} {vs : List V} {H : Heap} {k : V → Heap → Prop} : ∀ (l : List (EntH P)), (tabK l g vs H).holds P k → ∃ r R, CallsD P g vs H (fun r' H' => r' = r ∧ H' = H ++ R) ∧ k r (H ++ R)
  | [], h => h.elim
  | K :: l, h => by
    simp only [tabK] at h
    split at h
    · rename_i e
      cases hg : K.gro with
      | false => rw [hg] at h; exact h.elim
      | true =>
        rw [hg, cond_true] at h
        obtain ⟨r, S, h1, h2⟩ := K.det hg vs H k h
        exact ⟨r, S, by rw [← e]; exact K.good vs H _ (h1 _ ⟨rfl, rfl⟩), h2⟩
    · exact tabK_good l h
/-- What a walk is given: contracts, callees with own places, slots. -/
structure Cfg (P : Program) where
  l : List (Ent P)
  lh : List (EntH P)
  own : List FuncId
  N : Nat
  n0 : Nat
  K : List Nat
  S : List Nat

section
variable {P : Program} (C : Cfg P)
noncomputable def ansR (o : Option (Prop × V × Heap)) (g : FuncId) (vs : List V) (H : Heap) : R :=
  match o with
  | some (c, r, []) => guardR c (.ok r H)
  | some (c, r, p :: R) => guardR c (.ok (r.shift H.length) (H ++ (p :: R).map (Place.shift H.length)))
  | none => tabH C.lh g vs H
noncomputable def ansT (o : Option (Prop × V × Heap)) (H : Heap) : R :=
  match o with
  | some (c, r, []) => guardR c (.ok r H)
  | _ => .bad
noncomputable def goR (byVal : Bool) (g : FuncId) (vs : List V) (H : Heap) : R := bif byVal then ansT (tab C.l g vs) H else bif closedL vs then ansR C (tab C.l g vs) g vs H else tabH C.lh g vs H
noncomputable def growR (g : FuncId) (vs : List V) (H : Heap) : R := bif closedL vs then (match tab C.l g vs with
  | some (c, r, []) => guardR c (.ok r H)
  | some (c, r, p :: R) => guardR c (.ok (r.shift H.length) (H ++ (p :: R).map (Place.shift H.length)))
  | none => .bad) else tabK C.lh g vs H
noncomputable def callR (byVal : Bool) (f : V) (vs : List V) (H : Heap) : R :=
  match f with
  | .d (.clo g n cap) => goR C byVal g (vs ++ upto n fun j => .d (cap j)) H
  | .clo g l => goR C byVal g (vs ++ l) H
  | _ => .bad
noncomputable def opR (dr : Bool) (env : Env) (H : Heap) (o : Op) : R :=
  match o with
  | .move x => .ok (ev env x) H
  | .assign x => .ok (ev env x) H
  | .pick c a b => pickR (ev env c) (ev env a) (ev env b) H
  | .alloc t => allocR (tinfo P t) H
  | .box t x => boxR (tinfo P t) (ev env x) H
  | .build t parts => buildR (tinfo P t) (parts.toList.map fun p => (p.1, ev env p.2)) H
  | .buildSlice t len parts => buildSliceR P t len (parts.toList.map fun p => (p.1, ev env p.2)) H
  | .load t a => loadR (tinfo P t) (ev env a) H
  | .store t a x => storeR (tinfo P t) (ev env a) (ev env x) H
  | .nilCheck x => nilCheckR (ev env x) H
  | .binOp op t x y _ => binR P dr op t (ev env x) (ev env y) H
  | .unOp op _ x => unR op (ev env x) H
  | .convert src dst x => convertR P src dst (ev env x) H
  | .makeFunc (.func f) first captured => guardR (first.size = 0) (.ok (.clo f (captured.toList.map (ev env))) H)
  | .makeSlice t l c => makeSliceR P t (ev env l) (ev env c) H
  | .slice t x lo hi mx => sliceR P t (ev env x) (lo.map (ev env)) (hi.map (ev env)) (mx.map (ev env)) H
  | .fieldAddr s x f => fieldAddrR P s (ev env x) f H
  | .field s x f => fieldR P s (ev env x) f H
  | .indexAddr t x ix => indexAddrR P t (ev env x) (ev env ix) H
  | .index t x ix => indexR P t (ev env x) (ev env ix) H
  | .extract t i => extractR (ev env t) i H
  | .call ⟨.value f, args, _⟩ => bif dr && growCallee C.own (.value f) then (match f with | .func g => growR C g (args.toList.map (ev env)) H | _ => .bad) else callR C (dr && !ownCallee C.own (.value f)) (ev env f) (args.toList.map (ev env)) H
  | .call ⟨.builtin .len, args, ts⟩ => (match args.toList, ts.toList with
    | [x], [t] => lenR P t (ev env x) H
    | _, _ => .bad)
  | .call ⟨.builtin .append, args, ts⟩ => (match args.toList, ts.toList with
    | [s, x], [t, t'] => guardR (t = t') (appendR P t (ev env s) (ev env x) H)
    | _, _ => .bad)
  | .call ⟨.builtin .copy, args, ts⟩ => (match args.toList, ts.toList with
    | [s, x], [t, t'] => guardR (t = t') (copyR P t (ev env s) (ev env x) H)
    | _, _ => .bad)
  | _ => .bad
variable {C}
theorem ansR_ok {g : FuncId} {vs : List V} {H : Heap} {k : V → Heap → Prop} (h : (ansR C (tab C.l g vs) g vs H).holds P k) : goD P (tabG C.l) g vs H k := by
  unfold ansR at h
  unfold goD tabG
  split at h
  · rename_i e
    rw [guardR_holds] at h
    simp only [e, h.1, if_true]
    exact h.2
  · rename_i e
    rw [guardR_holds] at h
    simp only [e, h.1, if_true]
    exact h.2
  · rename_i e
    simp only [e]
    exact tabH_good C.lh h
theorem goR_ok {g : FuncId} {vs : List V} {H : Heap} {k : V → Heap → Prop} (h : (bif closedL vs then ansR C (tab C.l g vs) g vs H else tabH C.lh g vs H).holds P k) : goD P (tabG C.l) g vs H k := by
  cases hc : closedL vs with
  | true => rw [hc] at h; exact ansR_ok h
  | false =>
    rw [hc] at h
    unfold goD tabG
    cases ht : tab C.l g vs with
    | none => exact tabH_good C.lh h
    | some x => rw [tab_cl C.l ht] at hc; cases hc
theorem ansT_ok {g : FuncId} {vs : List V} {H : Heap} {k : V → Heap → Prop} (h : (ansT (tab C.l g vs) H).holds P k) : goT (tabG C.l) g vs (fun v => k v H) := by
  unfold ansT at h
  unfold goT tabG
  split at h
  · rename_i e
    rw [guardR_holds] at h
    simp only [e, h.1, if_true]
    exact h.2
  · exact h.elim
theorem growR_ok {g : FuncId} {vs : List V} {H : Heap} {k : V → Heap → Prop} (h : (growR C g vs H).holds P k) : ∃ r R, CallsD P g vs H (fun r' H' => r' = r ∧ H' = H ++ R) ∧ k r (H ++ R) := by
  unfold growR at h
  cases hc : closedL vs with
  | true =>
    rw [hc, cond_true] at h
    split at h
    · rename_i e
      rw [guardR_holds] at h
      refine ⟨_, [], (tab_good C.l e h.1 H).mono fun r' H' q => ?_, by rw [List.append_nil]; exact h.2⟩
      rw [List.append_nil]; exact q
    · rename_i e
      rw [guardR_holds] at h
      exact ⟨_, _, (tab_good C.l e h.1 H).mono fun r' H' q => q, h.2⟩
    · exact h.elim
  | false => rw [hc, cond_false] at h; exact tabK_good C.lh h
theorem opR_ok {dr : Bool} {env : Env} {H : Heap} {o : Op} {k : V → Heap → Prop} (h : (opR C dr env H o).holds P k) : (bif dr then opT P (tabG C.l) C.own env H o k else opD P (tabG C.l) env H o k) := by
  have plain : (∀ op t x y z, o ≠ .binOp op t x y z) → (∀ c, o ≠ .call c) → opD P (tabG C.l) env H o k → (bif dr then opT P (tabG C.l) C.own env H o k else opD P (tabG C.l) env H o k) := by
    intro h1 h2 h'
    cases dr with
    | false => rw [cond_false]; exact h'
    | true =>
      rw [cond_true]
      unfold opT
      split
      · exact absurd rfl (h1 _ _ _ _ _)
      · exact absurd rfl (h2 _)
      · exact h'
  unfold opR at h
  split at h
  case h_11 => exact (binR_ok h : _)
  case h_22 f args ts =>
    have key : (match f with | _ => True) := by cases f <;> trivial
    cases dr with
    | false =>
      simp only [Bool.false_and, callR, goR, cond_false] at h
      rw [cond_false]
      simp only [opD, callD]
      split at h
      · rename_i e; simp only [e]; exact goR_ok h
      · rename_i e; simp only [e]; exact goR_ok h
      · exact h.elim
    | true =>
      rw [cond_true]
      simp only [opT]
      cases hgr : growCallee C.own (.value f) with
      | true =>
        simp only [Bool.true_and, hgr, cond_true] at h
        rw [if_pos rfl]
        unfold callG
        split at h
        · exact growR_ok h
        · exact h.elim
      | false =>
      simp only [Bool.true_and, hgr, cond_false, callR, goR] at h
      rw [if_neg (by decide)]
      cases ho : ownCallee C.own (.value f) with
      | true =>
        simp only [ho, Bool.not_true, cond_false] at h
        rw [if_pos rfl]
        simp only [callD]
        split at h
        · rename_i e; simp only [e]; exact goR_ok h
        · rename_i e; simp only [e]; exact goR_ok h
        · exact h.elim
      | false =>
        simp only [ho, Bool.not_false, cond_true] at h
        rw [if_neg (by decide)]
        simp only [callT]
        split at h
        · rename_i e; simp only [e]; exact ansT_ok h
        · rename_i e; simp only [e]; exact ansT_ok h
        · exact h.elim
  case h_23 args ts =>
    have hl : ∀ {k' : V → Prop}, (match args.toList, ts.toList with | [x], [t] => lenD P t (ev env x) k' | _, _ => False) = (match args.toList, ts.toList with | [x], [t] => lenD P t (ev env x) k' | _, _ => False) := rfl
    split at h
    · rename_i e1 e2
      have := lenR_ok h
      cases dr with
      | false => rw [cond_false]; simp only [opD, callD, e1, e2]; exact this
      | true => rw [cond_true]; simp only [opT, growCallee, ownCallee, Bool.false_eq_true, if_false, callT, e1, e2]; exact this
    · exact h.elim
  case h_24 args ts =>
    split at h
    · rename_i e1 e2
      rw [guardR_holds] at h
      have := appendR_ok h.2
      cases dr with
      | false => rw [cond_false]; simp only [opD, callD, e1, e2]; exact ⟨h.1, this⟩
      | true => rw [cond_true]; simp only [opT, growCallee, ownCallee, Bool.false_eq_true, if_false, if_true, callD, e1, e2]; exact ⟨h.1, this⟩
    · exact h.elim
  case h_25 args ts =>
    split at h
    · rename_i e1 e2
      rw [guardR_holds] at h
      have := copyR_ok h.2
      cases dr with
      | false => rw [cond_false]; simp only [opD, callD, e1, e2]; exact ⟨h.1, this⟩
      | true => rw [cond_true]; simp only [opT, growCallee, ownCallee, Bool.false_eq_true, if_false, if_true, callD, e1, e2]; exact ⟨h.1, this⟩
    · exact h.elim
  case h_26 => exact h.elim
  all_goals refine plain (fun _ _ _ _ _ hh => by cases hh) (fun _ hh => by cases hh) ?_
  all_goals simp only [opD]
  case h_1 => exact h
  case h_2 => exact h
  case h_3 => exact pickR_ok h
  case h_4 => exact allocR_ok h
  case h_5 => exact boxR_ok h
  case h_6 => exact buildR_ok h
  case h_7 => exact buildSliceR_ok h
  case h_8 => exact loadR_ok h
  case h_9 => exact storeR_ok h
  case h_10 => exact nilCheckR_ok h
  case h_12 => exact unR_ok h
  case h_13 => exact convertR_ok h
  case h_14 => rw [guardR_holds] at h; exact h
  case h_15 => exact makeSliceR_ok h
  case h_16 => exact sliceR_ok h
  case h_17 => exact fieldAddrR_ok h
  case h_18 => exact fieldR_ok h
  case h_19 => exact indexAddrR_ok h
  case h_20 => exact indexR_ok h
  case h_21 => exact extractR_ok h
end
end Go.Proofs.Ytpakdkiceoknjaa
