/- The abstract machine, part 12: a region in the order of its text, the code, a call's begin and end. No condition. -/
import Derived.Test.YtpakdkiceoknjaaB1
namespace Go.Proofs.Ytpakdkiceoknjaa
set_option linter.unusedVariables false
set_option linter.unusedSimpArgs false

section
variable {P : Program} {x : Ctx} {N : Nat} {env : Env} {H : Heap} {φ : List (Nat × Nat)} {a : Act} {w : World}

theorem Sim.putO {env : Env} {H : Heap} {φ : List (Nat × Nat)} {a : Act} {w : World} (h : Sim x N ⟨env, H⟩ φ a w) {t : Option Nat} (ht : (match t with | some t => decide (t < N) | none => true) = true) {c : V} {v : Value}
    (hv : VS w (owned x.X φ H) φ c v) : Sim x N ⟨updO env t c, H⟩ φ (a.put t v) w := by
  cases t with
  | none => exact h
  | some t => exact h.put (by simpa using ht) hv

theorem slot_bool {env : Env} (h : Sim x N ⟨env, H⟩ φ a w) {t : Nat} {b : Bool} (he : env t = .d (.bool b)) : a.tmps[t]? = some (.bool b) := by
  have := h.env t
  simp only [he, VS, DS] at this
  rw [Array.getD_eq_getD_getElem?] at this
  cases hq : a.tmps[t]? with
  | none => rw [hq] at this; simp [Go.undef] at this
  | some v => rw [hq] at this; simp at this; rw [this]
theorem slot_tup {env : Env} (h : Sim x N ⟨env, H⟩ φ a w) {t : Nat} (he : env t = .tup []) : a.tmps[t]? = none ∨ a.tmps[t]? = some (.tuple #[]) := by
  have := h.env t
  simp only [he, VS, VSs] at this
  obtain ⟨cs, h1, h2⟩ := this
  have : cs = #[] := by apply Array.ext'; simpa using h2
  subst this
  rw [Array.getD_eq_getD_getElem?] at h1
  cases hq : a.tmps[t]? with
  | none => exact .inl rfl
  | some v => rw [hq] at h1; simp at h1; rw [h1]; exact .inr rfl

inductive Idx (all : Array Oper) : List Nat → List Oper → Prop
  | nil : Idx all [] []
  | cons {i : Nat} {o : Oper} {is : List Nat} {os : List Oper} (h : all[i]? = some o) (t : Idx all is os) : Idx all (i :: is) (o :: os)

theorem dsts_spec : ∀ (l : List Oper), dstsOf (stripOps l) = l.map (·.dst)
  | [] => rfl
  | o :: l => by simp [dstsOf, stripOps, dsts_spec l]

theorem opsD_wp {Γ : Table} (hΓ : Good P Γ) {all : Array Oper} {k : Env → Heap → Prop} {Q : Exit → Act → World → Prop} : ∀ (os : List Oper) (is : List Nat) (env : Env) (H : Heap) (φ : List (Nat × Nat)) (a : Act) (w : World),
    Idx all is os → os.all (opOk N) = true → Sim x N ⟨env, H⟩ φ a w → opsD P Γ (all.toList.map (·.dst)) (stripOps os) env H k →
    (∀ env H φ a w, k env H → Sim x N ⟨env, H⟩ φ a w → Q .normal a w) → wpOps P all Q is a w
  | [], is, env, H, φ, a, w, hi, _, h, hk, hq => by
    cases hi
    exact hq env H φ a w hk h
  | o :: os, is, env, H, φ, a, w, hi, hok, h, hk, hq => by
    cases hi with
    | cons ho ht =>
      rename_i i is
      simp only [List.all_cons, Bool.and_eq_true] at hok
      have hdst : (match o.dst with | some t => decide (t < N) | none => true) = true := hok.1
      have rec_ : ∀ {env H φ a w}, Sim x N ⟨env, H⟩ φ a w → opsD P Γ (all.toList.map (·.dst)) (stripOps os) env H k → wpOps P all Q is a w := fun hs hk => opsD_wp hΓ os is _ _ _ _ _ ht hok.2 hs hk hq
      have run_ : opD P Γ env H o.op (fun v H' => opsD P Γ (all.toList.map (·.dst)) (stripOps os) (updO env o.dst v) H' k) → o.wp P a w (wpOps P all Q is) Q := fun hk =>
        op_wp hΓ h hk fun v c H' φ' w' hk' hs hv => rec_ (hs.putO hdst hv) hk'
      have skip_ : opsD P Γ (all.toList.map (·.dst)) (stripOps os) (updO env o.dst (.tup [])) H k → wpOps P all Q is (a.put o.dst Go.undef) w := fun hk =>
        rec_ (h.putO hdst (by simp [VS, VSs, Go.undef])) hk
      simp only [wpOps, ho]
      simp only [stripOps, opsD] at hk
      cases hg : o.guard with
      | none =>
        simp only [hg] at hk
        have hw : Region.wanted o (yielded all a.tmps) = true := by simp [Region.wanted, hg]
        rw [if_pos hw]
        exact .inl (run_ hk)
      | some jw =>
        obtain ⟨j, want⟩ := jw
        simp only [hg] at hk
        cases hs : slotOf (all.toList.map (·.dst)) j with
        | none => simp only [hs] at hk
        | some t =>
          simp only [hs] at hk
          have hy : yielded all a.tmps j = match a.tmps[t]? with | some (.bool b) => some b | _ => none := by
            have hs' : (all[j]?).bind (·.dst) = some t := by
              unfold slotOf at hs
              rw [List.getElem?_map, Array.getElem?_toList] at hs
              cases hq : all[j]? with
              | none => rw [hq] at hs; simp at hs
              | some o => rw [hq] at hs; simpa using hs
            unfold yielded
            rw [hs']
            rfl
          split at hk
          · rename_i b he
            have hb := slot_bool h he
            have hw : Region.wanted o (yielded all a.tmps) = (b == want) := by simp [Region.wanted, hg, hy, hb]
            by_cases hbw : b = want
            · rw [if_pos (by rw [hw]; simpa using hbw)]
              exact .inl (run_ (hk.1 hbw))
            · rw [if_neg (by rw [hw]; simpa using hbw)]
              exact skip_ (hk.2 hbw)
          · rename_i he
            have hw : Region.wanted o (yielded all a.tmps) = false := by
              rcases slot_tup h he with hb | hb <;> simp [Region.wanted, hg, hy, hb]
            rw [if_neg (by rw [hw]; simp)]
            exact skip_ hk
          · exact hk.elim

theorem idx_range (all : Array Oper) : Idx all (List.range all.size) all.toList := by
  have : ∀ (l : List Oper) (n : Nat), (∀ i, all[n + i]? = l[i]?) → Idx all (List.range' n l.length) l := by
    intro l
    induction l with
    | nil => intro n _; exact .nil
    | cons o l ih =>
      intro n h
      rw [List.length_cons, List.range'_succ]
      refine .cons (by have := h 0; simpa using this) (ih (n + 1) fun i => ?_)
      have := h (i + 1)
      rw [show n + 1 + i = n + (i + 1) by omega, this]
      simp
  have h := this all.toList 0 (fun i => by simp)
  rw [Array.length_toList] at h
  rw [List.range_eq_range']
  exact h

/-- Slots are forgotten. -/
theorem Sim.keep (h : Sim x N ⟨env, H⟩ φ a w) (K : List Nat) : Sim x N ⟨Go.Proofs.Ytpakdkiceoknjaa.keep K env, H⟩ φ a w := by
  refine ⟨h.hs, fun t => ?_, h.low, h.defers, h.size, h.fr, h.old, h.ext, h.long, h.len0⟩
  simp only [Go.Proofs.Ytpakdkiceoknjaa.keep]
  split
  · exact h.env t
  · simp [VS, DS]

theorem W_region {n0 id : Nat} {ops : Array Oper} {Q : Exit → St → Prop} {s : St} (K : List Nat) {Γ : Table} (hΓ : Good P Γ) (hok : ops.toList.all (opOk N) = true)
    (h : opsD P Γ (dstsOf (stripOps ops.toList)) (stripOps ops.toList) s.env s.H fun env H => Q .normal ⟨keep K env, H⟩) : W P N n0 (.region id ops false) Q s := by
  intro x φ a w hx hs
  rw [dsts_spec] at h
  refine wp_region (opsD_wp hΓ ops.toList (List.range ops.size) s.env s.H φ a w (idx_range ops) hok hs h ?_)
  intro env H φ a w hk hs'
  exact ⟨_, φ, hk, hs'.keep K⟩

theorem W_of {n0 : Nat} {Γ : Table} (hΓ : Good P Γ) (K : List Nat) : ∀ {c : Code} {Q : Exit → St → Prop} {s : St}, codeOk N c = true → wpD P Γ N n0 K (strip c) Q s → W P N n0 c Q s := by
  intro c
  induction c with
  | skip => intro Q s _ h; exact W_skip h
  | region id ops draw =>
    intro Q s hok h
    cases draw with
    | false => exact W_region K hΓ hok h
    | true => exact h
  | seq b c ihb ihc =>
    intro Q s hok h
    simp only [codeOk, Bool.and_eq_true] at hok
    refine W_seq (W_mono (ihb hok.1 h) ?_)
    intro e s' hq
    cases e with
    | normal => exact ihc hok.2 hq
    | _ => exact hq
  | cond o b c ihb ihc =>
    intro Q s hok h
    simp only [codeOk, Bool.and_eq_true] at hok
    simp only [strip, wpD] at h
    split at h
    · rename_i t ht
      refine W_cond (t := t) (fun x φ a w hx hs => ?_) (fun e => ihb hok.1 (h.1 e)) (fun e => ihc hok.2 (h.2 e))
      have := ev_spec hs o
      rw [ht] at this
      simpa [VS, DS] using this
    · exact h.elim
  | block id c ih => intro Q s hok h; exact W_block (ih hok h)
  | loop c ih => intro Q s _ h; exact h
  | exit id => intro Q s _ h; exact W_exit h
  | ret => intro Q s _ h; exact W_ret h
  | _ => intro Q s _ h; exact h
end

/-! ### The end of a call -/
/-- What a call hands back: its answer may be closed, and the places that it made given up. -/
def Fin (n0 : Nat) (H : Heap) (r : V) (H' : Heap) (r' : V) : Prop :=
  ∀ (X : Nat → Prop) (w : World) (φ : List (Nat × Nat)) (v : Value), HS X w φ H → VS w (owned X φ H) φ r v →
    ∃ φ', HS X w φ' H' ∧ VS w (owned X φ' H') φ' r' v ∧ (∀ id, id < n0 → φ'[id]? = φ[id]?) ∧ n0 ≤ H'.length ∧ ∀ g, ownOf φ' H' g → ownOf φ H g

theorem Fin.same {n0 : Nat} {H : Heap} {r : V} (h : n0 ≤ H.length) : Fin n0 H r H r := fun X w φ v hs hv => ⟨φ, hs, hv, fun _ _ => rfl, h, fun _ h => h⟩

def resD (P : Program) : List ResultVar → Env → Heap → (List V → Prop) → Prop
  | [], _, _, k => k []
  | .tmp t :: rest, env, H, k => resD P rest env H fun l => k (env t :: l)
  | .cell a ty :: rest, env, H, k => loadD (tinfo P ty) (env a) H fun v => resD P rest env H fun l => k (v :: l)
def oneOf : List V → V
  | [v] => v
  | l => .tup l
def retQ (P : Program) (rs : List ResultVar) (n0 : Nat) (Q : V → Heap → Prop) : Exit → St → Prop
  | .normal, s | .ret, s => resD P rs s.env s.H fun l => ∃ r' H', Fin n0 s.H (oneOf l) H' r' ∧ Q r' H'
  | _, _ => False

section
variable {P : Program} {x : Ctx} {N : Nat} {env : Env} {H : Heap} {φ : List (Nat × Nat)} {a : Act} {w : World}

theorem run_results {env : Env} {H : Heap} {φ : List (Nat × Nat)} {a : Act} {w : World} (h : Sim x N ⟨env, H⟩ φ a w) : ∀ (rs : List ResultVar) (k : List V → Prop), resD P rs env H k →
    ∃ l vs, ((rs.mapM fun
      | .tmp t => pure (a.tmps.getD t Go.undef)
      | .cell b t => do loadVar t (← asAddr (a.tmps.getD b Go.undef)) : Sem (List Value))).run P w = .ok vs w ∧ k l ∧ VSs w (owned x.X φ H) φ l vs
  | [], k, hk => ⟨[], [], by simp, hk, by simp [VSs]⟩
  | .tmp t :: rest, k, hk => by
    obtain ⟨l, vs, h1, h2, h3⟩ := run_results h rest _ hk
    refine ⟨env t :: l, a.tmps.getD t Go.undef :: vs, ?_, h2, ?_⟩
    · have hp : ∀ {α : Type} (q : α) (w : World), (pure q : Sem α).run P w = .ok q w := fun _ _ => rfl
      simp only [List.mapM_cons, Sem.run_bind, hp, Result.andThen_ok, h1]
    · simp only [VSs]
      exact ⟨_, _, rfl, h.env t, h3⟩
  | .cell b t :: rest, k, hk => by
    obtain ⟨v, c, ad, he, hr, hk, hv⟩ := load_runs (P := P) h (h.env b) hk
    obtain ⟨l, vs, h1, h2, h3⟩ := run_results h rest _ hk
    refine ⟨c :: l, v :: vs, ?_, h2, ?_⟩
    · have hp : ∀ {α : Type} (q : α) (w : World), (pure q : Sem α).run P w = .ok q w := fun _ _ => rfl
      have hl : (do loadVar t (← asAddr (a.tmps.getD b Go.undef)) : Sem Value).run P w = .ok v w := by
        rw [he] at hr ⊢
        exact hr
      simp only [List.mapM_cons, Sem.run_bind, Result.andThen_ok, h1, hp]
      simp only [Sem.run_bind] at hl
      rw [hl]
      simp only [Result.andThen_ok]
      rw [h1]
      rfl
    · simp only [VSs]
      exact ⟨_, _, rfl, hv, h3⟩

/-- The environment in which a call begins. -/
def envFrom : Nat → List V → List (Nat × V)
  | _, [] => []
  | n, v :: l => (n, v) :: envFrom (n + 1) l
def envOf (vs : List V) : Env := mk (envFrom 0 vs)
theorem mk_envFrom : ∀ (vs : List V) (n t : Nat), mk (envFrom n vs) (n + t) = vs.getD t (.d .undef)
  | [], n, t => by simp [envFrom, mk]
  | v :: l, n, 0 => by simp [envFrom, mk]
  | v :: l, n, t + 1 => by
    simp only [envFrom, mk]
    rw [if_neg (by omega), show n + (t + 1) = n + 1 + t by omega, mk_envFrom l]
    simp

theorem calls_of {f : FuncId} {fn : Func} {c : Code} {vs : List V} {H : Heap} {Q : V → Heap → Prop} (hf : P.funcs[f]? = some fn) (he : enters P f = true) (hb : fn.body = some c)
    (hn : vs.length ≤ fn.ntmps) (h : W P fn.ntmps H.length c (retQ P fn.results.toList H.length Q) ⟨envOf vs, H⟩) : CallsD P f vs H Q := by
  refine ⟨he, fun X w φ args hX hs hv => calls_of_wp hf hb ?_⟩
  have hlen := VSs.length _ _ hv
  have hal : args.size = vs.length := by simpa using hlen.symm
  have hsim : Sim ⟨X, w, φ, H⟩ fn.ntmps ⟨envOf vs, H⟩ φ { tmps := args ++ Array.replicate (fn.ntmps - args.size) Go.undef, defers := [] } w := by
    refine ⟨hs, fun t => ?_, hX, rfl, by simp; omega, Fr.refl w _, fun g _ h => h, Ext.refl _, Nat.le_refl _, hs.len⟩
    have hme := mk_envFrom vs 0 t
    rw [Nat.zero_add] at hme
    simp only [envOf]
    rw [hme, List.getD_eq_getElem?_getD]
    cases hq : vs[t]? with
    | none => simp [VS, DS]
    | some c =>
      obtain ⟨v, h1, h2⟩ := VSs.get _ _ hv t c hq
      have ht : t < args.size := by rw [hal]; exact (List.getElem?_eq_some_iff.1 hq).1
      have : (args ++ Array.replicate (fn.ntmps - args.size) Go.undef).getD t Go.undef = v := by
        rw [Array.getD_eq_getD_getElem?, Array.getElem?_append_left ht]
        rw [Array.getElem?_toList] at h1
        rw [h1]
        rfl
      simp only [Option.getD_some]
      rw [this]
      exact h2
  refine wp_mono (h ⟨X, w, φ, H⟩ φ _ w rfl hsim) ?_
  rintro e a' w' ⟨s', φ', hq, hs'⟩
  have fin : retQ P fn.results.toList H.length Q .normal s' → a'.defers = [] ∧ ∃ v, (results fn a'.tmps).run P w' = .ok v w' ∧ ∃ v' r φ' H', Ending.returned v = .returned v' ∧ Q r H' ∧ HS X w' φ' H' ∧ VS w' (owned X φ' H') φ' r v' ∧ Fr w (ownOf φ H) w' ∧
      Ext φ φ' ∧ H.length ≤ H'.length ∧ ∀ g, g < w.heap.size → ownOf φ' H' g → ownOf φ H g := by
    intro hq
    refine ⟨hs'.defers, ?_⟩
    obtain ⟨l, vs', h1, ⟨r', H', hfin, hQ⟩, h3⟩ := run_results (P := P) hs' fn.results.toList _ hq
    have hlv := VSs.length _ _ h3
    have hres : (results fn a'.tmps).run P w' = .ok (if h : vs'.toArray.size = 1 then vs'.toArray[0] else .tuple vs'.toArray) w' := by
      unfold results
      rw [Array.mapM_eq_mapM_toList, ← bind_pure_comp]
      simp only [Sem.run_bind]
      erw [h1]
      rfl
    have hone : VS w' (owned X φ' s'.H) φ' (oneOf l) (if h : vs'.toArray.size = 1 then vs'.toArray[0] else .tuple vs'.toArray) := by
      by_cases h1' : vs'.length = 1
      · obtain ⟨v, rfl⟩ := List.length_eq_one_iff.1 h1'
        obtain ⟨c, rfl⟩ := List.length_eq_one_iff.1 (hlv.trans h1')
        simp only [VSs] at h3
        obtain ⟨v', l', e, h4, _⟩ := h3
        cases e
        simpa [oneOf] using h4
      · have hl1 : l.length ≠ 1 := by omega
        rw [dif_neg (by simpa using h1')]
        have : oneOf l = .tup l := by
          match l, hl1 with
          | [], _ => rfl
          | _ :: _ :: _, _ => rfl
        rw [this]
        simp only [VS]
        exact ⟨_, rfl, by simpa using h3⟩
    obtain ⟨φ'', g1, g2, g3, g4, g5⟩ := hfin X w' φ' _ hs'.hs hone
    refine ⟨_, hres, _, r', φ'', H', rfl, hQ, g1, g2, hs'.fr, ?_, g4, fun g hg ho => hs'.old g hg (g5 g ho)⟩
    intro id hid
    rw [g3 id (by rw [← hs.len]; exact hid)]
    exact hs'.ext id hid
  cases e with
  | normal => exact fin hq
  | ret => exact fin hq
  | exit id => exact hq.elim
  | goto l => exact hq.elim
  | panic c => exact hq.elim
  | outgrown => exact hq.elim
end
end Go.Proofs.Ytpakdkiceoknjaa
