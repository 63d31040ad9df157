/- The abstract machine, part 11: each operation, a region in the order of its text, the code. No condition. -/
import Derived.Test.YtpakdkiceoknjaaB0
namespace Go.Proofs.Ytpakdkiceoknjaa
set_option linter.unusedVariables false
set_option linter.unusedSimpArgs false

section
variable {P : Program} {x : Ctx} {N : Nat} {env : Env} {H : Heap} {φ : List (Nat × Nat)} {a : Act} {w : World}

theorem run_callFunc {f : FuncId} (he : enters P f = true) (args : Array Value) : (callFunc f args).run P w = .ok (.enter f args) w := by
  unfold enters at he
  cases hf : P.funcs[f]? with
  | none => rw [hf] at he; simp at he
  | some fn =>
    rw [hf] at he
    simp only [Bool.and_eq_true, Bool.not_eq_true'] at he
    have hb : fn.body.isNone = false := by cases hq : fn.body <;> simp_all
    simp only [callFunc, Sem.run_bind, run_program, Result.andThen_ok, hf]
    rw [he.1, hb]
    rfl

/-- What an operation does to the rest of its region, out of what it yields. -/
def Nexts (P : Program) (x : Ctx) (N : Nat) (env : Env) (a : Act) (o : Oper) (k : V → Heap → Prop) (next : Act → World → Prop) : Prop :=
  ∀ v c H' φ' w', k c H' → Sim x N ⟨env, H'⟩ φ' a w' → VS w' (owned x.X φ' H') φ' c v → next (a.put o.dst v) w'

theorem Gives.wp {o : Oper} {s : Sem Value} {k : V → Heap → Prop} {next : Act → World → Prop} {Q : Exit → Act → World → Prop} (hs : execOp a.eval o = (do pure (.value (← s)) : Sem Next))
    (h : Gives P x N env a w s k) (hn : Nexts P x N env a o k next) : o.wp P a w next Q := by
  obtain ⟨v, w', c, H', φ', hr, hk, hsim, hv⟩ := h
  unfold Oper.wp
  rw [hs, Sem.run_bind, hr]
  exact hn v c H' φ' w' hk hsim hv

theorem call_wp {o : Oper} {g : FuncId} {vs : List V} {args : Array Value} {k : V → Heap → Prop} {next : Act → World → Prop} {Q : Exit → Act → World → Prop}
    (h : Sim x N ⟨env, H⟩ φ a w) (hr : (execOp a.eval o).run P w = .ok (.enter g args) w) (hv : VSs w (owned x.X φ H) φ vs args.toList) (hc : CallsD P g vs H k)
    (hn : Nexts P x N env a o k next) : o.wp P a w next Q := by
  unfold Oper.wp
  rw [hr]
  have hX : ∀ g, x.X g → g < w.heap.size := fun g hg => Nat.lt_of_lt_of_le (h.low g hg) h.fr.size
  refine (hc.2 x.X w φ args hX h.hs hv).mono ?_
  rintro e w' ⟨v, r, φ', H', rfl, hq, hs', hv', hfr, hext, hlen, hold⟩
  exact hn v r H' φ' w' hq (h.to hs' hfr hold hext hlen) hv'

theorem op_wp {o : Oper} {k : V → Heap → Prop} {next : Act → World → Prop} {Q : Exit → Act → World → Prop} {Γ : Table} (hΓ : Good P Γ) (h : Sim x N ⟨env, H⟩ φ a w) (hk : opD P Γ env H o.op k) (hn : Nexts P x N env a o k next) : o.wp P a w next Q := by
  have pure_ : ∀ {s : Sem Value} {k1 : V → Prop}, execOp a.eval o = (do pure (.value (← s)) : Sem Next) → Gives P x N env a w s (fun v H' => k1 v ∧ H' = H) → (∀ v, k1 v → k v H) → o.wp P a w next Q := by
    intro s k1 hs hg h1
    exact Gives.wp hs hg fun v c H' φ' w' hk2 => by
      obtain ⟨hk3, rfl⟩ := hk2
      exact hn v c _ φ' w' (h1 c hk3)
  obtain ⟨dst, op, type, pos, after, guard⟩ := o
  cases op <;> simp only [opD] at hk
  case move y =>
    unfold Oper.wp
    exact hn _ _ H φ w hk h (ev_spec h y)
  case assign y =>
    unfold Oper.wp
    exact hn _ _ H φ w hk h (ev_spec h y)
  case pick c p q =>
    obtain ⟨v, w', c', H', φ', hr, ⟨hk, rfl⟩, hs, hv⟩ := pick_gives (P := P) h (ev_spec h c) (ev_spec h p) (ev_spec h q) hk
    unfold Oper.wp
    have hr' : (execOp a.eval ⟨dst, .pick c p q, type, pos, after, guard⟩).run P w = .ok (.value v) w' := by
      simp only [execOp]
      simp only [Sem.run_bind] at hr ⊢
      cases hq2 : (asBool (a.eval c)).run P w with
      | ok b w1 =>
        rw [hq2] at hr
        simp only [Result.andThen_ok] at hr ⊢
        cases hr
        rfl
      | halt h1 w1 => rw [hq2] at hr; cases hr
    rw [hr']
    exact hn v c' _ φ' w' hk hs hv
  case alloc t => exact Gives.wp (by simp only [execOp]) (allocD_gives h t hk) hn
  case box t y => exact Gives.wp (by simp only [execOp]) (boxD_gives h t (ev_spec h y) hk) hn
  case build t parts =>
    refine pure_ (s := Instr.build t (parts.map fun (i, x) => (i, a.eval x))) (by simp only [execOp]) ?_ (fun v hv => hv)
    have := buildD_gives (P := P) h t parts.toList hk
    have e : (parts.map fun (i, x) => (i, a.eval x)) = (parts.toList.map fun p => (p.1, a.eval p.2)).toArray := by
      apply Array.ext'; simp
    rw [e]
    exact this
  case buildSlice t len parts =>
    have := buildSliceD_gives (P := P) h t len parts.toList hk
    have e : (parts.map fun (i, x) => (i, a.eval x)) = (parts.toList.map fun p => (p.1, a.eval p.2)).toArray := by
      apply Array.ext'; simp
    rw [← e] at this
    exact Gives.wp (by simp only [execOp]) this hn
  case load t y => exact pure_ (by simp only [execOp]) (load_gives h (ev_spec h y) hk) (fun v hv => hv)
  case store t p y =>
    obtain ⟨w', H', hr, hk, hs⟩ := storeD_gives (P := P) h t (ev_spec h p) (ev_spec h y) hk
    unfold Oper.wp
    have hr' : (execOp a.eval ⟨dst, .store t p y, type, pos, after, guard⟩).run P w = .ok .skip w' := by
      simp only [execOp, Sem.run_bind, hr]
      rfl
    rw [hr']
    exact hn Go.undef _ H' φ w' hk hs (by simp [VS, VSs, Go.undef])
  case nilCheck y =>
    obtain ⟨hk, hv⟩ := nilCheck_gives h (ev_spec h y) hk
    unfold Oper.wp
    have hr' : (execOp a.eval ⟨dst, .nilCheck y, type, pos, after, guard⟩).run P w = .ok (.value (a.eval y)) w := by
      simp only [execOp]
      rcases hv with ⟨ad, e⟩ | ⟨f, cs, e⟩ <;> rw [e] <;> rfl
    rw [hr']
    exact hn _ _ H φ w hk h (ev_spec h y)
  case binOp op t p q t' => exact pure_ (by simp only [execOp]) (binD_gives h op t p q (ev_spec h p) (ev_spec h q) hk) (fun v hv => hv)
  case unOp op t p => exact pure_ (by simp only [execOp]) (unD_gives h op (ev_spec h p) hk) (fun v hv => hv)
  case convert s d p => exact pure_ (by simp only [execOp]) (convertD_gives h s d (ev_spec h p) hk) (fun v hv => hv)
  case makeFunc fn first captured =>
    cases fn with
    | func f =>
      simp only [opD] at hk
      obtain ⟨hf, hk⟩ := hk
      unfold Oper.wp
      have hf0 : first = #[] := Array.eq_empty_of_size_eq_zero hf
      have hr' : (execOp a.eval ⟨dst, .makeFunc (.func f) first captured, type, pos, after, guard⟩).run P w = .ok (.value (.func (.func f) #[] (captured.map a.eval))) w := by
        subst hf0
        simp [execOp, Instr.makeFunc]
      rw [hr']
      refine hn _ _ H φ w hk h ?_
      simp only [VS]
      exact ⟨_, rfl, by simpa using evs_spec h captured.toList⟩
    | _ => simp only [opD] at hk
  case makeSlice t l c => exact Gives.wp (by simp only [execOp]) (makeSliceD_gives h t (ev_spec h l) (ev_spec h c) hk) hn
  case slice t y lo hi mx =>
    cases mx with
    | none => exact pure_ (by simp only [execOp]; rfl) (sliceD_gives h t (ev_spec h y) lo hi hk) (fun v hv => hv)
    | some m =>
      unfold sliceD at hk
      split at hk
      · rename_i hq; simp at hq
      · rename_i hq; simp at hq
      · exact hk.elim
  case fieldAddr s y f => exact pure_ (by simp only [execOp]) (fieldAddrD_gives h s (ev_spec h y) f hk) (fun v hv => hv)
  case field s y f => exact pure_ (by simp only [execOp]) (fieldD_gives h s (ev_spec h y) f hk) (fun v hv => hv)
  case indexAddr t y i => exact pure_ (by simp only [execOp]) (indexAddrD_gives h t (ev_spec h y) (ev_spec h i) hk) (fun v hv => hv)
  case index t y i => exact pure_ (by simp only [execOp]) (indexD_gives h t (ev_spec h y) (ev_spec h i) hk) (fun v hv => hv)
  case extract t i => exact pure_ (by simp only [execOp]) (extractD_gives h (ev_spec h t) i hk) (fun v hv => hv)
  case call c =>
    obtain ⟨callee, args, argTypes⟩ := c
    unfold callD at hk
    cases callee with
    | value f =>
      simp only at hk
      have hargs : VSs w (owned x.X φ H) φ (args.toList.map (ev env)) (args.map a.eval).toList := by simpa using evs_spec h args.toList
      have hf := ev_spec h f
      split at hk
      · rename_i g n cap hq
        rw [hq] at hf
        simp only [VS, DS] at hf
        obtain ⟨cs, he, hsz, hcs⟩ := hf
        have hk := goD_calls hΓ hk
        refine call_wp (args := args.map a.eval ++ cs) h ?_ ?_ hk hn
        · simp [execOp, resolve, Deferred.ofValue, he, invoke]
          exact run_callFunc hk.1 _
        · rw [Array.toList_append]
          refine VSs.append hargs (VSs_of _ _ (by simp [upto_length, hsz]) fun j c v hc hv => ?_)
          rw [upto_get] at hc
          split at hc
          · cases hc
            obtain ⟨u, hu, hd⟩ := hcs j (by assumption)
            rw [Array.getElem?_toList, hu] at hv
            cases hv
            simpa [VS] using hd
          · cases hc
      · rename_i g l hq
        rw [hq] at hf
        simp only [VS] at hf
        obtain ⟨cs, he, hcs⟩ := hf
        have hk := goD_calls hΓ hk
        refine call_wp (args := args.map a.eval ++ cs) h ?_ ?_ hk hn
        · simp [execOp, resolve, Deferred.ofValue, he, invoke]
          exact run_callFunc hk.1 _
        · rw [Array.toList_append]
          exact VSs.append hargs hcs
      · exact hk.elim
    | invoke r m => exact hk.elim
    | builtin b =>
      cases b <;> simp only at hk <;> try exact hk.elim
      case len =>
        split at hk
        · rename_i y t hy ht
          have ha : args = #[y] := by apply Array.ext'; simpa using hy
          have ht' : argTypes = #[t] := by apply Array.ext'; simpa using ht
          subst ha
          subst ht'
          refine pure_ (s := Builtin.len_ #[t] type #[a.eval y]) ?_ (lenD_gives h t type (ev_spec h y) hk) (fun v hv => hv)
          simp [execOp, resolve, invoke, builtin]
        · exact hk.elim
      case append =>
        split at hk
        · rename_i s y t t' hy ht
          have ha : args = #[s, y] := by apply Array.ext'; simpa using hy
          have ht' : argTypes = #[t, t'] := by apply Array.ext'; simpa using ht
          subst ha
          subst ht'
          obtain ⟨rfl, hk⟩ := hk
          refine Gives.wp (s := Builtin.append_ #[t, t] type #[a.eval s, a.eval y]) ?_ (appendD_gives h t type (ev_spec h s) (ev_spec h y) hk) hn
          simp [execOp, resolve, invoke, builtin]
        · exact hk.elim
      case copy =>
        split at hk
        · rename_i s y t t' hy ht
          have ha : args = #[s, y] := by apply Array.ext'; simpa using hy
          have ht' : argTypes = #[t, t'] := by apply Array.ext'; simpa using ht
          subst ha
          subst ht'
          obtain ⟨rfl, hk⟩ := hk
          refine Gives.wp (s := Builtin.copy_ #[t, t] type #[a.eval s, a.eval y]) ?_ (copyD_gives h t type (ev_spec h s) (ev_spec h y) hk) hn
          simp [execOp, resolve, invoke, builtin]
        · exact hk.elim
  all_goals exact hk.elim
end
end Go.Proofs.Ytpakdkiceoknjaa
