/- The abstract machine, part 19: a region that draws its order, continued: operations that may change places. No condition. -/
import Derived.Test.YtpakdkiceoknjaaB8
namespace Go.Proofs.Ytpakdkiceoknjaa
set_option linter.unusedVariables false
set_option linter.unusedSimpArgs false

section
variable {P : Program} {Γ : Table} {own : List FuncId}

theorem det_callT (env : Env) (c : Call) : Det1 (callT P Γ env c) := by
  intro k h
  obtain ⟨callee, args, ct⟩ := c
  cases callee with
  | value f =>
    simp only [callT] at h ⊢
    split at h
    · exact det_go _ _ _ k h
    · exact det_go _ _ _ k h
    · exact h.elim
  | invoke r m => simp only [callT] at h
  | builtin b =>
    cases b <;> simp only [callT] at h ⊢
    split at h
    · exact det_len _ _ _ k h
    · exact h.elim

theorem opT_pure {env : Env} {H : Heap} {o : Op} {k : V → Heap → Prop} (hc : clOf own o = .pure) (h : opT P Γ own env H o k) :
    ∃ v, k v H ∧ ∀ (env' : Env) (H' : Heap) (k' : V → Heap → Prop), (∀ x ∈ o.operands.toList, ev env' x = ev env x) → k' v H' → opT P Γ own env' H' o k' := by
  have base : ∃ v, k v H ∧ ∀ (H' : Heap) (k' : V → Heap → Prop), k' v H' → opT P Γ own env H' o k' := by
    cases o <;> simp only [clOf] at hc
    all_goals try (exact absurd hc (by decide))
    case move x => exact ⟨_, h, fun H' k' hk => hk⟩
    case assign x => exact ⟨_, h, fun H' k' hk => hk⟩
    case pick c a b => simp only [opT, opD] at h; obtain ⟨v, h1, h2⟩ := det_pick _ _ _ _ h; exact ⟨v, h1, fun H' k' hk => h2 (fun v => k' v H') hk⟩
    case build t ps => simp only [opT, opD] at h; obtain ⟨v, h1, h2⟩ := det_build _ _ _ h; exact ⟨v, h1, fun H' k' hk => h2 (fun v => k' v H') hk⟩
    case nilCheck x => simp only [opT, opD] at h; obtain ⟨v, h1, h2⟩ := det_nilCheck _ _ h; exact ⟨v, h1, fun H' k' hk => h2 (fun v => k' v H') hk⟩
    case binOp op t x y t' => simp only [opT, opD] at h; obtain ⟨v, h1, h2⟩ := det_bin _ _ _ _ _ _ h; exact ⟨v, h1, fun H' k' hk => h2 (fun v => k' v H') hk⟩
    case unOp op t x => simp only [opT, opD] at h; obtain ⟨v, h1, h2⟩ := det_un _ _ _ h; exact ⟨v, h1, fun H' k' hk => h2 (fun v => k' v H') hk⟩
    case convert s d x => simp only [opT, opD] at h; obtain ⟨v, h1, h2⟩ := det_convert _ _ _ _ _ h; exact ⟨v, h1, fun H' k' hk => h2 (fun v => k' v H') hk⟩
    case slice t x lo hi mx => simp only [opT, opD] at h; obtain ⟨v, h1, h2⟩ := det_slice _ _ _ _ _ _ _ h; exact ⟨v, h1, fun H' k' hk => h2 (fun v => k' v H') hk⟩
    case fieldAddr s x f => simp only [opT, opD] at h; obtain ⟨v, h1, h2⟩ := det_fieldAddr _ _ _ _ _ h; exact ⟨v, h1, fun H' k' hk => h2 (fun v => k' v H') hk⟩
    case field s x f => simp only [opT, opD] at h; obtain ⟨v, h1, h2⟩ := det_field _ _ _ _ _ h; exact ⟨v, h1, fun H' k' hk => h2 (fun v => k' v H') hk⟩
    case indexAddr t x ix => simp only [opT, opD] at h; obtain ⟨v, h1, h2⟩ := det_indexAddr _ _ _ _ _ h; exact ⟨v, h1, fun H' k' hk => h2 (fun v => k' v H') hk⟩
    case index t x ix => simp only [opT, opD] at h; obtain ⟨v, h1, h2⟩ := det_index _ _ _ _ _ h; exact ⟨v, h1, fun H' k' hk => h2 (fun v => k' v H') hk⟩
    case extract t i => simp only [opT, opD] at h; obtain ⟨v, h1, h2⟩ := det_extract _ _ _ h; exact ⟨v, h1, fun H' k' hk => h2 (fun v => k' v H') hk⟩
    case makeFunc f first cap =>
      cases f with
      | func f => exact ⟨_, h.2, fun H' k' hk => ⟨h.1, hk⟩⟩
      | _ => exact h.elim
    case call c =>
      split at hc
      · cases hc
      · rename_i hng
        split at hc
        · cases hc
        · rename_i hno
          simp only [opT, hng, hno, if_false, Bool.false_eq_true] at h ⊢
          obtain ⟨v, h1, h2⟩ := det_callT _ _ _ h
          exact ⟨v, h1, fun H' k' hk => h2 (fun v => k' v H') hk⟩
  obtain ⟨v, h1, h2⟩ := base
  exact ⟨v, h1, fun env' H' k' he hk => by rw [opT_env he]; exact h2 H' k' hk⟩

theorem opT_read {env : Env} {H : Heap} {o : Op} {k : V → Heap → Prop} (hc : clOf own o = .read) (h : opT P Γ own env H o k) :
    ∃ v, k v H ∧ ∀ (env' : Env) (l : Heap) (k' : V → Heap → Prop), (∀ x ∈ o.operands.toList, ev env' x = ev env x) → k' v (H ++ l) → opT P Γ own env' (H ++ l) o k' := by
  cases o <;> simp only [clOf] at hc
  all_goals try (exact absurd hc (by decide))
  case load t a =>
    simp only [opT, opD] at h
    obtain ⟨v, h1, h2⟩ := det_load _ _ _ _ h
    exact ⟨v, h1, fun env' l k' he hk => by rw [opT_env he]; exact h2 l (fun v => k' v (H ++ l)) hk⟩
  case call c =>
    split at hc
    · cases hc
    · split at hc <;> cases hc

theorem opT_grow {env : Env} {H : Heap} {o : Op} {k : V → Heap → Prop} (hc : clOf own o = .grow) (h : opT P Γ own env H o k) : opT P Γ own env H o fun v H' => k v H' ∧ ∃ l, H' = H ++ l := by
  cases o <;> simp only [clOf] at hc
  all_goals try (exact absurd hc (by decide))
  case alloc t =>
    simp only [opT, opD, allocD] at h ⊢
    split at h
    · exact h.elim
    · exact ⟨h.1, h.2, _, rfl⟩
  case box t x =>
    simp only [opT, opD, boxD] at h ⊢
    split at h
    · exact h.elim
    · exact ⟨h.1, h.2, _, rfl⟩
  case buildSlice t n ps =>
    simp only [opT, opD, buildSliceD] at h ⊢
    split at h
    · split at h
      · exact ⟨h.1, h.2, _, rfl⟩
      · exact h.elim
    · exact h.elim
  case makeSlice t l c =>
    simp only [opT, opD, makeSliceD] at h ⊢
    split at h
    · split at h
      · split at h
        · exact ⟨h.1, h.2, _, rfl⟩
        · exact h.elim
      · exact h.elim
    · exact h.elim
  case call c =>
    split at hc
    · rename_i hg
      simp only [opT, hg, if_true] at h ⊢
      unfold callG at h ⊢
      split at h
      · obtain ⟨r, R, h1, h2⟩ := h
        exact ⟨r, R, h1, h2, R, rfl⟩
      · exact h.elim
    · split at hc <;> cases hc

theorem goD_mono {g : FuncId} {vs : List V} {H : Heap} {k k' : V → Heap → Prop} (h : goD P Γ g vs H k) (hk : ∀ v h, k v h → k' v h) : goD P Γ g vs H k' := by
  unfold goD at h ⊢
  split at h
  · exact hk _ _ h
  · exact hk _ _ h
  · exact h.mono hk
theorem callD_mono {env : Env} {H : Heap} {c : Call} {k k' : V → Heap → Prop} (h : callD P Γ env H c k) (hk : ∀ v h, k v h → k' v h) : callD P Γ env H c k' := by
  obtain ⟨callee, args, ct⟩ := c
  cases callee with
  | value f =>
    simp only [callD] at h ⊢
    split at h
    · exact goD_mono h hk
    · exact goD_mono h hk
    · exact h.elim
  | invoke r m => simp only [callD] at h
  | builtin b =>
    cases b <;> simp only [callD] at h ⊢
    case len =>
      split at h
      · obtain ⟨v, h1, h2⟩ := det_len _ _ _ _ h
        exact h2 (fun v => k' v H) (hk _ _ h1)
      · exact h.elim
    case copy =>
      split at h
      · refine ⟨h.1, ?_⟩
        have h := h.2
        have em : ∀ {e : Nat} {x : V} {F G : List (List V) → Prop}, (∀ n, F n → G n) → elemsD e x H F → elemsD e x H G := by
          intro e x F G hFG h
          unfold elemsD at h ⊢
          split at h
          · refine ⟨h.1, ?_⟩
            have h := h.2
            split at h
            · exact ⟨h.1, h.2.1, hFG _ h.2.2⟩
            · exact h.elim
          · exact ⟨h.1, h.2.1, hFG _ h.2.2⟩
          · exact hFG _ h
          · exact h.elim
        unfold copyD at h ⊢
        split at h
        · split at h
          · refine ⟨h.1, em (fun n h => ?_) h.2⟩
            split at h
            · refine ⟨h.1, ?_⟩
              have h := h.2
              split at h
              · exact ⟨h.1, h.2.1, hk _ _ h.2.2⟩
              · exact h.elim
            · exact hk _ _ h
            · exact h.elim
          · exact h.elim
        · exact h.elim
      · exact h.elim
    case append =>
      split at h
      · refine ⟨h.1, ?_⟩
        have h := h.2
        unfold appendD at h ⊢
        split at h
        · split at h
          · refine ⟨h.1, ?_⟩
            have h := h.2
            unfold elemsD at h ⊢
            split at h
            · refine ⟨h.1, ?_⟩
              have h := h.2
              split at h
              · refine ⟨h.1, h.2.1, ?_⟩
                have h := h.2.2
                split at h
                · refine ⟨h.1, ?_⟩
                  have h := h.2
                  split at h
                  · exact ⟨h.1, h.2.1, h.2.2.1, h.2.2.2.1, hk _ _ h.2.2.2.2⟩
                  · exact h.elim
                · exact ⟨h.1, fun e => hk _ _ (h.2.1 e), fun e => hk _ _ (h.2.2 e)⟩
                · exact h.elim
              · exact h.elim
            · refine ⟨h.1, h.2.1, ?_⟩
              have h := h.2.2
              split at h
              · refine ⟨h.1, ?_⟩
                have h := h.2
                split at h
                · exact ⟨h.1, h.2.1, h.2.2.1, h.2.2.2.1, hk _ _ h.2.2.2.2⟩
                · exact h.elim
              · exact ⟨h.1, fun e => hk _ _ (h.2.1 e), fun e => hk _ _ (h.2.2 e)⟩
              · exact h.elim
            · split at h
              · refine ⟨h.1, ?_⟩
                have h := h.2
                split at h
                · exact ⟨h.1, h.2.1, h.2.2.1, h.2.2.2.1, hk _ _ h.2.2.2.2⟩
                · exact h.elim
              · exact ⟨h.1, fun e => hk _ _ (h.2.1 e), fun e => hk _ _ (h.2.2 e)⟩
              · exact h.elim
            · exact h.elim
          · exact h.elim
        · exact h.elim
      · exact h.elim

theorem opT_mono {env : Env} {H : Heap} {o : Op} {k k' : V → Heap → Prop} (h : opT P Γ own env H o k) (hk : ∀ v h, k v h → k' v h) : opT P Γ own env H o k' := by
  cases hcl : clOf own o with
  | pure =>
    obtain ⟨v, h1, h2⟩ := opT_pure hcl h
    exact h2 env H k' (fun _ _ => rfl) (hk _ _ h1)
  | read =>
    obtain ⟨v, h1, h2⟩ := opT_read hcl h
    have := h2 env [] k' (fun _ _ => rfl) (by rw [List.append_nil]; exact hk _ _ h1)
    rwa [List.append_nil] at this
  | grow =>
    cases o <;> simp only [clOf] at hcl
    all_goals try (exact absurd hcl (by decide))
    case alloc t =>
      simp only [opT, opD, allocD] at h ⊢
      split at h
      · exact h.elim
      · exact ⟨h.1, hk _ _ h.2⟩
    case box t x =>
      simp only [opT, opD, boxD] at h ⊢
      split at h
      · exact h.elim
      · exact ⟨h.1, hk _ _ h.2⟩
    case buildSlice t n ps =>
      simp only [opT, opD, buildSliceD] at h ⊢
      split at h
      · split at h
        · exact ⟨h.1, hk _ _ h.2⟩
        · exact h.elim
      · exact h.elim
    case makeSlice t l c =>
      simp only [opT, opD, makeSliceD] at h ⊢
      split at h
      · split at h
        · split at h
          · exact ⟨h.1, hk _ _ h.2⟩
          · exact h.elim
        · exact h.elim
      · exact h.elim
    case call c =>
      split at hcl
      · rename_i hg
        simp only [opT, hg, if_true] at h ⊢
        unfold callG at h ⊢
        split at h
        · obtain ⟨r, R, h1, h2⟩ := h
          exact ⟨r, R, h1, hk _ _ h2⟩
        · exact h.elim
      · split at hcl <;> cases hcl
  | any =>
    cases o <;> simp only [clOf] at hcl
    all_goals try (exact absurd hcl (by decide))
    case store t a x =>
      simp only [opT, opD, storeD] at h ⊢
      split at h
      · exact h.elim
      · split at h
        · split at h
          · obtain ⟨h1, l, h2, h3, h4, h5, h6⟩ := h
            exact ⟨h1, l, h2, h3, h4, h5, hk _ _ h6⟩
          · exact h.elim
        · exact h.elim
    case call c =>
      split at hcl
      · cases hcl
      · rename_i hng
        split at hcl
        · rename_i hy
          simp only [opT, hng, hy, if_true, if_false, Bool.false_eq_true] at h ⊢
          exact callD_mono h hk
        · cases hcl
    all_goals (first | exact h.elim | (simp only [opT, opD] at h))
end

end Go.Proofs.Ytpakdkiceoknjaa
