/- The abstract machine, part 25: contracts over data of Lean, one for each number of arguments; pointers to data; what closes a walk. No condition. -/
import Derived.Test.YtpakdkiceoknjaaC4
namespace Go.Proofs.Ytpakdkiceoknjaa
set_option linter.unusedVariables false
set_option linter.unusedSimpArgs false

/-- A pointer to data that is only read. -/
structure Ptr (α : Type) where
  v : α
instance {α : Type} [Inhabited α] : Inhabited (Ptr α) := ⟨⟨default⟩⟩
@[reducible] instance encPtr {α : Type} [Enc α] : Enc (Ptr α) where
  size := 1
  agg := false
  cells p _ := .rp (Enc.size α) (Enc.cells p.v)
  good p := Enc.good p.v
  un f := match f 0 with | .rp _ g => ⟨Enc.un g⟩ | _ => ⟨Enc.un fun _ => .undef⟩
  un_of a f h := by
    rw [h 0 (by omega)]
    simp only []
    rw [Enc.un_of a.v _ fun j hj => rfl]
instance {α : Type} [Enc α] : Shaped (Ptr α) := ⟨fun _ => rfl⟩

theorem closedL_map {l : List V} (h : ∀ c ∈ l, c.closed = true) : closedL l = true := by
  induction l with
  | nil => rfl
  | cons c l ih => simp only [closedL, Bool.and_eq_true]; exact ⟨h c List.mem_cons_self, ih fun d hd => h d (List.mem_cons_of_mem _ hd)⟩
section
variable {α β γ δ ε ζ ρ : Type} [Enc α] [Enc β] [Enc γ] [Enc δ] [Enc ε] [Enc ζ] {P : Program}
noncomputable def Ent.p0 (f : FuncId) (r : V) (h : PureP P f [] (· = r)) : Ent P :=
  ⟨f, fun vs => match vs with | [] => some (True, r, []) | _ => none, by
    intro vs c r' R e hc H
    split at e
    · cases e; exact h.good rfl H
    · (cases e), by
    intro vs x e
    split at e
    · rfl
    · cases e⟩
theorem Ent.p0_eq {f : FuncId} {r : V} {h : PureP P f [] (· = r)} : (Ent.p0 f r h).e [] = some (True, r, []) := rfl
noncomputable def Ent.o0 (f : FuncId) (r : V) (S : Heap) (h : ∀ H, CallsD P f [] H (answers r S H)) : Ent P :=
  ⟨f, fun vs => match vs with | [] => some (True, r, S) | _ => none, by
    intro vs c r' R e hc H
    split at e
    · cases e; exact h H
    · (cases e), by
    intro vs x e
    split at e
    · rfl
    · cases e⟩
theorem Ent.o0_eq {f : FuncId} {r : V} {S : Heap} {h : ∀ H, CallsD P f [] H (answers r S H)} : (Ent.o0 f r S h).e [] = some (True, r, S) := rfl

open Classical in
noncomputable def en1 (ans : α → ρ) : List V → Option ρ
  | [x1] => if x1 = argV (unV x1 : α) then some (ans (unV x1)) else none
  | _ => none
theorem en1_eq [Shaped α] (ans : α → ρ) (a1 : α) : en1 ans [argV a1] = some (ans a1) := by
  simp [en1, unV_argV]
theorem en1_inv {ans : α → ρ} {vs : List V} {r : ρ} (h : en1 ans vs = some r) : ∃ a1, vs = [argV a1] ∧ r = ans a1 := by
  unfold en1 at h
  split at h
  · split at h
    · rename_i hx
      cases h
      exact ⟨_, by rw [← hx], rfl⟩
    · cases h
  · cases h
noncomputable def Ent.p1 (f : FuncId) (c : α → Prop) (r : α → V) (h : ∀ a1, c a1 → PureP P f [argV a1] (· = r a1)) : Ent P :=
  ⟨f, en1 fun a1 => (c a1, r a1, []), by
    intro vs c' r' R e hc H
    obtain ⟨a1, rfl, e2⟩ := en1_inv e
    cases e2
    exact (h a1 hc).good (closedL_map (by simp [argV_closed])) H, by
    intro vs x e
    obtain ⟨a1, rfl, e2⟩ := en1_inv e
    exact closedL_map (by simp [argV_closed])⟩
theorem Ent.p1_eq [Shaped α] {f : FuncId} {c : α → Prop} {r : α → V} {h : ∀ a1, c a1 → PureP P f [argV a1] (· = r a1)} (a1 : α) : (Ent.p1 f c r h).e [argV a1] = some (c a1, r a1, []) := by
  unfold Ent.p1; exact en1_eq (fun a1 => (c a1, r a1, [])) a1
noncomputable def Ent.o1 (f : FuncId) (c : α → Prop) (r : α → V) (S : α → Heap) (h : ∀ a1, c a1 → ∀ H, CallsD P f [argV a1] H (answers (r a1) (S a1) H)) : Ent P :=
  ⟨f, en1 fun a1 => (c a1, r a1, S a1), by
    intro vs c' r' R e hc H
    obtain ⟨a1, rfl, e2⟩ := en1_inv e
    cases e2
    exact h a1 hc H, by
    intro vs x e
    obtain ⟨a1, rfl, e2⟩ := en1_inv e
    exact closedL_map (by simp [argV_closed])⟩
theorem Ent.o1_eq [Shaped α] {f : FuncId} {c : α → Prop} {r : α → V} {S : α → Heap} {h : ∀ a1, c a1 → ∀ H, CallsD P f [argV a1] H (answers (r a1) (S a1) H)} (a1 : α) : (Ent.o1 f c r S h).e [argV a1] = some (c a1, r a1, S a1) := by
  unfold Ent.o1; exact en1_eq (fun a1 => (c a1, r a1, S a1)) a1

open Classical in
noncomputable def en2 (ans : α → β → ρ) : List V → Option ρ
  | [x1, x2] => if x1 = argV (unV x1 : α) ∧ x2 = argV (unV x2 : β) then some (ans (unV x1) (unV x2)) else none
  | _ => none
theorem en2_eq [Shaped α] [Shaped β] (ans : α → β → ρ) (a1 : α) (a2 : β) : en2 ans [argV a1, argV a2] = some (ans a1 a2) := by
  simp [en2, unV_argV]
theorem en2_inv {ans : α → β → ρ} {vs : List V} {r : ρ} (h : en2 ans vs = some r) : ∃ a1 a2, vs = [argV a1, argV a2] ∧ r = ans a1 a2 := by
  unfold en2 at h
  split at h
  · split at h
    · rename_i hx
      cases h
      exact ⟨_, _, by rw [← hx.1, ← hx.2], rfl⟩
    · cases h
  · cases h
noncomputable def Ent.p2 (f : FuncId) (c : α → β → Prop) (r : α → β → V) (h : ∀ a1 a2, c a1 a2 → PureP P f [argV a1, argV a2] (· = r a1 a2)) : Ent P :=
  ⟨f, en2 fun a1 a2 => (c a1 a2, r a1 a2, []), by
    intro vs c' r' R e hc H
    obtain ⟨a1, a2, rfl, e2⟩ := en2_inv e
    cases e2
    exact (h a1 a2 hc).good (closedL_map (by simp [argV_closed])) H, by
    intro vs x e
    obtain ⟨a1, a2, rfl, e2⟩ := en2_inv e
    exact closedL_map (by simp [argV_closed])⟩
theorem Ent.p2_eq [Shaped α] [Shaped β] {f : FuncId} {c : α → β → Prop} {r : α → β → V} {h : ∀ a1 a2, c a1 a2 → PureP P f [argV a1, argV a2] (· = r a1 a2)} (a1 : α) (a2 : β) : (Ent.p2 f c r h).e [argV a1, argV a2] = some (c a1 a2, r a1 a2, []) := by
  unfold Ent.p2; exact en2_eq (fun a1 a2 => (c a1 a2, r a1 a2, [])) a1 a2
noncomputable def Ent.o2 (f : FuncId) (c : α → β → Prop) (r : α → β → V) (S : α → β → Heap) (h : ∀ a1 a2, c a1 a2 → ∀ H, CallsD P f [argV a1, argV a2] H (answers (r a1 a2) (S a1 a2) H)) : Ent P :=
  ⟨f, en2 fun a1 a2 => (c a1 a2, r a1 a2, S a1 a2), by
    intro vs c' r' R e hc H
    obtain ⟨a1, a2, rfl, e2⟩ := en2_inv e
    cases e2
    exact h a1 a2 hc H, by
    intro vs x e
    obtain ⟨a1, a2, rfl, e2⟩ := en2_inv e
    exact closedL_map (by simp [argV_closed])⟩
theorem Ent.o2_eq [Shaped α] [Shaped β] {f : FuncId} {c : α → β → Prop} {r : α → β → V} {S : α → β → Heap} {h : ∀ a1 a2, c a1 a2 → ∀ H, CallsD P f [argV a1, argV a2] H (answers (r a1 a2) (S a1 a2) H)} (a1 : α) (a2 : β) : (Ent.o2 f c r S h).e [argV a1, argV a2] = some (c a1 a2, r a1 a2, S a1 a2) := by
  unfold Ent.o2; exact en2_eq (fun a1 a2 => (c a1 a2, r a1 a2, S a1 a2)) a1 a2

open Classical in
noncomputable def en3 (ans : α → β → γ → ρ) : List V → Option ρ
  | [x1, x2, x3] => if x1 = argV (unV x1 : α) ∧ x2 = argV (unV x2 : β) ∧ x3 = argV (unV x3 : γ) then some (ans (unV x1) (unV x2) (unV x3)) else none
  | _ => none
theorem en3_eq [Shaped α] [Shaped β] [Shaped γ] (ans : α → β → γ → ρ) (a1 : α) (a2 : β) (a3 : γ) : en3 ans [argV a1, argV a2, argV a3] = some (ans a1 a2 a3) := by
  simp [en3, unV_argV]
theorem en3_inv {ans : α → β → γ → ρ} {vs : List V} {r : ρ} (h : en3 ans vs = some r) : ∃ a1 a2 a3, vs = [argV a1, argV a2, argV a3] ∧ r = ans a1 a2 a3 := by
  unfold en3 at h
  split at h
  · split at h
    · rename_i hx
      cases h
      exact ⟨_, _, _, by rw [← hx.1, ← hx.2.1, ← hx.2.2], rfl⟩
    · cases h
  · cases h
noncomputable def Ent.p3 (f : FuncId) (c : α → β → γ → Prop) (r : α → β → γ → V) (h : ∀ a1 a2 a3, c a1 a2 a3 → PureP P f [argV a1, argV a2, argV a3] (· = r a1 a2 a3)) : Ent P :=
  ⟨f, en3 fun a1 a2 a3 => (c a1 a2 a3, r a1 a2 a3, []), by
    intro vs c' r' R e hc H
    obtain ⟨a1, a2, a3, rfl, e2⟩ := en3_inv e
    cases e2
    exact (h a1 a2 a3 hc).good (closedL_map (by simp [argV_closed])) H, by
    intro vs x e
    obtain ⟨a1, a2, a3, rfl, e2⟩ := en3_inv e
    exact closedL_map (by simp [argV_closed])⟩
theorem Ent.p3_eq [Shaped α] [Shaped β] [Shaped γ] {f : FuncId} {c : α → β → γ → Prop} {r : α → β → γ → V} {h : ∀ a1 a2 a3, c a1 a2 a3 → PureP P f [argV a1, argV a2, argV a3] (· = r a1 a2 a3)} (a1 : α) (a2 : β) (a3 : γ) : (Ent.p3 f c r h).e [argV a1, argV a2, argV a3] = some (c a1 a2 a3, r a1 a2 a3, []) := by
  unfold Ent.p3; exact en3_eq (fun a1 a2 a3 => (c a1 a2 a3, r a1 a2 a3, [])) a1 a2 a3
noncomputable def Ent.o3 (f : FuncId) (c : α → β → γ → Prop) (r : α → β → γ → V) (S : α → β → γ → Heap) (h : ∀ a1 a2 a3, c a1 a2 a3 → ∀ H, CallsD P f [argV a1, argV a2, argV a3] H (answers (r a1 a2 a3) (S a1 a2 a3) H)) : Ent P :=
  ⟨f, en3 fun a1 a2 a3 => (c a1 a2 a3, r a1 a2 a3, S a1 a2 a3), by
    intro vs c' r' R e hc H
    obtain ⟨a1, a2, a3, rfl, e2⟩ := en3_inv e
    cases e2
    exact h a1 a2 a3 hc H, by
    intro vs x e
    obtain ⟨a1, a2, a3, rfl, e2⟩ := en3_inv e
    exact closedL_map (by simp [argV_closed])⟩
theorem Ent.o3_eq [Shaped α] [Shaped β] [Shaped γ] {f : FuncId} {c : α → β → γ → Prop} {r : α → β → γ → V} {S : α → β → γ → Heap} {h : ∀ a1 a2 a3, c a1 a2 a3 → ∀ H, CallsD P f [argV a1, argV a2, argV a3] H (answers (r a1 a2 a3) (S a1 a2 a3) H)} (a1 : α) (a2 : β) (a3 : γ) : (Ent.o3 f c r S h).e [argV a1, argV a2, argV a3] = some (c a1 a2 a3, r a1 a2 a3, S a1 a2 a3) := by
  unfold Ent.o3; exact en3_eq (fun a1 a2 a3 => (c a1 a2 a3, r a1 a2 a3, S a1 a2 a3)) a1 a2 a3

open Classical in
noncomputable def en4 (ans : α → β → γ → δ → ρ) : List V → Option ρ
  | [x1, x2, x3, x4] => if x1 = argV (unV x1 : α) ∧ x2 = argV (unV x2 : β) ∧ x3 = argV (unV x3 : γ) ∧ x4 = argV (unV x4 : δ) then some (ans (unV x1) (unV x2) (unV x3) (unV x4)) else none
  | _ => none
theorem en4_eq [Shaped α] [Shaped β] [Shaped γ] [Shaped δ] (ans : α → β → γ → δ → ρ) (a1 : α) (a2 : β) (a3 : γ) (a4 : δ) : en4 ans [argV a1, argV a2, argV a3, argV a4] = some (ans a1 a2 a3 a4) := by
  simp [en4, unV_argV]
theorem en4_inv {ans : α → β → γ → δ → ρ} {vs : List V} {r : ρ} (h : en4 ans vs = some r) : ∃ a1 a2 a3 a4, vs = [argV a1, argV a2, argV a3, argV a4] ∧ r = ans a1 a2 a3 a4 := by
  unfold en4 at h
  split at h
  · split at h
    · rename_i hx
      cases h
      exact ⟨_, _, _, _, by rw [← hx.1, ← hx.2.1, ← hx.2.2.1, ← hx.2.2.2], rfl⟩
    · cases h
  · cases h
noncomputable def Ent.p4 (f : FuncId) (c : α → β → γ → δ → Prop) (r : α → β → γ → δ → V) (h : ∀ a1 a2 a3 a4, c a1 a2 a3 a4 → PureP P f [argV a1, argV a2, argV a3, argV a4] (· = r a1 a2 a3 a4)) : Ent P :=
  ⟨f, en4 fun a1 a2 a3 a4 => (c a1 a2 a3 a4, r a1 a2 a3 a4, []), by
    intro vs c' r' R e hc H
    obtain ⟨a1, a2, a3, a4, rfl, e2⟩ := en4_inv e
    cases e2
    exact (h a1 a2 a3 a4 hc).good (closedL_map (by simp [argV_closed])) H, by
    intro vs x e
    obtain ⟨a1, a2, a3, a4, rfl, e2⟩ := en4_inv e
    exact closedL_map (by simp [argV_closed])⟩
theorem Ent.p4_eq [Shaped α] [Shaped β] [Shaped γ] [Shaped δ] {f : FuncId} {c : α → β → γ → δ → Prop} {r : α → β → γ → δ → V} {h : ∀ a1 a2 a3 a4, c a1 a2 a3 a4 → PureP P f [argV a1, argV a2, argV a3, argV a4] (· = r a1 a2 a3 a4)} (a1 : α) (a2 : β) (a3 : γ) (a4 : δ) : (Ent.p4 f c r h).e [argV a1, argV a2, argV a3, argV a4] = some (c a1 a2 a3 a4, r a1 a2 a3 a4, []) := by
  unfold Ent.p4; exact en4_eq (fun a1 a2 a3 a4 => (c a1 a2 a3 a4, r a1 a2 a3 a4, [])) a1 a2 a3 a4
noncomputable def Ent.o4 (f : FuncId) (c : α → β → γ → δ → Prop) (r : α → β → γ → δ → V) (S : α → β → γ → δ → Heap) (h : ∀ a1 a2 a3 a4, c a1 a2 a3 a4 → ∀ H, CallsD P f [argV a1, argV a2, argV a3, argV a4] H (answers (r a1 a2 a3 a4) (S a1 a2 a3 a4) H)) : Ent P :=
  ⟨f, en4 fun a1 a2 a3 a4 => (c a1 a2 a3 a4, r a1 a2 a3 a4, S a1 a2 a3 a4), by
    intro vs c' r' R e hc H
    obtain ⟨a1, a2, a3, a4, rfl, e2⟩ := en4_inv e
    cases e2
    exact h a1 a2 a3 a4 hc H, by
    intro vs x e
    obtain ⟨a1, a2, a3, a4, rfl, e2⟩ := en4_inv e
    exact closedL_map (by simp [argV_closed])⟩
theorem Ent.o4_eq [Shaped α] [Shaped β] [Shaped γ] [Shaped δ] {f : FuncId} {c : α → β → γ → δ → Prop} {r : α → β → γ → δ → V} {S : α → β → γ → δ → Heap} {h : ∀ a1 a2 a3 a4, c a1 a2 a3 a4 → ∀ H, CallsD P f [argV a1, argV a2, argV a3, argV a4] H (answers (r a1 a2 a3 a4) (S a1 a2 a3 a4) H)} (a1 : α) (a2 : β) (a3 : γ) (a4 : δ) : (Ent.o4 f c r S h).e [argV a1, argV a2, argV a3, argV a4] = some (c a1 a2 a3 a4, r a1 a2 a3 a4, S a1 a2 a3 a4) := by
  unfold Ent.o4; exact en4_eq (fun a1 a2 a3 a4 => (c a1 a2 a3 a4, r a1 a2 a3 a4, S a1 a2 a3 a4)) a1 a2 a3 a4

open Classical in
noncomputable def en5 (ans : α → β → γ → δ → ε → ρ) : List V → Option ρ
  | [x1, x2, x3, x4, x5] => if x1 = argV (unV x1 : α) ∧ x2 = argV (unV x2 : β) ∧ x3 = argV (unV x3 : γ) ∧ x4 = argV (unV x4 : δ) ∧ x5 = argV (unV x5 : ε) then some (ans (unV x1) (unV x2) (unV x3) (unV x4) (unV x5)) else none
  | _ => none
theorem en5_eq [Shaped α] [Shaped β] [Shaped γ] [Shaped δ] [Shaped ε] (ans : α → β → γ → δ → ε → ρ) (a1 : α) (a2 : β) (a3 : γ) (a4 : δ) (a5 : ε) : en5 ans [argV a1, argV a2, argV a3, argV a4, argV a5] = some (ans a1 a2 a3 a4 a5) := by
  simp [en5, unV_argV]
theorem en5_inv {ans : α → β → γ → δ → ε → ρ} {vs : List V} {r : ρ} (h : en5 ans vs = some r) : ∃ a1 a2 a3 a4 a5, vs = [argV a1, argV a2, argV a3, argV a4, argV a5] ∧ r = ans a1 a2 a3 a4 a5 := by
  unfold en5 at h
  split at h
  · split at h
    · rename_i hx
      cases h
      exact ⟨_, _, _, _, _, by rw [← hx.1, ← hx.2.1, ← hx.2.2.1, ← hx.2.2.2.1, ← hx.2.2.2.2], rfl⟩
    · cases h
  · cases h
noncomputable def Ent.p5 (f : FuncId) (c : α → β → γ → δ → ε → Prop) (r : α → β → γ → δ → ε → V) (h : ∀ a1 a2 a3 a4 a5, c a1 a2 a3 a4 a5 → PureP P f [argV a1, argV a2, argV a3, argV a4, argV a5] (· = r a1 a2 a3 a4 a5)) : Ent P :=
  ⟨f, en5 fun a1 a2 a3 a4 a5 => (c a1 a2 a3 a4 a5, r a1 a2 a3 a4 a5, []), by
    intro vs c' r' R e hc H
    obtain ⟨a1, a2, a3, a4, a5, rfl, e2⟩ := en5_inv e
    cases e2
    exact (h a1 a2 a3 a4 a5 hc).good (closedL_map (by simp [argV_closed])) H, by
    intro vs x e
    obtain ⟨a1, a2, a3, a4, a5, rfl, e2⟩ := en5_inv e
    exact closedL_map (by simp [argV_closed])⟩
theorem Ent.p5_eq [Shaped α] [Shaped β] [Shaped γ] [Shaped δ] [Shaped ε] {f : FuncId} {c : α → β → γ → δ → ε → Prop} {r : α → β → γ → δ → ε → V} {h : ∀ a1 a2 a3 a4 a5, c a1 a2 a3 a4 a5 → PureP P f [argV a1, argV a2, argV a3, argV a4, argV a5] (· = r a1 a2 a3 a4 a5)} (a1 : α) (a2 : β) (a3 : γ) (a4 : δ) (a5 : ε) : (Ent.p5 f c r h).e [argV a1, argV a2, argV a3, argV a4, argV a5] = some (c a1 a2 a3 a4 a5, r a1 a2 a3 a4 a5, []) := by
  unfold Ent.p5; exact en5_eq (fun a1 a2 a3 a4 a5 => (c a1 a2 a3 a4 a5, r a1 a2 a3 a4 a5, [])) a1 a2 a3 a4 a5
noncomputable def Ent.o5 (f : FuncId) (c : α → β → γ → δ → ε → Prop) (r : α → β → γ → δ → ε → V) (S : α → β → γ → δ → ε → Heap) (h : ∀ a1 a2 a3 a4 a5, c a1 a2 a3 a4 a5 → ∀ H, CallsD P f [argV a1, argV a2, argV a3, argV a4, argV a5] H (answers (r a1 a2 a3 a4 a5) (S a1 a2 a3 a4 a5) H)) : Ent P :=
  ⟨f, en5 fun a1 a2 a3 a4 a5 => (c a1 a2 a3 a4 a5, r a1 a2 a3 a4 a5, S a1 a2 a3 a4 a5), by
    intro vs c' r' R e hc H
    obtain ⟨a1, a2, a3, a4, a5, rfl, e2⟩ := en5_inv e
    cases e2
    exact h a1 a2 a3 a4 a5 hc H, by
    intro vs x e
    obtain ⟨a1, a2, a3, a4, a5, rfl, e2⟩ := en5_inv e
    exact closedL_map (by simp [argV_closed])⟩
theorem Ent.o5_eq [Shaped α] [Shaped β] [Shaped γ] [Shaped δ] [Shaped ε] {f : FuncId} {c : α → β → γ → δ → ε → Prop} {r : α → β → γ → δ → ε → V} {S : α → β → γ → δ → ε → Heap} {h : ∀ a1 a2 a3 a4 a5, c a1 a2 a3 a4 a5 → ∀ H, CallsD P f [argV a1, argV a2, argV a3, argV a4, argV a5] H (answers (r a1 a2 a3 a4 a5) (S a1 a2 a3 a4 a5) H)} (a1 : α) (a2 : β) (a3 : γ) (a4 : δ) (a5 : ε) : (Ent.o5 f c r S h).e [argV a1, argV a2, argV a3, argV a4, argV a5] = some (c a1 a2 a3 a4 a5, r a1 a2 a3 a4 a5, S a1 a2 a3 a4 a5) := by
  unfold Ent.o5; exact en5_eq (fun a1 a2 a3 a4 a5 => (c a1 a2 a3 a4 a5, r a1 a2 a3 a4 a5, S a1 a2 a3 a4 a5)) a1 a2 a3 a4 a5

open Classical in
noncomputable def en6 (ans : α → β → γ → δ → ε → ζ → ρ) : List V → Option ρ
  | [x1, x2, x3, x4, x5, x6] => if x1 = argV (unV x1 : α) ∧ x2 = argV (unV x2 : β) ∧ x3 = argV (unV x3 : γ) ∧ x4 = argV (unV x4 : δ) ∧ x5 = argV (unV x5 : ε) ∧ x6 = argV (unV x6 : ζ) then some (ans (unV x1) (unV x2) (unV x3) (unV x4) (unV x5) (unV x6)) else none
  | _ => none
theorem en6_eq [Shaped α] [Shaped β] [Shaped γ] [Shaped δ] [Shaped ε] [Shaped ζ] (ans : α → β → γ → δ → ε → ζ → ρ) (a1 : α) (a2 : β) (a3 : γ) (a4 : δ) (a5 : ε) (a6 : ζ) : en6 ans [argV a1, argV a2, argV a3, argV a4, argV a5, argV a6] = some (ans a1 a2 a3 a4 a5 a6) := by
  simp [en6, unV_argV]
theorem en6_inv {ans : α → β → γ → δ → ε → ζ → ρ} {vs : List V} {r : ρ} (h : en6 ans vs = some r) : ∃ a1 a2 a3 a4 a5 a6, vs = [argV a1, argV a2, argV a3, argV a4, argV a5, argV a6] ∧ r = ans a1 a2 a3 a4 a5 a6 := by
  unfold en6 at h
  split at h
  · split at h
    · rename_i hx
      cases h
      exact ⟨_, _, _, _, _, _, by rw [← hx.1, ← hx.2.1, ← hx.2.2.1, ← hx.2.2.2.1, ← hx.2.2.2.2.1, ← hx.2.2.2.2.2], rfl⟩
    · cases h
  · cases h
noncomputable def Ent.p6 (f : FuncId) (c : α → β → γ → δ → ε → ζ → Prop) (r : α → β → γ → δ → ε → ζ → V) (h : ∀ a1 a2 a3 a4 a5 a6, c a1 a2 a3 a4 a5 a6 → PureP P f [argV a1, argV a2, argV a3, argV a4, argV a5, argV a6] (· = r a1 a2 a3 a4 a5 a6)) : Ent P :=
  ⟨f, en6 fun a1 a2 a3 a4 a5 a6 => (c a1 a2 a3 a4 a5 a6, r a1 a2 a3 a4 a5 a6, []), by
    intro vs c' r' R e hc H
    obtain ⟨a1, a2, a3, a4, a5, a6, rfl, e2⟩ := en6_inv e
    cases e2
    exact (h a1 a2 a3 a4 a5 a6 hc).good (closedL_map (by simp [argV_closed])) H, by
    intro vs x e
    obtain ⟨a1, a2, a3, a4, a5, a6, rfl, e2⟩ := en6_inv e
    exact closedL_map (by simp [argV_closed])⟩
theorem Ent.p6_eq [Shaped α] [Shaped β] [Shaped γ] [Shaped δ] [Shaped ε] [Shaped ζ] {f : FuncId} {c : α → β → γ → δ → ε → ζ → Prop} {r : α → β → γ → δ → ε → ζ → V} {h : ∀ a1 a2 a3 a4 a5 a6, c a1 a2 a3 a4 a5 a6 → PureP P f [argV a1, argV a2, argV a3, argV a4, argV a5, argV a6] (· = r a1 a2 a3 a4 a5 a6)} (a1 : α) (a2 : β) (a3 : γ) (a4 : δ) (a5 : ε) (a6 : ζ) : (Ent.p6 f c r h).e [argV a1, argV a2, argV a3, argV a4, argV a5, argV a6] = some (c a1 a2 a3 a4 a5 a6, r a1 a2 a3 a4 a5 a6, []) := by
  unfold Ent.p6; exact en6_eq (fun a1 a2 a3 a4 a5 a6 => (c a1 a2 a3 a4 a5 a6, r a1 a2 a3 a4 a5 a6, [])) a1 a2 a3 a4 a5 a6
noncomputable def Ent.o6 (f : FuncId) (c : α → β → γ → δ → ε → ζ → Prop) (r : α → β → γ → δ → ε → ζ → V) (S : α → β → γ → δ → ε → ζ → Heap) (h : ∀ a1 a2 a3 a4 a5 a6, c a1 a2 a3 a4 a5 a6 → ∀ H, CallsD P f [argV a1, argV a2, argV a3, argV a4, argV a5, argV a6] H (answers (r a1 a2 a3 a4 a5 a6) (S a1 a2 a3 a4 a5 a6) H)) : Ent P :=
  ⟨f, en6 fun a1 a2 a3 a4 a5 a6 => (c a1 a2 a3 a4 a5 a6, r a1 a2 a3 a4 a5 a6, S a1 a2 a3 a4 a5 a6), by
    intro vs c' r' R e hc H
    obtain ⟨a1, a2, a3, a4, a5, a6, rfl, e2⟩ := en6_inv e
    cases e2
    exact h a1 a2 a3 a4 a5 a6 hc H, by
    intro vs x e
    obtain ⟨a1, a2, a3, a4, a5, a6, rfl, e2⟩ := en6_inv e
    exact closedL_map (by simp [argV_closed])⟩
theorem Ent.o6_eq [Shaped α] [Shaped β] [Shaped γ] [Shaped δ] [Shaped ε] [Shaped ζ] {f : FuncId} {c : α → β → γ → δ → ε → ζ → Prop} {r : α → β → γ → δ → ε → ζ → V} {S : α → β → γ → δ → ε → ζ → Heap} {h : ∀ a1 a2 a3 a4 a5 a6, c a1 a2 a3 a4 a5 a6 → ∀ H, CallsD P f [argV a1, argV a2, argV a3, argV a4, argV a5, argV a6] H (answers (r a1 a2 a3 a4 a5 a6) (S a1 a2 a3 a4 a5 a6) H)} (a1 : α) (a2 : β) (a3 : γ) (a4 : δ) (a5 : ε) (a6 : ζ) : (Ent.o6 f c r S h).e [argV a1, argV a2, argV a3, argV a4, argV a5, argV a6] = some (c a1 a2 a3 a4 a5 a6, r a1 a2 a3 a4 a5 a6, S a1 a2 a3 a4 a5 a6) := by
  unfold Ent.o6; exact en6_eq (fun a1 a2 a3 a4 a5 a6 => (c a1 a2 a3 a4 a5 a6, r a1 a2 a3 a4 a5 a6, S a1 a2 a3 a4 a5 a6)) a1 a2 a3 a4 a5 a6

end
end Go.Proofs.Ytpakdkiceoknjaa
