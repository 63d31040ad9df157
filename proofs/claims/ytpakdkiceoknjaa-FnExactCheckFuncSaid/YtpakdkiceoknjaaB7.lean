/- The abstract machine, part 17: tables of contracts over data of Lean. No condition. -/
import Derived.Test.YtpakdkiceoknjaaB5
import Derived.Test.YtpakdkiceoknjaaB6
namespace Go.Proofs.Ytpakdkiceoknjaa

def vD : V → D
  | .d x => x
  | _ => .undef
def unV {α : Type} [Enc α] : V → α
  | .d x => Enc.un fun _ => x
  | .agg l => Enc.un fun j => vD ((l[j]?).getD (.d .undef))
  | _ => Enc.un fun _ => .undef

/-- A structure has more than a place in one cell; all else has one cell. -/
class Shaped (α : Type) [Enc α] : Prop where
  one : Enc.agg α = false → Enc.size α = 1

instance : Shaped Int := ⟨fun _ => rfl⟩
instance : Shaped Bool := ⟨fun _ => rfl⟩
instance : Shaped ByteArray := ⟨fun _ => rfl⟩
instance {α : Type} [Enc α] [Inhabited α] : Shaped (List α) := ⟨fun _ => rfl⟩

theorem unV_argV {α : Type} [Enc α] [Shaped α] (a : α) : unV (argV a) = a := by
  unfold argV
  cases h : Enc.agg α with
  | false =>
    refine Enc.un_of a _ fun j hj => ?_
    have := Shaped.one (α := α) h
    have : j = 0 := by omega
    rw [this]
  | true =>
    refine Enc.un_of a _ fun j hj => ?_
    simp [hj, vD]

theorem argV_closed {α : Type} [Enc α] (a : α) : (argV a).closed = true := by
  unfold argV
  cases Enc.agg α with
  | false => rfl
  | true =>
    simp only [cond_true, V.closed]
    generalize List.range (Enc.size α) = l
    induction l with
    | nil => rfl
    | cons x l ih => simpa [closedL, V.closed] using ih

section
variable {α β γ δ : Type} [Enc α] [Enc β] [Enc γ] [Enc δ]
open Classical in
noncomputable def ent1 (ans : α → Option (V × Heap)) : List V → Option (V × Heap)
  | [x] => if x = argV (unV x : α) then ans (unV x) else none
  | _ => none
open Classical in
noncomputable def ent2 (ans : α → β → Option (V × Heap)) : List V → Option (V × Heap)
  | [x, y] => if x = argV (unV x : α) ∧ y = argV (unV y : β) then ans (unV x) (unV y) else none
  | _ => none
open Classical in
noncomputable def ent3 (ans : α → β → γ → Option (V × Heap)) : List V → Option (V × Heap)
  | [x, y, z] => if x = argV (unV x : α) ∧ y = argV (unV y : β) ∧ z = argV (unV z : γ) then ans (unV x) (unV y) (unV z) else none
  | _ => none
open Classical in
noncomputable def ent4 (ans : α → β → γ → δ → Option (V × Heap)) : List V → Option (V × Heap)
  | [x, y, z, u] => if x = argV (unV x : α) ∧ y = argV (unV y : β) ∧ z = argV (unV z : γ) ∧ u = argV (unV u : δ) then ans (unV x) (unV y) (unV z) (unV u) else none
  | _ => none
theorem ent1_eq [Shaped α] (ans : α → Option (V × Heap)) (a : α) : ent1 ans [argV a] = ans a := by
  simp [ent1, unV_argV]
theorem ent2_eq [Shaped α] [Shaped β] (ans : α → β → Option (V × Heap)) (a : α) (b : β) : ent2 ans [argV a, argV b] = ans a b := by
  simp [ent2, unV_argV]
theorem ent3_eq [Shaped α] [Shaped β] [Shaped γ] (ans : α → β → γ → Option (V × Heap)) (a : α) (b : β) (c : γ) : ent3 ans [argV a, argV b, argV c] = ans a b c := by
  simp [ent3, unV_argV]
theorem ent4_eq [Shaped α] [Shaped β] [Shaped γ] [Shaped δ] (ans : α → β → γ → δ → Option (V × Heap)) (a : α) (b : β) (c : γ) (d : δ) : ent4 ans [argV a, argV b, argV c, argV d] = ans a b c d := by
  simp [ent4, unV_argV]

variable {P : Program} {g : FuncId}
theorem ent1_good {ans : α → Option (V × Heap)} (h : ∀ a r R, ans a = some (r, R) → ∀ H, CallsD P g [argV a] H (answers r R H)) {vs : List V} {r : V} {R H : Heap} (e : ent1 ans vs = some (r, R)) : CallsD P g vs H (answers r R H) := by
  unfold ent1 at e
  split at e
  · split at e
    · rename_i x hx
      have := h _ _ _ e H
      rw [← hx] at this
      exact this
    · cases e
  · cases e
theorem ent2_good {ans : α → β → Option (V × Heap)} (h : ∀ a b r R, ans a b = some (r, R) → ∀ H, CallsD P g [argV a, argV b] H (answers r R H)) {vs : List V} {r : V} {R H : Heap} (e : ent2 ans vs = some (r, R)) : CallsD P g vs H (answers r R H) := by
  unfold ent2 at e
  split at e
  · split at e
    · rename_i x y hx
      have := h _ _ _ _ e H
      rw [← hx.1, ← hx.2] at this
      exact this
    · cases e
  · cases e
theorem ent3_good {ans : α → β → γ → Option (V × Heap)} (h : ∀ a b c r R, ans a b c = some (r, R) → ∀ H, CallsD P g [argV a, argV b, argV c] H (answers r R H)) {vs : List V} {r : V} {R H : Heap} (e : ent3 ans vs = some (r, R)) : CallsD P g vs H (answers r R H) := by
  unfold ent3 at e
  split at e
  · split at e
    · rename_i x y z hx
      have := h _ _ _ _ _ e H
      rw [← hx.1, ← hx.2.1, ← hx.2.2] at this
      exact this
    · cases e
  · cases e
theorem ent4_good {ans : α → β → γ → δ → Option (V × Heap)} (h : ∀ a b c d r R, ans a b c d = some (r, R) → ∀ H, CallsD P g [argV a, argV b, argV c, argV d] H (answers r R H)) {vs : List V} {r : V} {R H : Heap} (e : ent4 ans vs = some (r, R)) : CallsD P g vs H (answers r R H) := by
  unfold ent4 at e
  split at e
  · split at e
    · rename_i x y z u hx
      have := h _ _ _ _ _ _ e H
      rw [← hx.1, ← hx.2.1, ← hx.2.2.1, ← hx.2.2.2] at this
      exact this
    · cases e
  · cases e
end

/-- A table with one function more. -/
def Table.add (Γ : Table) (g : FuncId) (e : List V → Option (V × Heap)) : Table := fun g' vs => if g' = g then e vs else Γ g' vs
theorem Good.add {P : Program} {Γ : Table} (h : Good P Γ) {g : FuncId} {e : List V → Option (V × Heap)} (he : ∀ vs r R H, e vs = some (r, R) → CallsD P g vs H (answers r R H)) : Good P (Γ.add g e) := by
  intro g' vs r R H h'
  unfold Table.add at h'
  split at h'
  · rename_i hg; subst hg; exact he vs r R H h'
  · exact h g' vs r R H h'

end Go.Proofs.Ytpakdkiceoknjaa
