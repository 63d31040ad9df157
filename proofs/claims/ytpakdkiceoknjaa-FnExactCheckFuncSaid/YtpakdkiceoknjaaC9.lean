/- The abstract machine, part 29: a loop of which the rounds are walked one by one. No condition. -/
import Derived.Test.YtpakdkiceoknjaaC8
import Derived.LoopN
namespace Go.Proofs.Ytpakdkiceoknjaa
set_option linter.unusedVariables false
set_option linter.unusedSimpArgs false

/-- From the state the loop comes to its end within so many rounds. -/
def WR (P : Program) (N n0 : Nat) (c : Code) (Q : Exit → St → Prop) : Nat → St → Prop
  | 0, _ => False
  | n + 1, s => W P N n0 c (seqQ (WR P N n0 c Q n) Q) s
theorem W_rounds {P : Program} {N n0 : Nat} {c : Code} {Q : Exit → St → Prop} {s : St} (n : Nat) (h : WR P N n0 c Q n s) : W P N n0 (.loop c) Q s := by
  intro x φ a w hx hs
  refine wp_loop_rounds n ?_
  induction n generalizing s φ a w with
  | zero => exact h.elim
  | succ n ih =>
    rw [rounds_succ]
    refine wp_mono (h x φ a w hx hs) ?_
    rintro e a' w' ⟨s', φ', q, r⟩
    cases e with
    | normal => exact ih q φ' a' w' r
    | _ => exact ⟨s', φ', q, r⟩
theorem WR_succ {P : Program} {N n0 : Nat} {c : Code} {Q : Exit → St → Prop} {s : St} {n : Nat} (h : W P N n0 c (seqQ (WR P N n0 c Q n) Q) s) : WR P N n0 c Q (n + 1) s := h
theorem WR_weak {P : Program} {N n0 : Nat} {c : Code} {Q : Exit → St → Prop} {s s' : St} {n : Nat} (h : Weak n0 s s') (k : WR P N n0 c Q n s') : WR P N n0 c Q n s := by
  cases n with
  | zero => exact k.elim
  | succ n => exact W_weak h k
@[simp] theorem closeK_d {K : List Nat} {H : Heap} {f : Nat} {x : D} : closeK K H f (.d x) = x := by cases f <;> rfl
/-- A row that is told by a list: its elements. -/
@[simp 1500] theorem elR_map {α : Type} [Inhabited α] {l : List α} {f : α → List V} {i e e' j size : Nat} {agg : Bool} {H : Heap} : elR (l.map f) i e e' j size agg H =
    guardR (i < l.length ∧ e' = e ∧ j + size ≤ e ∧ (agg = true ∨ size = 1)) (.ok (asVal agg (((f (l[i]?.getD default)).drop j).take size)) H) := by
  unfold elR
  refine guardR_congr (by simp) fun h => ?_
  have h1 : i < l.length := by simpa using h.1
  rw [List.getElem?_map, List.getElem?_eq_getElem h1]
  rfl
@[simp 1500] theorem setR_map {α : Type} [Inhabited α] {l : List α} {f : α → List V} {id i e e' j size : Nat} {l' : List V} {H : Heap} : setR (l.map f) id i e e' j size l' H =
    guardR (i < l.length ∧ e' = e ∧ l'.length = size ∧ j + size ≤ e ∧ ones l' = true) (.ok (.tup []) (H.set id (.row e ((l.map f).set i (setMany (f (l[i]?.getD default)) j l'))))) := by
  unfold setR
  refine guardR_congr (by simp) fun h => ?_
  have h1 : i < l.length := by simpa using h.1
  rw [List.getElem?_map, List.getElem?_eq_getElem h1]
  rfl
end Go.Proofs.Ytpakdkiceoknjaa
