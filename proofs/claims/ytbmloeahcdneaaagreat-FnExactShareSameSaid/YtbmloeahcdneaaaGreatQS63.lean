/- Of laws whose answer is a function of the program. No condition. -/
import Derived.Test.YtbmloeahcdneaaaGreatQS33
import Derived.Test.YtbmloeahcdneaaaGreatQS43
namespace Go.Proofs.YtbmloeahcdneaaaGreat
set_option maxRecDepth 100000
set_option linter.unusedSimpArgs false
set_option linter.unusedVariables false
theorem mFunc_idem (x : Func) (k : Int) : mFunc (mFunc x k).1 k = mFunc x k := by
  have hi : ∀ l k, mkL mI (mkL mI l k).1 k = mkL mI l k := mkL_idem (fun x k => rfl)
  have hI : ∀ (y : Inst) k, mInst (mInst y k).1 k = mInst y k := fun y k => by unfold mInst; simp only [hi]
  have hJ : ∀ (y : Jump) k, mJump (mJump y k).1 k = mJump y k := fun y k => by unfold mJump; simp only [hi]
  have hB : ∀ (y : Block) k, mBlock (mBlock y k).1 k = mBlock y k := fun y k => by unfold mBlock; simp only [mkL_idem hI, mkL_idem hJ]
  unfold mFunc
  simp only [mkL_idem hB]
theorem sm_good {F : Func} (h : goodF F = true) : Sm.sm F := by
  obtain ⟨h1, h2⟩ := good_small h
  refine ⟨trivial, by show F.blocks_.length ≤ _; omega, fun b hb => ?_⟩
  obtain ⟨q1, q2, q3, q4⟩ := h2 b hb
  exact ⟨trivial, ⟨by omega, fun x hx => ⟨trivial, trivial, by have := q3 x hx; exact ⟨by omega, fun _ _ => trivial⟩⟩⟩, trivial, trivial, ⟨by omega, fun x hx => ⟨trivial, by have := q4 x hx; exact ⟨by omega, fun _ _ => trivial⟩⟩⟩⟩
end Go.Proofs.YtbmloeahcdneaaaGreat
