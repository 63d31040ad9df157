/- The law OverwrittenBy. No condition. -/
import Derived.Test.YtpakdkiceoknjaaS26
namespace Go.Proofs.Ytpakdkiceoknjaa
set_option maxRecDepth 100000
set_option linter.unusedSimpArgs false
set_option linter.unusedVariables false
theorem law_OverwrittenBy (F : Func) (n : Int) (hF : Enc.good F) (hn : Enc.good n) : PureP Try.prog 9 [vFunc F, .d (.int .i64 n)] (· = .d (.bool true)) := by
  by_cases hw : szFunc F 1048576 < 0
  · refine pure_of Try.func9 en_9 rfl rfl (W_run mixed ⟨[K_15, K_17, K_32, K_33, K_19], [K_15h, K_17h, K_32h, K_33h, K_19h], [], 44, 0, [0, 1, 2, 4, 5, 6, 7, 8, 9, 10, 15, 38, 43], [15, 34, 38, 43]⟩ (fun | 10 => [0, 1, 2, 3, 4] | _ => []) (by kernel_rfl) ?_)
    simp only [Try.f9, stripX, stripOps, pickOps]
    simp [K_15_f, K_15_e, K_17_f, K_17_e, K_32_f, K_32_e, K_33_f, K_33_e, K_19_f, K_19_e, K_15h_f, K_15h_e, K_17h_f, K_17h_e, K_32h_f, K_32h_e, K_33h_f, K_33h_e, K_19h_f, K_19h_e, K_15h_g, K_17h_g, K_32h_g, K_33h_g, K_19h_g, hF, hn, hw]
  have hs : Sm.sm F := (szok_Func F 1048576 hF (by decide) (by decide) (by omega)).1
  cases hl : (askV F n && decide (0 ≤ overS F n)) with
  | true => refine pure_of Try.func9 en_9 rfl rfl (W_run mixed ⟨[K_15, K_17, K_32, K_33, K_19], [K_15h, K_17h, K_32h, K_33h, K_19h], [], 44, 0, [0, 1, 2, 4, 5, 6, 7, 8, 9, 10, 15, 38, 43], [15, 34, 38, 43]⟩ (fun | 10 => [0, 1, 2, 3, 4] | _ => []) (by kernel_rfl) ?_)
            simp only [Try.f9, stripX, stripOps, pickOps]
            simp [K_15_f, K_15_e, K_17_f, K_17_e, K_32_f, K_32_e, K_33_f, K_33_e, K_19_f, K_19_e, K_15h_f, K_15h_e, K_17h_f, K_17h_e, K_32h_f, K_32h_e, K_33h_f, K_33h_e, K_19h_f, K_19h_e, K_15h_g, K_17h_g, K_32h_g, K_33h_g, K_19h_g, hF, hn, hs, hw, foundR, hl]
  | false => refine pure_of Try.func9 en_9 rfl rfl (W_run mixed ⟨[K_15, K_17, K_32, K_33, K_19], [K_15h, K_17h, K_32h, K_33h, K_19h], [], 44, 0, [0, 1, 2, 4, 5, 6, 7, 8, 9, 10, 15, 38, 43], [15, 34, 38, 43]⟩ (fun | 10 => [0, 1, 2, 3, 4] | _ => []) (by kernel_rfl) ?_)
             simp only [Try.f9, stripX, stripOps, pickOps]
             simp [K_15_f, K_15_e, K_17_f, K_17_e, K_32_f, K_32_e, K_33_f, K_33_e, K_19_f, K_19_e, K_15h_f, K_15h_e, K_17h_f, K_17h_e, K_32h_f, K_32h_e, K_33h_f, K_33h_e, K_19h_f, K_19h_e, K_15h_g, K_17h_g, K_32h_g, K_33h_g, K_19h_g, hF, hn, hs, hw, foundR, hl]
namespace fnExactOverwrittenBy
open Go.ChangeShapes Go.WideShapes Go.RowKit
theorem own : ownKnob Try.prog.godebug = none := by kernel_rfl
theorem lifted (os : Os) (started : os.Started) (H : Type) (enc : TypeId × Value → H) :
    ReturnsInHanded {} Try.checked os 9 .any (Rows.fnExactOverwrittenBySpec.pre6 enc Try.prog Try.f9 Rows.fnExactOverwrittenByRow.domain false) (Rows.fnExactOverwrittenBySpec.post enc Try.prog Try.f9 false true false false) := by
  refine returnsInHanded_of_change (C := Try.checked) own started (by kernel_rfl) Try.func9
    (ChangeSpec.witness6 (enc := enc) (C := Try.checked) false ⟨#[], #[.agg #[.int .i64 0, .slice none 0 0], .int .i64 0], []⟩ 8 (by kernel_rfl) (by kernel_rfl) (by kernel_rfl) (by kernel_rfl)) ?_
  intro W base args ds gs before hval hW hcnd _
  have hW' := hW
  obtain ⟨p, q, hA, hV, _, _, _⟩ := hW
  rw [Try.params9] at hA hval
  obtain ⟨v0, vs0, d0, ds0, p0, q0, hargs, rfl, rfl, h0, r0⟩ := trodAll_cons hA
  obtain ⟨v1, vs1, d1, ds1, p1, q1, rfl, rfl, rfl, h1, r1⟩ := trodAll_cons r0
  obtain ⟨rfl, rfl, rfl⟩ := trodAll_nil r1
  obtain rfl : args = #[v0, v1] := by cases args; simp_all
  obtain ⟨F, hF, hv0⟩ := arg_of rd_Func (hval 0 27 v0 rfl rfl) h0
  obtain ⟨n, hn, hv1⟩ := arg_of rd_int (hval 1 3 v1 rfl rfl) h1
  obtain ⟨rfl, rfl⟩ := trodVars_none hV
  exact row_end (by kernel_rfl) (by kernel_rfl) (by kernel_rfl) Try.underlying4 hW' rfl rfl rfl rfl (vs := [argV F, argV n]) (by exact ⟨v0, _, rfl, hv0, ⟨v1, _, rfl, hv1, rfl⟩⟩) (law_OverwrittenBy F n hF hn)
theorem over : Rows.fnExactOverwrittenByRow.holds Try.pinned (OpenSpec.ofChange Rows.fnExactOverwrittenBySpec) :=
  OpenClaim.holds_of_wide 9 Try.f9 rfl rfl rfl rfl rfl rfl rfl ⟨rfl, rfl, rfl, rfl, rfl⟩ rfl rfl rfl rfl rfl (by kernel_rfl) Try.func9 (by kernel_rfl)
    (of_decide_eq_true (by kernel_rfl)) (by unfold Func.isWrapper; first | (rw [if_pos (by decide +kernel)]; kernel_rfl) | (rw [if_neg (by decide +kernel)]; exact ⟨rfl, rfl⟩))
    (fun os started H enc _ => lifted os started H enc)
end fnExactOverwrittenBy
/-- The row. -/
theorem fnExactOverwrittenBy_holds : Rows.FnExactOverwrittenBySaid := fnExactOverwrittenBy.over
end Go.Proofs.Ytpakdkiceoknjaa
