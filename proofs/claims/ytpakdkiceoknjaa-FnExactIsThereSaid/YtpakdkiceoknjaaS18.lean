/- The law IsThere. -/
import Derived.Test.YtpakdkiceoknjaaS17
namespace Go.Proofs.Ytpakdkiceoknjaa
set_option maxRecDepth 100000
set_option linter.unusedSimpArgs false
set_option linter.unusedVariables false
theorem law_IsThere (F : Func) (n b a : Int) (hF : Enc.good F) (hn : Enc.good n) : PureP Try.prog 7 [vFunc F, .d (.int .i64 n), .d (.int .i64 b), .d (.int .i64 a)] (· = .d (.bool true)) := by
  by_cases hw : szFunc F 1048576 < 0
  · refine pure_of Try.func7 en_7 rfl rfl (W_run mixed ⟨[K_15, K_17, K_28, K_29, K_19], [K_15h, K_17h, K_28h, K_29h, K_19h], [], 52, 0, [0, 1, 2, 3, 4, 8, 9, 10, 11, 12, 13, 14, 19, 46, 51], [19, 42, 46, 51]⟩ (fun | 10 => [0, 1, 2, 3, 4] | _ => []) (by kernel_rfl) ?_)
    simp only [Try.f7, stripX, stripOps, pickOps]
    simp [K_15_f, K_15_e, K_17_f, K_17_e, K_28_f, K_28_e, K_29_f, K_29_e, K_19_f, K_19_e, K_15h_f, K_15h_e, K_17h_f, K_17h_e, K_28h_f, K_28h_e, K_29h_f, K_29h_e, K_19h_f, K_19h_e, K_15h_g, K_17h_g, K_28h_g, K_29h_g, K_19h_g, hF, hn, hw]
  have hs : Sm.sm F := (szok_Func F 1048576 hF (by decide) (by decide) (by omega)).1
  by_cases hl : (canThere F n b a && hasL (allR F) b) = true
  · refine pure_of Try.func7 en_7 rfl rfl (W_run mixed ⟨[K_15, K_17, K_28, K_29, K_19], [K_15h, K_17h, K_28h, K_29h, K_19h], [], 52, 0, [0, 1, 2, 3, 4, 8, 9, 10, 11, 12, 13, 14, 19, 46, 51], [19, 42, 46, 51]⟩ (fun | 10 => [0, 1, 2, 3, 4] | _ => []) (by kernel_rfl) ?_)
    simp only [Try.f7, stripX, stripOps, pickOps]
    simp [K_15_f, K_15_e, K_17_f, K_17_e, K_28_f, K_28_e, K_29_f, K_29_e, K_19_f, K_19_e, K_15h_f, K_15h_e, K_17h_f, K_17h_e, K_28h_f, K_28h_e, K_29h_f, K_29h_e, K_19h_f, K_19h_e, K_15h_g, K_17h_g, K_28h_g, K_29h_g, K_19h_g, hF, hn, hs, hw, isThereR, hl]
  · refine pure_of Try.func7 en_7 rfl rfl (W_run mixed ⟨[K_15, K_17, K_28, K_29, K_19], [K_15h, K_17h, K_28h, K_29h, K_19h], [], 52, 0, [0, 1, 2, 3, 4, 8, 9, 10, 11, 12, 13, 14, 19, 46, 51], [19, 42, 46, 51]⟩ (fun | 10 => [0, 1, 2, 3, 4] | _ => []) (by kernel_rfl) ?_)
    simp only [Try.f7, stripX, stripOps, pickOps]
    simp [K_15_f, K_15_e, K_17_f, K_17_e, K_28_f, K_28_e, K_29_f, K_29_e, K_19_f, K_19_e, K_15h_f, K_15h_e, K_17h_f, K_17h_e, K_28h_f, K_28h_e, K_29h_f, K_29h_e, K_19h_f, K_19h_e, K_15h_g, K_17h_g, K_28h_g, K_29h_g, K_19h_g, hF, hn, hs, hw, isThereR, hl]
namespace fnExactIsThere
open Go.ChangeShapes Go.WideShapes Go.RowKit
theorem own : ownKnob Try.prog.godebug = none := by kernel_rfl
theorem lifted (os : Os) (started : os.Started) (H : Type) (enc : TypeId × Value → H) :
    ReturnsInHanded {} Try.checked os 7 .any (Rows.fnExactIsThereSpec.pre6 enc Try.prog Try.f7 Rows.fnExactIsThereRow.domain false) (Rows.fnExactIsThereSpec.post enc Try.prog Try.f7 false true false false) := by
  refine returnsInHanded_of_change (C := Try.checked) own started (by kernel_rfl) Try.func7
    (ChangeSpec.witness6 (enc := enc) (C := Try.checked) false ⟨#[], #[.agg #[.int .i64 0, .slice none 0 0], .int .i64 0, .int .i64 0, .int .i64 0], []⟩ 8 (by kernel_rfl) (by kernel_rfl) (by kernel_rfl) (by kernel_rfl)) ?_
  intro W base args ds gs before hval hW hcnd _
  have hW' := hW
  obtain ⟨p, q, hA, hV, _, _, _⟩ := hW
  rw [Try.params7] at hA hval
  obtain ⟨v0, vs0, d0, ds0, p0, q0, hargs, rfl, rfl, h0, r0⟩ := trodAll_cons hA
  obtain ⟨v1, vs1, d1, ds1, p1, q1, rfl, rfl, rfl, h1, r1⟩ := trodAll_cons r0
  obtain ⟨v2, vs2, d2, ds2, p2, q2, rfl, rfl, rfl, h2, r2⟩ := trodAll_cons r1
  obtain ⟨v3, vs3, d3, ds3, p3, q3, rfl, rfl, rfl, h3, r3⟩ := trodAll_cons r2
  obtain ⟨rfl, rfl, rfl⟩ := trodAll_nil r3
  obtain rfl : args = #[v0, v1, v2, v3] := by cases args; simp_all
  obtain ⟨F, hF, hv0⟩ := arg_of rd_Func (hval 0 27 v0 rfl rfl) h0
  obtain ⟨n, hn, hv1⟩ := arg_of rd_int (hval 1 3 v1 rfl rfl) h1
  obtain ⟨b, hb, hv2⟩ := arg_of rd_int (hval 2 3 v2 rfl rfl) h2
  obtain ⟨a, ha, hv3⟩ := arg_of rd_int (hval 3 3 v3 rfl rfl) h3
  obtain ⟨rfl, rfl⟩ := trodVars_none hV
  exact row_end (by kernel_rfl) (by kernel_rfl) (by kernel_rfl) Try.underlying4 hW' rfl rfl rfl rfl (vs := [argV F, argV n, argV b, argV a]) (by exact ⟨v0, _, rfl, hv0, ⟨v1, _, rfl, hv1, ⟨v2, _, rfl, hv2, ⟨v3, _, rfl, hv3, rfl⟩⟩⟩⟩) (law_IsThere F n b a hF hn)
theorem over : Rows.fnExactIsThereRow.holds Try.pinned (OpenSpec.ofChange Rows.fnExactIsThereSpec) :=
  OpenClaim.holds_of_wide 7 Try.f7 rfl rfl rfl rfl rfl rfl rfl ⟨rfl, rfl, rfl, rfl, rfl⟩ rfl rfl rfl rfl rfl (by kernel_rfl) Try.func7 (by kernel_rfl)
    (of_decide_eq_true (by kernel_rfl)) (by unfold Func.isWrapper; first | (rw [if_pos (by decide +kernel)]; kernel_rfl) | (rw [if_neg (by decide +kernel)]; exact ⟨rfl, rfl⟩))
    (fun os started H enc _ => lifted os started H enc)
end fnExactIsThere
/-- The row. -/
theorem fnExactIsThere_holds : Rows.FnExactIsThereSaid := fnExactIsThere.over
end Go.Proofs.Ytpakdkiceoknjaa
