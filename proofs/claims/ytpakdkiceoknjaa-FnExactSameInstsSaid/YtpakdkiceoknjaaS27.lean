/- The law SameInsts. No condition. -/
import Derived.Test.YtpakdkiceoknjaaS23
namespace Go.Proofs.Ytpakdkiceoknjaa
set_option maxRecDepth 100000
set_option linter.unusedSimpArgs false
set_option linter.unusedVariables false
theorem law_SameInsts (F : Func) (a b : Int) (hF : Enc.good F) (ha : Enc.good a) (hb : Enc.good b) : PureP Try.prog 10 [vFunc F, .d (.int .i64 a), .d (.int .i64 b)] (· = .d (.bool true)) := by
  by_cases hw : szFunc F 1048576 < 0
  · refine pure_of Try.func10 en_10 rfl rfl (W_run mixed ⟨[K_15, K_17, K_34, K_35, K_19], [K_15h, K_17h, K_34h, K_35h, K_19h], [], 48, 0, [0, 1, 2, 3, 6, 7, 8, 9, 10, 11, 12, 17, 42, 47], [17, 38, 42, 47]⟩ (fun | 10 => [0, 1, 2, 3, 4] | _ => []) (by kernel_rfl) ?_)
    simp only [Try.f10, stripX, stripOps, pickOps]
    simp [K_15_f, K_15_e, K_17_f, K_17_e, K_34_f, K_34_e, K_35_f, K_35_e, K_19_f, K_19_e, K_15h_f, K_15h_e, K_17h_f, K_17h_e, K_34h_f, K_34h_e, K_35h_f, K_35h_e, K_19h_f, K_19h_e, K_15h_g, K_17h_g, K_34h_g, K_35h_g, K_19h_g, hF, ha, hb, hw]
  have hs : Sm.sm F := (szok_Func F 1048576 hF (by decide) (by decide) (by omega)).1
  refine pure_of Try.func10 en_10 rfl rfl (W_run mixed ⟨[K_15, K_17, K_34, K_35, K_19], [K_15h, K_17h, K_34h, K_35h, K_19h], [], 48, 0, [0, 1, 2, 3, 6, 7, 8, 9, 10, 11, 12, 17, 42, 47], [17, 38, 42, 47]⟩ (fun | 10 => [0, 1, 2, 3, 4] | _ => []) (by kernel_rfl) ?_)
  simp only [Try.f10, stripX, stripOps, pickOps]
  simp [K_15_f, K_15_e, K_17_f, K_17_e, K_34_f, K_34_e, K_35_f, K_35_e, K_19_f, K_19_e, K_15h_f, K_15h_e, K_17h_f, K_17h_e, K_34h_f, K_34h_e, K_35h_f, K_35h_e, K_19h_f, K_19h_e, K_15h_g, K_17h_g, K_34h_g, K_35h_g, K_19h_g, hF, ha, hb, hs, hw, sameR]
namespace fnExactSameInsts
open Go.ChangeShapes Go.WideShapes Go.RowKit
theorem own : ownKnob Try.prog.godebug = none := by kernel_rfl
theorem lifted (os : Os) (started : os.Started) (H : Type) (enc : TypeId × Value → H) :
    ReturnsInHanded {} Try.checked os 10 .any (Rows.fnExactSameInstsSpec.pre6 enc Try.prog Try.f10 Rows.fnExactSameInstsRow.domain false) (Rows.fnExactSameInstsSpec.post enc Try.prog Try.f10 false true false false) := by
  refine returnsInHanded_of_change (C := Try.checked) own started (by kernel_rfl) Try.func10
    (ChangeSpec.witness6 (enc := enc) (C := Try.checked) false ⟨#[], #[.agg #[.int .i64 0, .slice none 0 0], .int .i64 0, .int .i64 0], []⟩ 8 (by kernel_rfl) (by kernel_rfl) (by kernel_rfl) (by kernel_rfl)) ?_
  intro W base args ds gs before hval hW hcnd _
  have hW' := hW
  obtain ⟨p, q, hA, hV, _, _, _⟩ := hW
  rw [Try.params10] at hA hval
  obtain ⟨v0, vs0, d0, ds0, p0, q0, hargs, rfl, rfl, h0, r0⟩ := trodAll_cons hA
  obtain ⟨v1, vs1, d1, ds1, p1, q1, rfl, rfl, rfl, h1, r1⟩ := trodAll_cons r0
  obtain ⟨v2, vs2, d2, ds2, p2, q2, rfl, rfl, rfl, h2, r2⟩ := trodAll_cons r1
  obtain ⟨rfl, rfl, rfl⟩ := trodAll_nil r2
  obtain rfl : args = #[v0, v1, v2] := by cases args; simp_all
  obtain ⟨F, hF, hv0⟩ := arg_of rd_Func (hval 0 27 v0 rfl rfl) h0
  obtain ⟨a, ha, hv1⟩ := arg_of rd_int (hval 1 3 v1 rfl rfl) h1
  obtain ⟨b, hb, hv2⟩ := arg_of rd_int (hval 2 3 v2 rfl rfl) h2
  obtain ⟨rfl, rfl⟩ := trodVars_none hV
  exact row_end (by kernel_rfl) (by kernel_rfl) (by kernel_rfl) Try.underlying4 hW' rfl rfl rfl rfl (vs := [argV F, argV a, argV b]) (by exact ⟨v0, _, rfl, hv0, ⟨v1, _, rfl, hv1, ⟨v2, _, rfl, hv2, rfl⟩⟩⟩) (law_SameInsts F a b hF ha hb)
theorem over : Rows.fnExactSameInstsRow.holds Try.pinned (OpenSpec.ofChange Rows.fnExactSameInstsSpec) :=
  OpenClaim.holds_of_wide 10 Try.f10 rfl rfl rfl rfl rfl rfl rfl ⟨rfl, rfl, rfl, rfl, rfl⟩ rfl rfl rfl rfl rfl (by kernel_rfl) Try.func10 (by kernel_rfl)
    (of_decide_eq_true (by kernel_rfl)) (by unfold Func.isWrapper; first | (rw [if_pos (by decide +kernel)]; kernel_rfl) | (rw [if_neg (by decide +kernel)]; exact ⟨rfl, rfl⟩))
    (fun os started H enc _ => lifted os started H enc)
end fnExactSameInsts
/-- The row. -/
theorem fnExactSameInsts_holds : Rows.FnExactSameInstsSaid := fnExactSameInsts.over
end Go.Proofs.Ytpakdkiceoknjaa
