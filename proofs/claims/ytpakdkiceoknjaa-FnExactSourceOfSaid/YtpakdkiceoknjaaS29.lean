/- The law SourceOf. No condition. -/
import Derived.Test.YtpakdkiceoknjaaS26
namespace Go.Proofs.Ytpakdkiceoknjaa
set_option maxRecDepth 100000
set_option linter.unusedSimpArgs false
set_option linter.unusedVariables false
theorem law_SourceOf (F : Func) (n : Int) (hF : Enc.good F) (hn : Enc.good n) : PureP Try.prog 11 [vFunc F, .d (.int .i64 n)] (· = .d (.bool true)) := by
  by_cases hw : szFunc F 1048576 < 0
  · refine pure_of Try.func11 en_11 rfl rfl (W_run mixed ⟨[K_15, K_17, K_36, K_37, K_19], [K_15h, K_17h, K_36h, K_37h, K_19h], [], 44, 0, [0, 1, 2, 4, 5, 6, 7, 8, 9, 10, 15, 38, 43], [15, 34, 38, 43]⟩ (fun | 10 => [0, 1, 2, 3, 4] | _ => []) (by kernel_rfl) ?_)
    simp only [Try.f11, stripX, stripOps, pickOps]
    simp [K_15_f, K_15_e, K_17_f, K_17_e, K_36_f, K_36_e, K_37_f, K_37_e, K_19_f, K_19_e, K_15h_f, K_15h_e, K_17h_f, K_17h_e, K_36h_f, K_36h_e, K_37h_f, K_37h_e, K_19h_f, K_19h_e, K_15h_g, K_17h_g, K_36h_g, K_37h_g, K_19h_g, hF, hn, hw]
  have hs : Sm.sm F := (szok_Func F 1048576 hF (by decide) (by decide) (by omega)).1
  cases hl : (askV F n && decide (0 ≤ srcS F n)) with
  | true => refine pure_of Try.func11 en_11 rfl rfl (W_run mixed ⟨[K_15, K_17, K_36, K_37, K_19], [K_15h, K_17h, K_36h, K_37h, K_19h], [], 44, 0, [0, 1, 2, 4, 5, 6, 7, 8, 9, 10, 15, 38, 43], [15, 34, 38, 43]⟩ (fun | 10 => [0, 1, 2, 3, 4] | _ => []) (by kernel_rfl) ?_)
            simp only [Try.f11, stripX, stripOps, pickOps]
            simp [K_15_f, K_15_e, K_17_f, K_17_e, K_36_f, K_36_e, K_37_f, K_37_e, K_19_f, K_19_e, K_15h_f, K_15h_e, K_17h_f, K_17h_e, K_36h_f, K_36h_e, K_37h_f, K_37h_e, K_19h_f, K_19h_e, K_15h_g, K_17h_g, K_36h_g, K_37h_g, K_19h_g, hF, hn, hs, hw, foundR, hl]
  | false => refine pure_of Try.func11 en_11 rfl rfl (W_run mixed ⟨[K_15, K_17, K_36, K_37, K_19], [K_15h, K_17h, K_36h, K_37h, K_19h], [], 44, 0, [0, 1, 2, 4, 5, 6, 7, 8, 9, 10, 15, 38, 43], [15, 34, 38, 43]⟩ (fun | 10 => [0, 1, 2, 3, 4] | _ => []) (by kernel_rfl) ?_)
             simp only [Try.f11, stripX, stripOps, pickOps]
             simp [K_15_f, K_15_e, K_17_f, K_17_e, K_36_f, K_36_e, K_37_f, K_37_e, K_19_f, K_19_e, K_15h_f, K_15h_e, K_17h_f, K_17h_e, K_36h_f, K_36h_e, K_37h_f, K_37h_e, K_19h_f, K_19h_e, K_15h_g, K_17h_g, K_36h_g, K_37h_g, K_19h_g, hF, hn, hs, hw, foundR, hl]
namespace fnExactSourceOf
open Go.ChangeShapes Go.WideShapes Go.RowKit
theorem own : ownKnob Try.prog.godebug = none := by kernel_rfl
theorem lifted (os : Os) (started : os.Started) (H : Type) (enc : TypeId × Value → H) :
    ReturnsInHanded {} Try.checked os 11 .any (Rows.fnExactSourceOfSpec.pre6 enc Try.prog Try.f11 Rows.fnExactSourceOfRow.domain false) (Rows.fnExactSourceOfSpec.post enc Try.prog Try.f11 false true false false) := by
  refine returnsInHanded_of_change (C := Try.checked) own started (by kernel_rfl) Try.func11
    (ChangeSpec.witness6 (enc := enc) (C := Try.checked) false ⟨#[], #[.agg #[.int .i64 0, .slice none 0 0], .int .i64 0], []⟩ 8 (by kernel_rfl) (by kernel_rfl) (by kernel_rfl) (by kernel_rfl)) ?_
  intro W base args ds gs before hval hW hcnd _
  have hW' := hW
  obtain ⟨p, q, hA, hV, _, _, _⟩ := hW
  rw [Try.params11] at hA hval
  obtain ⟨v0, vs0, d0, ds0, p0, q0, hargs, rfl, rfl, h0, r0⟩ := trodAll_cons hA
  obtain ⟨v1, vs1, d1, ds1, p1, q1, rfl, rfl, rfl, h1, r1⟩ := trodAll_cons r0
  obtain ⟨rfl, rfl, rfl⟩ := trodAll_nil r1
  obtain rfl : args = #[v0, v1] := by cases args; simp_all
  obtain ⟨F, hF, hv0⟩ := arg_of rd_Func (hval 0 27 v0 rfl rfl) h0
  obtain ⟨n, hn, hv1⟩ := arg_of rd_int (hval 1 3 v1 rfl rfl) h1
  obtain ⟨rfl, rfl⟩ := trodVars_none hV
  exact row_end (by kernel_rfl) (by kernel_rfl) (by kernel_rfl) Try.underlying4 hW' rfl rfl rfl rfl (vs := [argV F, argV n]) (by exact ⟨v0, _, rfl, hv0, ⟨v1, _, rfl, hv1, rfl⟩⟩) (law_SourceOf F n hF hn)
theorem over : Rows.fnExactSourceOfRow.holds Try.pinned (OpenSpec.ofChange Rows.fnExactSourceOfSpec) :=
  OpenClaim.holds_of_wide 11 Try.f11 rfl rfl rfl rfl rfl rfl rfl ⟨rfl, rfl, rfl, rfl, rfl⟩ rfl rfl rfl rfl rfl (by kernel_rfl) Try.func11 (by kernel_rfl)
    (of_decide_eq_true (by kernel_rfl)) (by unfold Func.isWrapper; first | (rw [if_pos (by decide +kernel)]; kernel_rfl) | (rw [if_neg (by decide +kernel)]; exact ⟨rfl, rfl⟩))
    (fun os started H enc _ => lifted os started H enc)
end fnExactSourceOf
/-- The row. -/
theorem fnExactSourceOf_holds : Rows.FnExactSourceOfSaid := fnExactSourceOf.over
end Go.Proofs.Ytpakdkiceoknjaa
