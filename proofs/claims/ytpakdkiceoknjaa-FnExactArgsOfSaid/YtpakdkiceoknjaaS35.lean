/- The law ArgsOf. No condition. -/
import Derived.Test.YtpakdkiceoknjaaS34
namespace Go.Proofs.Ytpakdkiceoknjaa
set_option maxRecDepth 100000
set_option linter.unusedSimpArgs false
set_option linter.unusedVariables false
theorem law_ArgsOf (F : Func) (n : Int) (hF : Enc.good F) (hn : Enc.good n) : PureP Try.prog 6 [vFunc F, .d (.int .i64 n)] (· = .d (.bool true)) := by
  by_cases hw : szFunc F 1048576 < 0
  · refine pure_of Try.func6 en_6 rfl rfl (W_run mixed ⟨[K_15, K_17, K_22, K_24, K_19, K_27], [K_15h, K_17h, K_22h, K_24h, K_19h, K_27h], [23, 25, 26], 101, 0, [0, 1, 2, 4, 5, 6, 7, 8, 9, 10, 11, 12, 13, 14, 15, 20, 44, 49, 65, 73, 76, 92, 97, 100], [20, 40, 44, 49, 55, 61, 65, 73, 76, 88, 92, 97, 100]⟩ (fun | 10 => [0, 1, 2, 3, 4] | _ => []) (by kernel_rfl) ?_)
    simp only [Try.f6, stripX, stripOps, pickOps]
    simp [K_15_f, K_15_e, K_17_f, K_17_e, K_22_f, K_22_e, K_24_f, K_24_e, K_19_f, K_19_e, K_27_f, K_27_e, K_15h_f, K_15h_e, K_17h_f, K_17h_e, K_22h_f, K_22h_e, K_24h_f, K_24h_e, K_19h_f, K_19h_e, K_27h_f, K_27h_e, K_15h_g, K_17h_g, K_22h_g, K_24h_g, K_19h_g, K_27h_g, hF, hn, hw]
  have hs : Sm.sm F := (szok_Func F 1048576 hF (by decide) (by decide) (by omega)).1
  refine pure_of Try.func6 en_6 rfl rfl (W_runCut mixed 5 ⟨[K_15, K_17, K_22, K_24, K_19, K_27], [K_15h, K_17h, K_22h, K_24h, K_19h, K_27h], [23, 25, 26], 101, 0, [0, 1, 2, 4, 5, 6, 7, 8, 9, 10, 11, 12, 13, 14, 15, 20, 44, 49, 65, 73, 76, 92, 97, 100], [20, 40, 44, 49, 55, 61, 65, 73, 76, 88, 92, 97, 100]⟩ (fun | 10 => [0, 1, 2, 3, 4] | _ => []) (by kernel_rfl) ?_)
  simp only [Try.f6, stripCut, stripX, stripOps, pickOps]
  simp [K_15_f, K_15_e, K_17_f, K_17_e, K_22_f, K_22_e, K_24_f, K_24_e, K_19_f, K_19_e, K_27_f, K_27_e, K_15h_f, K_15h_e, K_17h_f, K_17h_e, K_22h_f, K_22h_e, K_24h_f, K_24h_e, K_19h_f, K_19h_e, K_27h_f, K_27h_e, K_15h_g, K_17h_g, K_22h_g, K_24h_g, K_19h_g, K_27h_g, hF, hn, hs, hw]
  refine W_runCut mixed 1 ⟨[K_15, K_22, K_24, K_19, K_27], [K_15h, K_22h, K_24h, K_19h, K_27h], [17, 23, 25, 26], 101, 0, [0, 1, 2, 4, 5, 6, 7, 8, 9, 10, 11, 12, 13, 14, 15, 20, 44, 49, 65, 73, 76, 92, 97, 100], [20, 40, 44, 49, 55, 61, 65, 73, 76, 88, 92, 97, 100]⟩ (fun | 10 => [0, 1, 2, 3, 4] | _ => []) (by kernel_rfl) ?_
  simp only [stripCut, stripX, stripOps, pickOps]
  simp [K_15_f, K_15_e, K_22_f, K_22_e, K_24_f, K_24_e, K_19_f, K_19_e, K_27_f, K_27_e, K_15h_f, K_15h_e, K_22h_f, K_22h_e, K_24h_f, K_24h_e, K_19h_f, K_19h_e, K_27h_f, K_27h_e, K_15h_g, K_22h_g, K_24h_g, K_19h_g, K_27h_g, hF, hn, hs]
  refine (toFunc_own _ F hs).mono ?_
  rintro r H1 ⟨A, rfl, ⟨hAv, hA⟩, hn1⟩
  have eA : A.params_ = F.params_ := congrArg Func.params_ hA
  have g0 : H1[0]? = some (.row 2 [[.d (.int .i64 F.params_), .d (dBlockS F.blocks_)]]) := hn1.only.at_ 0 (by simp) List.not_mem_nil
  have hfl := hn1.own.ok.1.flat
  have h1 := hn1.own.ok.1.scl.2
  simp [K_15_f, K_15_e, K_22_f, K_22_e, K_24_f, K_24_e, K_19_f, K_19_e, K_27_f, K_27_e, K_15h_f, K_15h_e, K_22h_f, K_22h_e, K_24h_f, K_24h_e, K_19h_f, K_19h_e, K_27h_f, K_27h_e, K_15h_g, K_22h_g, K_24h_g, K_19h_g, K_27h_g, -V.flat, -V.one, one_int, one_bool, one_str, one_nilp, one_rp, one_nilsl, one_ro, one_cl, one_nilf, one_nili, one_ifc, one_ptr, one_sl, one_clo, flat_d, flat_ptr, flat_sl, flat_clo, flat_agg, hfl, h1]
  have ho1 : Own (H1 ++ [.row 2 [[.d (.int .i64 A.params_), A.blocks_.v]]]) A := hn1.own.frame (Only.app [] _ _) fun j _ hj => absurd hj List.not_mem_nil
  refine W_run mixed ⟨[K_15, K_17, K_22], [K_15h, K_17h, K_22h, K_24h, K_19h, K_27h], [23, 1000019, 25, 26], 101, 0, [0, 1, 2, 4, 5, 6, 7, 8, 9, 10, 11, 12, 13, 14, 15, 20, 44, 49, 65, 73, 76, 92, 97, 100], [20, 40, 44, 49, 55, 61, 65, 73, 76, 88, 92, 97, 100]⟩ (fun | 10 => [0, 1, 2, 3, 4] | _ => []) (by kernel_rfl) ?_
  simp only [stripX, stripOps, pickOps]
  simp [K_15_f, K_15_e, K_17_f, K_17_e, K_22_f, K_22_e, K_15h_f, K_15h_e, K_17h_f, K_17h_e, K_22h_f, K_22h_e, K_24h_f, K_24h_e, K_19h_f, K_19h_e, K_27h_f, K_27h_e, K_15h_g, K_17h_g, K_22h_g, K_24h_g, K_19h_g, K_27h_g, -V.flat, -V.one, one_int, one_bool, one_str, one_nilp, one_rp, one_nilsl, one_ro, one_cl, one_nilf, one_nili, one_ifc, one_ptr, one_sl, one_clo, flat_d, flat_ptr, flat_sl, flat_clo, flat_agg, hF, hn, hs, hAv]
  rw [hAv] at ho1
  have hl1 : 1 ≤ H1.length := hn1.only.len
  have hrd : Reads1 (H1 ++ [.row 2 [[.d (.int .i64 A.params_), .sl A.blocks_.id 5 0 F.blocks_.length]]]) [.agg [.d (.int .i64 A.params_), .sl A.blocks_.id 5 0 F.blocks_.length], .d (.int .i64 n)] [vFunc F, .d (.int .i64 n)] := by
    have := Rd1.aggs ho1 rfl
    rw [cells_AFunc, hAv, hA] at this
    exact Rd1.list ⟨this, Rd1.d, trivial⟩
  refine (CallsD.peekN (T := fun r (s : AS Int) => r = .tup [s.v, .d (.bool (isVal F n))] ∧ s.l = argL F n) ((argsI_own (deads _) F n hF hn).mono fun r H' ⟨s, q1, q2, q3⟩ => ⟨s, ⟨q1, q2⟩, q3⟩) hrd ?_).mono ?_
  · rintro r s hok ⟨rfl, _⟩
    show (s.v.scl2 && (true && true)) = true
    rw [hok.1.scl.1]; rfl
  rintro r H2 ⟨s, ⟨rfl, hsl⟩, hn2⟩
  have k0 : H2[0]? = some (.row 2 [[.d (.int .i64 F.params_), .d (dBlockS F.blocks_)]]) := (hn2.only.at_ 0 (by simp) List.not_mem_nil).trans ((List.getElem?_append_left (by omega)).trans g0)
  have k8 : H2[H1.length]? = some (.row 2 [[.d (.int .i64 A.params_), .sl A.blocks_.id 5 0 F.blocks_.length]]) := (hn2.only.at_ _ (by simp) List.not_mem_nil).trans List.getElem?_concat_length
  have hA2 : Own H2 A := ho1.frame hn2.only fun j _ hj => absurd hj List.not_mem_nil
  have d9 : decA (α := List Int) H2 s.v = (True, argL F n) := by rw [decA_S hn2.own, era_AS_ints, hsl]
  have dA : decA (α := Func) H2 (.agg [.d (.int .i64 A.params_), .sl A.blocks_.id 5 0 F.blocks_.length]) = (True, F) := by
    have := decA_A hA2 rfl
    rw [cells_AFunc, hAv, hA] at this
    exact this
  have dF : decA (α := Func) H2 (.agg [.d (.int .i64 F.params_), .d (dBlockS F.blocks_)]) = (True, F) := Prod.ext (eq_true ⟨rfl, trivial, of_eq_true (congrArg Prod.fst (dec_ro (α := Block) (H := H2) (l := F.blocks_)))⟩) (congrArg (Func.mk F.params_) (congrArg Prod.snd (dec_ro (α := Block) (H := H2) (l := F.blocks_))))
  have d6 : decA (α := List Int) H2 (.d (dIntS (argL F n))) = (True, argL F n) := decA_ro
  have sl : Sm.sm (argL F n) := small_ints (Nat.le_trans argL_len (by decide))
  simp [K_15_f, K_15_e, K_17_f, K_17_e, K_22_f, K_22_e, K_15h_f, K_15h_e, K_17h_f, K_17h_e, K_22h_f, K_22h_e, K_24h_f, K_24h_e, K_19h_f, K_19h_e, K_27h_f, K_27h_e, K_15h_g, K_17h_g, K_22h_g, K_24h_g, K_19h_g, K_27h_g, -V.flat, -V.one, one_int, one_bool, one_str, one_nilp, one_rp, one_nilsl, one_ro, one_cl, one_nilf, one_nili, one_ifc, one_ptr, one_sl, one_clo, flat_d, flat_ptr, flat_sl, flat_clo, flat_agg, -decA, decA_int, decA_bool, decA_str, hF, hn, hs, hAv, k0, k8, d9, dA, dF, d6, sl]
  have hle := mFunc_le hs 1
  have hm := markFunc_own H2 A 1 hA2 (by decide) (by rw [hA]; omega) (by
    have := small_len hs.2
    have e := congrArg (fun q => List.length (Func.blocks_ q)) hA
    have e2 : A.blocks_.l.length = F.blocks_.length := by rw [← e]; exact (List.length_map _).symm
    omega)
  rw [cells_AFunc, hAv] at hm
  refine hm.mono ?_
  rintro r H3 ⟨rfl, A3, hA3, i3, c3, o3, _⟩
  have hk0 : 1 ≤ (mFunc F 1).2 := mBlock_mono F.blocks_ 1
  rw [hA]
  have n0 : ∀ j ∈ ids A, 1 ≤ j ∧ j < H1.length := fun j hj => ⟨hn1.fresh j hj, hn1.own.lt hj⟩
  have hH1 : H1.length < H2.length := by have := hn2.only.len; simp at this; omega
  have k0' : H3[0]? = some (.row 2 [[.d (.int .i64 F.params_), .d (dBlockS F.blocks_)]]) := (o3.at_ 0 (by omega) fun hj => by have := n0 0 hj; omega).trans k0
  have hs3 : Own H3 s := hn2.own.frame o3 fun j hj hk => by
    have a1 := hn2.fresh j hj
    have a2 := n0 j hk
    simp at a1; omega
  have d9' : decA (α := List Int) H3 s.v = (True, argL F n) := by rw [decA_S hs3, era_AS_ints, hsl]
  have d6' : decA (α := List Int) H3 (.d (dIntS (argL F n))) = (True, argL F n) := decA_ro
  have hk1 : ¬ (mFunc F 1).2 < 0 := by omega
  simp [K_15_f, K_15_e, K_17_f, K_17_e, K_22_f, K_22_e, K_15h_f, K_15h_e, K_17h_f, K_17h_e, K_22h_f, K_22h_e, K_24h_f, K_24h_e, K_19h_f, K_19h_e, K_27h_f, K_27h_e, K_15h_g, K_17h_g, K_22h_g, K_24h_g, K_19h_g, K_27h_g, -V.flat, -V.one, one_int, one_bool, one_str, one_nilp, one_rp, one_nilsl, one_ro, one_cl, one_nilf, one_nili, one_ifc, one_ptr, one_sl, one_clo, flat_d, flat_ptr, flat_sl, flat_clo, flat_agg, -decA, decA_int, decA_bool, decA_str, hF, hn, hs, k0', d9', d6', sl, hk1]
  have hal := argL_len (F := F) (n := n)
  have hbd : (mkL mI (argL F n) 1).2 ≤ 4000000000000000000 := by rw [len_mI]; omega
  have hps : ¬ (mkL mI (argL F n) 1).2 < 0 := by rw [len_mI]; omega
  have hid : mkL mI (mkL mI (argL F n) 1).1 1 = mkL mI (argL F n) 1 := mkL_idem (fun x k => rfl) _ _
  refine (markIntS_own H3 s 1 hs3 (by decide) (by rw [hsl]; exact hbd) (by rw [hsl]; omega)).mono ?_
  rintro r H4 ⟨rfl, s4, hm4, hs4⟩
  rw [hsl] at hs4 ⊢
  have v4 : s4.v = s.v := List.head_eq_of_cons_eq hm4.cells
  have i4 : ∀ j ∈ ids s, 1 ≤ j := fun j hj => by have := hn2.fresh j hj; simp at this; omega
  have k04 : H4[0]? = some (.row 2 [[.d (.int .i64 F.params_), .d (dBlockS F.blocks_)]]) := (hm4.only.at_ 0 (by have := o3.len; omega) fun hj => by have := i4 0 hj; omega).trans k0'
  have d94 : decA (α := List Int) H4 s.v = (True, (mkL mI (argL F n) 1).1) := by rw [← v4, decA_S hm4.own, era_AS_ints, hs4]
  simp [K_15_f, K_15_e, K_17_f, K_17_e, K_22_f, K_22_e, K_15h_f, K_15h_e, K_17h_f, K_17h_e, K_22h_f, K_22h_e, K_24h_f, K_24h_e, K_19h_f, K_19h_e, K_27h_f, K_27h_e, K_15h_g, K_17h_g, K_22h_g, K_24h_g, K_19h_g, K_27h_g, -V.flat, -V.one, one_int, one_bool, one_str, one_nilp, one_rp, one_nilsl, one_ro, one_cl, one_nilf, one_nili, one_ifc, one_ptr, one_sl, one_clo, flat_d, flat_ptr, flat_sl, flat_clo, flat_agg, -decA, decA_int, decA_bool, decA_str, hF, hn, hs, k04, d94, sl, hid, hbd, hps]
  refine (argsI_own H4 F n hF hn).mono ?_
  rintro r H5 ⟨s5, rfl, hs5, hn5⟩
  have d95 : decA (α := List Int) H5 s.v = (True, (mkL mI (argL F n) 1).1) := by rw [← v4, decA_S (hm4.own.frame hn5.only fun j _ hj => absurd hj List.not_mem_nil), era_AS_ints, hs4]
  have d55 : decA (α := List Int) H5 s5.v = (True, argL F n) := by rw [decA_S hn5.own, era_AS_ints, hs5]
  have d65 : decA (α := List Int) H5 (.d (dIntS (argL F n))) = (True, argL F n) := decA_ro
  simp [K_15_f, K_15_e, K_17_f, K_17_e, K_22_f, K_22_e, K_15h_f, K_15h_e, K_17h_f, K_17h_e, K_22h_f, K_22h_e, K_24h_f, K_24h_e, K_19h_f, K_19h_e, K_27h_f, K_27h_e, K_15h_g, K_17h_g, K_22h_g, K_24h_g, K_19h_g, K_27h_g, -V.flat, -V.one, one_int, one_bool, one_str, one_nilp, one_rp, one_nilsl, one_ro, one_cl, one_nilf, one_nili, one_ifc, one_ptr, one_sl, one_clo, flat_d, flat_ptr, flat_sl, flat_clo, flat_agg, -decA, decA_int, decA_bool, decA_str, hF, hn, hs, d95, d55, d65, sl, hid, hbd, hps]
namespace fnExactArgsOf
open Go.ChangeShapes Go.WideShapes Go.RowKit
theorem own : ownKnob Try.prog.godebug = none := by kernel_rfl
theorem lifted (os : Os) (started : os.Started) (H : Type) (enc : TypeId × Value → H) :
    ReturnsInHanded {} Try.checked os 6 .any (Rows.fnExactArgsOfSpec.pre6 enc Try.prog Try.f6 Rows.fnExactArgsOfRow.domain false) (Rows.fnExactArgsOfSpec.post enc Try.prog Try.f6 false true false false) := by
  refine returnsInHanded_of_change (C := Try.checked) own started (by kernel_rfl) Try.func6
    (ChangeSpec.witness6 (enc := enc) (C := Try.checked) false ⟨#[], #[.agg #[.int .i64 0, .slice none 0 0], .int .i64 0], []⟩ 8 (by kernel_rfl) (by kernel_rfl) (by kernel_rfl) (by kernel_rfl)) ?_
  intro W base args ds gs before hval hW hcnd _
  have hW' := hW
  obtain ⟨p, q, hA, hV, _, _, _⟩ := hW
  rw [Try.params6] at hA hval
  obtain ⟨v0, vs0, d0, ds0, p0, q0, hargs, rfl, rfl, h0, r0⟩ := trodAll_cons hA
  obtain ⟨v1, vs1, d1, ds1, p1, q1, rfl, rfl, rfl, h1, r1⟩ := trodAll_cons r0
  obtain ⟨rfl, rfl, rfl⟩ := trodAll_nil r1
  obtain rfl : args = #[v0, v1] := by cases args; simp_all
  obtain ⟨F, hF, hv0⟩ := arg_of rd_Func (hval 0 27 v0 rfl rfl) h0
  obtain ⟨n, hn, hv1⟩ := arg_of rd_int (hval 1 3 v1 rfl rfl) h1
  obtain ⟨rfl, rfl⟩ := trodVars_none hV
  exact row_end (by kernel_rfl) (by kernel_rfl) (by kernel_rfl) Try.underlying4 hW' rfl rfl rfl rfl (vs := [argV F, argV n]) (by exact ⟨v0, _, rfl, hv0, ⟨v1, _, rfl, hv1, rfl⟩⟩) (law_ArgsOf F n hF hn)
theorem over : Rows.fnExactArgsOfRow.holds Try.pinned (OpenSpec.ofChange Rows.fnExactArgsOfSpec) :=
  OpenClaim.holds_of_wide 6 Try.f6 rfl rfl rfl rfl rfl rfl rfl ⟨rfl, rfl, rfl, rfl, rfl⟩ rfl rfl rfl rfl rfl (by kernel_rfl) Try.func6 (by kernel_rfl)
    (of_decide_eq_true (by kernel_rfl)) (by unfold Func.isWrapper; first | (rw [if_pos (by decide +kernel)]; kernel_rfl) | (rw [if_neg (by decide +kernel)]; exact ⟨rfl, rfl⟩))
    (fun os started H enc _ => lifted os started H enc)
end fnExactArgsOf
/-- The row. -/
theorem fnExactArgsOf_holds : Rows.FnExactArgsOfSaid := fnExactArgsOf.over
end Go.Proofs.Ytpakdkiceoknjaa
