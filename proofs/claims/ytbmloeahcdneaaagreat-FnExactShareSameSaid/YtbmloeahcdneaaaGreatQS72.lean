/- The law ShareSame. No condition. -/
import Derived.Test.YtbmloeahcdneaaaGreatRows
import Derived.Test.YtbmloeahcdneaaaGreatQRd
import Derived.Test.YtbmloeahcdneaaaGreatQS66
import Derived.Test.YtbmloeahcdneaaaGreatQS67
import Derived.Test.YtbmloeahcdneaaaGreatQS68
import Derived.Test.YtbmloeahcdneaaaGreatQS63
import Derived.Test.YtbmloeahcdneaaaGreatQS36
section
namespace Go.Proofs.YtbmloeahcdneaaaGreat
set_option maxRecDepth 100000
set_option linter.unusedSimpArgs false
set_option linter.unusedVariables false
theorem shareSame_pass : PassOwn 67 (raG earS) (raK earS) := fun H A idf q => by
  refine calls_of Tryz.func67 en_67 rfl (of_decide_eq_true rfl) (W_run mixed ⟨[K_124], [K_124h], [119], 5, H.length, [0, 2], []⟩ (fun _ => []) (by kernel_rfl) ?_)
  simp only [Tryz.f67, stripX, stripOps, pickOps]
  simp [K_124_f, K_124_e, K_124h_f, K_124h_e, K_124h_g, -V.flat, -V.one, one_int, one_bool, one_str, one_nilp, one_rp, one_nilsl, one_ro, one_cl, one_nilf, one_nili, one_ifc, one_ptr, one_sl, one_clo, flat_d, flat_ptr, flat_sl, flat_clo, flat_agg, retQ]
  refine (redirectAll_own earS_ways earS_lt (by decide) _ A idf q).mono ?_
  rintro r H' ⟨A', rfl, e, pr⟩
  simp [K_124_f, K_124_e, K_124h_f, K_124h_e, K_124h_g, -V.flat, -V.one, one_int, one_bool, one_str, one_nilp, one_rp, one_nilsl, one_ro, one_cl, one_nilf, one_nili, one_ifc, one_ptr, one_sl, one_clo, flat_d, flat_ptr, flat_sl, flat_clo, flat_agg, retQ]
  exact ⟨_, _, Fin.same pr.only.len, rfl, A', e, pr⟩
theorem l16Share_c (F : Func) (hF : Enc.good F) (hg : goodF F = true) : PureP Tryz.prog 66 [vFunc F] (· = .tup [vFunc (raG earS F), .d (.int .i64 (raK earS F))]) := by
  obtain ⟨m0, m80⟩ := many_rng hg
  refine pure_of Tryz.func66 en_66 rfl rfl (W_run mixed ⟨[K_98, K_80, K_123, K_44], [K_98h, K_80h, K_123h, K_44h], [], 29, 0, [0, 1, 2, 3, 4, 5, 6, 7, 13, 20], [13, 20]⟩ (fun _ => []) (by kernel_rfl) ?_)
  simp only [Tryz.f66, stripX, stripOps, pickOps]
  simp [K_98_f, K_98_e, K_80_f, K_80_e, K_123_f, K_123_e, K_44_f, K_44_e, K_98h_f, K_98h_e, K_80h_f, K_80h_e, K_123h_f, K_123h_e, K_44h_f, K_44h_e, K_98h_g, K_80h_g, K_123h_g, K_44h_g, hF, hg]
  refine W_loopA (fun a : Nat × Func × Int => [(2, .ptr 1 2 0 0), (4, .ptr 2 2 0 0), (5, .d (.int .i64 a.2.2)), (6, .d (.int .i64 a.1))]) (fun a => [.row 2 [[.d (.int .i64 F.params_), .d (dBlockS F.blocks_)]], .row 2 [[.d (.int .i64 0), .d .nilsl]], .row 2 [[.d (.int .i64 a.2.1.params_), .d (dBlockS a.2.1.blocks_)]]])
    (fun a => (a.1 : Int) ≤ many F ∧ (0 ≤ a.2.2 ∧ a.2.2 ≤ a.1) ∧ Enc.good a.2.1 ∧ a.2 = (List.range a.1).foldl (raS earS) (F, 0)) (fun a => (many F).toNat - a.1) (0, F, 0) ?_ ?_ ?_
  · simp
  · exact ⟨by simp only []; omega, ⟨Int.le_refl 0, by simp⟩, hF, rfl⟩
  rintro ⟨k, F1, m1⟩ ⟨hk, hm1, hF1, he⟩
  simp only [] at hk hm1 hF1 he
  obtain ⟨g1, g2⟩ := raF_good earS_lt hg k (by omega)
  rw [← he] at g1 g2
  simp only [] at g1 g2
  have gc : cntB F1.blocks_ F1.params_ = many F := g2
  have wk : (k : Int) < many F → IntKind.i64.wrap ((k : Int) + 1) = ((k + 1 : Nat) : Int) := fun h => by rw [wrap_id] <;> omega
  have hst : (List.range (k + 1)).foldl (raS earS) (F, 0) = raS earS (F1, m1) k := by rw [List.range_succ, List.foldl_append, ← he]; rfl
  by_cases hin : (k : Int) < many F
  · have hv : isVal F1 k = true := isVal_of g1 (by omega) (by rw [g2]; exact hin)
    have hgm : many F1 = many F := g2
    have hh : (k : Int) < many F1 := by rw [g2]; exact hin
    have wk' := wk hin
    have wm : IntKind.i64.wrap (m1 + 1) = m1 + 1 := wrap_id (by omega) (by omega)
    have htl := earS_lt F1 k g1 (by omega) hh
    by_cases hto : 0 ≤ earS F1 k
    · refine W_run mixed ⟨[K_98, K_80, K_123, K_44], [K_98h, K_80h, K_123h, K_44h], [], 29, 0, [0, 1, 2, 3, 4, 5, 6, 7, 13, 20], [13, 20]⟩ (fun _ => []) (by kernel_rfl) ?_
      simp only [stripX, stripOps, pickOps]
      simp [K_98_f, K_98_e, K_80_f, K_80_e, K_123_f, K_123_e, K_44_f, K_44_e, K_98h_f, K_98h_e, K_80h_f, K_80h_e, K_123h_f, K_123h_e, K_44h_f, K_44h_e, K_98h_g, K_80h_g, K_123h_g, K_44h_g, hF1, g1, gc, hin, hv, hh, hto]
      have hst2 : (mpF (rdG k (earS F1 k)) F1, m1 + 1) = (List.range (k + 1)).foldl (raS earS) (F, 0) := by rw [hst]; exact (if_pos hto).symm
      exact ⟨k + 1, _, _, ⟨by omega, ⟨by omega, by omega⟩, mpF_enc hF1 fun x hx => by unfold rdG; split; exact ⟨by omega, by omega⟩; exact hx, hst2⟩, by omega, ⟨rfl, rfl, rfl⟩, wm, wk'⟩
    · refine W_run mixed ⟨[K_98, K_80, K_123, K_44], [K_98h, K_80h, K_123h, K_44h], [], 29, 0, [0, 1, 2, 3, 4, 5, 6, 7, 13, 20], [13, 20]⟩ (fun _ => []) (by kernel_rfl) ?_
      simp only [stripX, stripOps, pickOps]
      simp [K_98_f, K_98_e, K_80_f, K_80_e, K_123_f, K_123_e, K_44_f, K_44_e, K_98h_f, K_98h_e, K_80h_f, K_80h_e, K_123h_f, K_123h_e, K_44h_f, K_44h_e, K_98h_g, K_80h_g, K_123h_g, K_44h_g, hF1, g1, gc, hin, hv, hh, hto]
      have hst2 : (F1, m1) = (List.range (k + 1)).foldl (raS earS) (F, 0) := by rw [hst]; exact (if_neg hto).symm
      exact ⟨k + 1, _, _, ⟨by omega, ⟨by omega, by omega⟩, hF1, hst2⟩, by omega, ⟨rfl, rfl, rfl⟩, rfl, wk'⟩
  · refine W_run mixed ⟨[K_98, K_80, K_123, K_44], [K_98h, K_80h, K_123h, K_44h], [], 29, 0, [0, 1, 2, 3, 4, 5, 6, 7, 13, 20], [13, 20]⟩ (fun _ => []) (by kernel_rfl) ?_
    simp only [stripX, stripOps, pickOps]
    simp [K_98_f, K_98_e, K_80_f, K_80_e, K_123_f, K_123_e, K_44_f, K_44_e, K_98h_f, K_98h_e, K_80h_f, K_80h_e, K_123h_f, K_123h_e, K_44h_f, K_44h_e, K_98h_g, K_80h_g, K_123h_g, K_44h_g, hF1, g1, gc, hin]
    have e : k = (many F).toNat := by omega
    rw [e] at he
    have e1 : F1 = raG earS F := congrArg Prod.fst he
    have e2 : m1 = raK earS F := congrArg Prod.snd he
    rw [e1, e2]
    exact ⟨⟨rfl, rfl, rfl⟩, rfl⟩
noncomputable def K_66 : Ent Tryz.prog := Ent.p1 (α := Func) 66 (fun F => Enc.good F ∧ goodF F = true) (fun F => .tup [vFunc (raG earS F), .d (.int .i64 (raK earS F))]) (fun F hc => l16Share_c F hc.1 hc.2)
theorem K_66_f : K_66.f = 66 := rfl
theorem K_66_e (F0 : Int) (F1 : List Block) : K_66.e [.agg [.d (.int .i64 F0), .d (dBlockS F1)]] = some (Enc.good (Func.mk F0 F1) ∧ goodF (Func.mk F0 F1) = true, .tup [vFunc (raG earS (Func.mk F0 F1)), .d (.int .i64 (raK earS (Func.mk F0 F1)))], []) := by unfold K_66; exact Ent.p1_eq (α := Func) (Func.mk F0 F1)
noncomputable def K_66h : EntH Tryz.prog := EntH.pk1 (α := Func) 66 (fun F => Enc.good F ∧ goodF F = true) (fun F => .tup [vFunc (raG earS F), .d (.int .i64 (raK earS F))]) (fun F => []) (fun F hc => PureP.ans (l16Share_c F hc.1 hc.2))
theorem K_66h_f : K_66h.f = 66 := rfl
theorem K_66h_g : K_66h.gro = true := rfl
theorem K_66h_e {x1 : V} {H : Heap} : K_66h.e [x1] H = guardR ((decA (α := Func) H x1).1) (peekR (Enc.good (decA (α := Func) H x1).2 ∧ goodF (decA (α := Func) H x1).2 = true) (.tup [vFunc (raG earS (decA (α := Func) H x1).2), .d (.int .i64 (raK earS (decA (α := Func) H x1).2))]) ([]) H) := rfl
end Go.Proofs.YtbmloeahcdneaaaGreat
end

section
namespace Go.Proofs.YtbmloeahcdneaaaGreat
set_option maxRecDepth 100000
set_option linter.unusedSimpArgs false
set_option linter.unusedVariables false
theorem imShareSame_own (H : Heap) (F : Func) (hF : Enc.good F) : CallsD Tryz.prog 34 [vFunc F] H fun r H' => ∃ A : AFunc, r = .tup [.agg (Tr.cells A), .d (.int .i64 (paK (raK earS) F)), .d (.bool (soundF F))] ∧ Tr.era A = paF (raG earS) F ∧ New H H' A := by
  refine calls_of Tryz.func34 en_34 rfl (of_decide_eq_true rfl) (W_run mixed ⟨[], [], [54, 67], 10, H.length, [0, 1, 2, 3, 4], []⟩ (fun _ => []) (by kernel_rfl) ?_)
  simp only [Tryz.f34, stripX, stripOps, pickOps]
  simp [-V.flat, -V.one, one_int, one_bool, one_str, one_nilp, one_rp, one_nilsl, one_ro, one_cl, one_nilf, one_nili, one_ifc, one_ptr, one_sl, one_clo, flat_d, flat_ptr, flat_sl, flat_clo, flat_agg, hF, retQ]
  refine (passed_own shareSame_pass (by decide) _ F hF).mono ?_
  rintro r H1 ⟨A, rfl, hA, hn⟩
  have hfl := hn.own.ok.1.flat
  have hone := hn.own.ok.1.scl.2
  have hge : ∀ j ∈ ids A, H.length + 2 ≤ j := fun j hj => by have := hn.fresh j hj; simp at this; omega
  have hl := hn.only.len
  simp only [List.length_append, List.length_cons, List.length_nil] at hl
  have k6 : H1[H.length + 1]? = some (.row 2 [[.d (.int .i64 0), .d .nilsl]]) := (hn.only.at_ _ (by simp) List.not_mem_nil).trans (by simp)
  have s6 : ∀ p, (H1.set (H.length + 1) p)[H.length + 1]? = some p := fun p => List.getElem?_set_self (by omega)
  simp [-V.flat, -V.one, one_int, one_bool, one_str, one_nilp, one_rp, one_nilsl, one_ro, one_cl, one_nilf, one_nili, one_ifc, one_ptr, one_sl, one_clo, flat_d, flat_ptr, flat_sl, flat_clo, flat_agg, hfl, hone, k6, s6, retQ]
  refine fin_new (a := A) (hn.own.frame (S := [H.length + 1]) Only.set fun j hj q => by have := hge j hj; simp at q; omega) ⟨by simp; omega, fun j hj _ => ?_⟩ (fun j hj => by have := hge j hj; omega) fun H' h' => ⟨A, rfl, hA, h'⟩
  rw [List.getElem?_set_ne (by omega)]
  exact (hn.only.at_ j (by simp; omega) List.not_mem_nil).trans (List.getElem?_append_left hj)
theorem spShareSame_c (F : Func) (hF : Enc.good F) : PureP Tryz.prog 33 [vFunc F] (· = .tup [vFunc (paF (raG earS) F), .d (.int .i64 (paK (raK earS) F)), .d (.bool (soundF F))]) := by
  cases hs : soundF F with
  | false =>
    have e1 : paK (raK earS) F = 0 := by simp [paK, hs]
    have e2 : paF (raG earS) F = ⟨0, []⟩ := by simp [paF, hs]
    refine PureP.le (pure_of Tryz.func33 en_33 rfl rfl (W_run mixed ⟨[K_42, K_66], [K_42h, K_66h], [], 18, 0, [0, 1, 2, 3, 4, 5, 6, 9], [9]⟩ (fun _ => []) (by kernel_rfl) ?_))
    simp only [Tryz.f33, stripX, stripOps, pickOps]
    simp [K_42_f, K_42_e, K_66_f, K_66_e, K_42h_f, K_42h_e, K_66h_f, K_66h_e, K_42h_g, K_66h_g, hF, hs]
    simp [e1, e2, VLe, VLes, DLe]
  | true =>
    have hg := sound_good hs
    have e1 : paK (raK earS) F = (raK earS) F := by simp [paK, hs]
    have e2 : paF (raG earS) F = (raG earS) F := by simp [paF, hs]
    refine pure_of Tryz.func33 en_33 rfl rfl (W_run mixed ⟨[K_42, K_66], [K_42h, K_66h], [], 18, 0, [0, 1, 2, 3, 4, 5, 6, 9], [9]⟩ (fun _ => []) (by kernel_rfl) ?_)
    simp only [Tryz.f33, stripX, stripOps, pickOps]
    simp [K_42_f, K_42_e, K_66_f, K_66_e, K_42h_f, K_42h_e, K_66h_f, K_66h_e, K_42h_g, K_66h_g, hF, hs, hg, e1, e2]
noncomputable def K_33 : Ent Tryz.prog := Ent.p1 (α := Func) 33 (fun F => Enc.good F) (fun F => .tup [vFunc (paF (raG earS) F), .d (.int .i64 (paK (raK earS) F)), .d (.bool (soundF F))]) (fun F hc => spShareSame_c F hc)
theorem K_33_f : K_33.f = 33 := rfl
theorem K_33_e (F0 : Int) (F1 : List Block) : K_33.e [.agg [.d (.int .i64 F0), .d (dBlockS F1)]] = some (Enc.good (Func.mk F0 F1), .tup [vFunc (paF (raG earS) (Func.mk F0 F1)), .d (.int .i64 (paK (raK earS) (Func.mk F0 F1))), .d (.bool (soundF (Func.mk F0 F1)))], []) := by unfold K_33; exact Ent.p1_eq (α := Func) (Func.mk F0 F1)
noncomputable def K_33h : EntH Tryz.prog := EntH.pk1 (α := Func) 33 (fun F => Enc.good F) (fun F => .tup [vFunc (paF (raG earS) F), .d (.int .i64 (paK (raK earS) F)), .d (.bool (soundF F))]) (fun F => []) (fun F hc => PureP.ans (spShareSame_c F hc))
theorem K_33h_f : K_33h.f = 33 := rfl
theorem K_33h_g : K_33h.gro = true := rfl
theorem K_33h_e {x1 : V} {H : Heap} : K_33h.e [x1] H = guardR ((decA (α := Func) H x1).1) (peekR (Enc.good (decA (α := Func) H x1).2) (.tup [vFunc (paF (raG earS) (decA (α := Func) H x1).2), .d (.int .i64 (paK (raK earS) (decA (α := Func) H x1).2)), .d (.bool (soundF (decA (α := Func) H x1).2))]) ([]) H) := rfl
theorem law_ShareSame (F : Func) (hF : Enc.good F) : PureP Tryz.prog 10 [vFunc F] (· = .d (.bool true)) := by
  by_cases hw : szFunc F 1048576 < 0
  · refine pure_of Tryz.func10 en_10 rfl rfl (W_run mixed ⟨[K_14, K_16, K_33, K_18, K_20], [K_14h, K_16h, K_33h, K_18h, K_20h], [34, 19], 117, 0, [0, 1, 2, 3, 4, 5, 6, 7, 8, 9, 10, 11, 12, 13, 14, 15, 16, 21, 50, 55, 76, 84, 87, 108, 113, 116], [21, 41, 46, 50, 55, 61, 67, 72, 76, 84, 87, 99, 104, 108, 113, 116]⟩ (fun | 10 => [0, 1, 2, 3, 4] | _ => []) (by kernel_rfl) ?_)
    simp only [Tryz.f10, stripX, stripOps, pickOps]
    simp [K_14_f, K_14_e, K_16_f, K_16_e, K_33_f, K_33_e, K_18_f, K_18_e, K_20_f, K_20_e, K_14h_f, K_14h_e, K_16h_f, K_16h_e, K_33h_f, K_33h_e, K_18h_f, K_18h_e, K_20h_f, K_20h_e, K_14h_g, K_16h_g, K_33h_g, K_18h_g, K_20h_g, hF, hw]
  have hs : Sm.sm F := (szok_Func F 1048576 hF (by decide) (by decide) (by omega)).1
  generalize hW : paF (raG earS) F = W
  have hsW : Sm.sm W := hW ▸ sm_paF (fun F h _ => sm_good ((raG_good earS_lt) h)) hs
  refine pure_of Tryz.func10 en_10 rfl rfl (W_runCut mixed 5 ⟨[K_14, K_16, K_33, K_18, K_20], [K_14h, K_16h, K_33h, K_18h, K_20h], [34, 19], 117, 0, [0, 1, 2, 3, 4, 5, 6, 7, 8, 9, 10, 11, 12, 13, 14, 15, 16, 21, 50, 55, 76, 84, 87, 108, 113, 116], [21, 41, 46, 50, 55, 61, 67, 72, 76, 84, 87, 99, 104, 108, 113, 116]⟩ (fun | 10 => [0, 1, 2, 3, 4] | _ => []) (by kernel_rfl) ?_)
  simp only [Tryz.f10, stripCut, stripX, stripOps, pickOps]
  simp [K_14_f, K_14_e, K_16_f, K_16_e, K_33_f, K_33_e, K_18_f, K_18_e, K_20_f, K_20_e, K_14h_f, K_14h_e, K_16h_f, K_16h_e, K_33h_f, K_33h_e, K_18h_f, K_18h_e, K_20h_f, K_20h_e, K_14h_g, K_16h_g, K_33h_g, K_18h_g, K_20h_g, hF, hs, hw, hW]
  refine W_runCut mixed 1 ⟨[K_14, K_33, K_18, K_20], [K_14h, K_33h, K_18h, K_20h], [16, 34, 19], 117, 0, [0, 1, 2, 3, 4, 5, 6, 7, 8, 9, 10, 11, 12, 13, 14, 15, 16, 21, 50, 55, 76, 84, 87, 108, 113, 116], [21, 41, 46, 50, 55, 61, 67, 72, 76, 84, 87, 99, 104, 108, 113, 116]⟩ (fun | 10 => [0, 1, 2, 3, 4] | _ => []) (by kernel_rfl) ?_
  simp only [stripCut, stripX, stripOps, pickOps]
  simp [K_14_f, K_14_e, K_33_f, K_33_e, K_18_f, K_18_e, K_20_f, K_20_e, K_14h_f, K_14h_e, K_33h_f, K_33h_e, K_18h_f, K_18h_e, K_20h_f, K_20h_e, K_14h_g, K_33h_g, K_18h_g, K_20h_g, hF, hs]
  refine (toFunc_own _ F hs).mono ?_
  rintro r H1 ⟨A, rfl, ⟨hAv, hA⟩, hn1⟩
  have eA : A.params_ = F.params_ := congrArg Func.params_ hA
  have g0 : H1[0]? = some (.row 2 [[.d (.int .i64 F.params_), .d (dBlockS F.blocks_)]]) := hn1.only.at_ 0 (by simp) List.not_mem_nil
  have g1 : H1[1]? = some (.row 2 [[.d (.int .i64 W.params_), .d (dBlockS W.blocks_)]]) := hn1.only.at_ 1 (by simp) List.not_mem_nil
  have hfl := hn1.own.ok.1.flat
  have hon1 := hn1.own.ok.1.scl.2
  simp [K_14_f, K_14_e, K_33_f, K_33_e, K_18_f, K_18_e, K_20_f, K_20_e, K_14h_f, K_14h_e, K_33h_f, K_33h_e, K_18h_f, K_18h_e, K_20h_f, K_20h_e, K_14h_g, K_33h_g, K_18h_g, K_20h_g, -V.flat, -V.one, one_int, one_bool, one_str, one_nilp, one_rp, one_nilsl, one_ro, one_cl, one_nilf, one_nili, one_ifc, one_ptr, one_sl, one_clo, flat_d, flat_ptr, flat_sl, flat_clo, flat_agg, hfl, hon1]
  have ho1 : Own (H1 ++ [.row 2 [[.d (.int .i64 A.params_), A.blocks_.v]]]) A := hn1.own.frame (Only.app [] _ _) fun j _ hj => absurd hj List.not_mem_nil
  refine W_run mixed ⟨[K_14, K_16, K_33], [K_14h, K_16h, K_33h, K_18h, K_20h], [34, 1000018, 19], 117, 0, [0, 1, 2, 3, 4, 5, 6, 7, 8, 9, 10, 11, 12, 13, 14, 15, 16, 21, 50, 55, 76, 84, 87, 108, 113, 116], [21, 41, 46, 50, 55, 61, 67, 72, 76, 84, 87, 99, 104, 108, 113, 116]⟩ (fun | 10 => [0, 1, 2, 3, 4] | _ => []) (by kernel_rfl) ?_
  simp only [stripX, stripOps, pickOps]
  simp [K_14_f, K_14_e, K_16_f, K_16_e, K_33_f, K_33_e, K_14h_f, K_14h_e, K_16h_f, K_16h_e, K_33h_f, K_33h_e, K_18h_f, K_18h_e, K_20h_f, K_20h_e, K_14h_g, K_16h_g, K_33h_g, K_18h_g, K_20h_g, -V.flat, -V.one, one_int, one_bool, one_str, one_nilp, one_rp, one_nilsl, one_ro, one_cl, one_nilf, one_nili, one_ifc, one_ptr, one_sl, one_clo, flat_d, flat_ptr, flat_sl, flat_clo, flat_agg, hF, hs, hAv]
  rw [hAv] at ho1
  have hl1 : 2 ≤ H1.length := hn1.only.len
  have hrd : Reads1 (H1 ++ [.row 2 [[.d (.int .i64 A.params_), .sl A.blocks_.id 5 0 F.blocks_.length]]]) [.agg [.d (.int .i64 A.params_), .sl A.blocks_.id 5 0 F.blocks_.length]] [vFunc F] := by
    have := Rd1.aggs ho1 rfl
    rw [cells_AFunc, hAv, hA] at this
    exact Rd1.list ⟨this, trivial⟩
  refine (CallsD.peekN (T := fun r (B : AFunc) => r = .tup [.agg (Tr.cells B), .d (.int .i64 (paK (raK earS) F)), .d (.bool (soundF F))] ∧ Tr.era B = W) ((imShareSame_own (deads _) F hF).mono fun r H' ⟨B, q1, q2, q3⟩ => ⟨B, ⟨q1, q2.trans hW⟩, q3⟩) hrd ?_).mono ?_
  · rintro r B hok ⟨rfl, _⟩
    have hc : sclL2 (Tr.cells B) = true := (TrS.scl B hok).1
    show ((V.agg (Tr.cells B)).scl2 && (true && (true && true))) = true
    rw [show (V.agg (Tr.cells B)).scl2 = sclL2 (Tr.cells B) from rfl, hc]; rfl
  rintro r H2 ⟨B, ⟨rfl, hB⟩, hn2⟩
  have bfl := hn2.own.ok.1.flat
  have bon := hn2.own.ok.1.scl.2
  have l2 : H1.length + 1 ≤ H2.length := by have := hn2.only.len; simp at this; omega
  have dF : ∀ G : Heap, decA (α := Func) G (.agg [.d (.int .i64 F.params_), .d (dBlockS F.blocks_)]) = (True, F) := fun G => Prod.ext (eq_true ⟨rfl, trivial, of_eq_true (congrArg Prod.fst (dec_ro (α := Block) (H := G) (l := F.blocks_)))⟩) (congrArg (Func.mk F.params_) (congrArg Prod.snd (dec_ro (α := Block) (H := G) (l := F.blocks_))))
  have dW : ∀ G : Heap, decA (α := Func) G (.agg [.d (.int .i64 W.params_), .d (dBlockS W.blocks_)]) = (True, W) := fun G => Prod.ext (eq_true ⟨rfl, trivial, of_eq_true (congrArg Prod.fst (dec_ro (α := Block) (H := G) (l := W.blocks_)))⟩) (congrArg (Func.mk W.params_) (congrArg Prod.snd (dec_ro (α := Block) (H := G) (l := W.blocks_))))
  have iA : ∀ j ∈ ids A, 2 ≤ j ∧ j < H1.length := fun j hj => ⟨hn1.fresh j hj, hn1.own.lt hj⟩
  have iB : ∀ j ∈ ids B, H1.length + 1 ≤ j ∧ j < H2.length := fun j hj => ⟨by have := hn2.fresh j hj; simp at this; omega, hn2.own.lt hj⟩
  have old2 : ∀ j, j < H1.length → ∀ R : Heap, (H2 ++ R)[j]? = H1[j]? := fun j hj R => (List.getElem?_append_left (by omega)).trans ((hn2.only.at_ j (by simp; omega) List.not_mem_nil).trans (List.getElem?_append_left hj))
  have k0 : ∀ R : Heap, (H2 ++ R)[0]? = some (.row 2 [[.d (.int .i64 F.params_), .d (dBlockS F.blocks_)]]) := fun R => (old2 0 (by omega) R).trans g0
  have k0' : ∀ (R : Heap) (h : 0 < (H2 ++ R).length), (H2 ++ R)[0] = .row 2 [[.d (.int .i64 F.params_), .d (dBlockS F.blocks_)]] := fun R h => Option.some.inj ((List.getElem?_eq_getElem h).symm.trans (k0 R))
  have k1 : ∀ R : Heap, (H2 ++ R)[1]? = some (.row 2 [[.d (.int .i64 W.params_), .d (dBlockS W.blocks_)]]) := fun R => (old2 1 (by omega) R).trans g1
  have k8 : ∀ R : Heap, (H2 ++ R)[H1.length]? = some (.row 2 [[.d (.int .i64 A.params_), .sl A.blocks_.id 5 0 F.blocks_.length]]) := fun R => (List.getElem?_append_left (by omega)).trans ((hn2.only.at_ _ (by simp) List.not_mem_nil).trans List.getElem?_concat_length)
  have oA2 : Own (H2 ++ [.row 2 [[.d (.int .i64 B.params_), B.blocks_.v]]]) A := (ho1.frame hn2.only fun j _ hj => absurd hj List.not_mem_nil).frame (Only.app [] _ _) fun j _ hj => absurd hj List.not_mem_nil
  have oB2 : Own (H2 ++ [.row 2 [[.d (.int .i64 B.params_), B.blocks_.v]]]) B := hn2.own.frame (Only.app [] _ _) fun j _ hj => absurd hj List.not_mem_nil
  have dA : decA (α := Func) (H2 ++ [.row 2 [[.d (.int .i64 B.params_), B.blocks_.v]]]) (.agg [.d (.int .i64 A.params_), .sl A.blocks_.id 5 0 F.blocks_.length]) = (True, F) := by
    have := decA_A oA2 rfl
    rw [cells_AFunc, hAv, hA] at this
    exact this
  have dB : decA (α := Func) (H2 ++ [.row 2 [[.d (.int .i64 B.params_), B.blocks_.v]]]) (.agg [.d (.int .i64 B.params_), B.blocks_.v]) = (True, W) := by
    have := decA_A oB2 rfl
    rw [cells_AFunc, hB] at this
    exact this
  simp [K_14_f, K_14_e, K_16_f, K_16_e, K_33_f, K_33_e, K_14h_f, K_14h_e, K_16h_f, K_16h_e, K_33h_f, K_33h_e, K_18h_f, K_18h_e, K_20h_f, K_20h_e, K_14h_g, K_16h_g, K_33h_g, K_18h_g, K_20h_g, -V.flat, -V.one, one_int, one_bool, one_str, one_nilp, one_rp, one_nilsl, one_ro, one_cl, one_nilf, one_nili, one_ifc, one_ptr, one_sl, one_clo, flat_d, flat_ptr, flat_sl, flat_clo, flat_agg, -decA, decA_int, decA_bool, decA_str, hF, hs, hsW, hAv, bfl, bon, k0', k1, k8, dA, dB, dF, dW]
  have leF := mFunc_le hs 1
  have leW := mFunc_le hsW 1
  have lenA : A.blocks_.l.length ≤ 4000000000000000000 := by
    have := small_len hs.2
    have e := congrArg (fun q => List.length (Func.blocks_ q)) hA
    have e2 : A.blocks_.l.length = F.blocks_.length := by rw [← e]; exact (List.length_map _).symm
    omega
  have lenB : B.blocks_.l.length ≤ 4000000000000000000 := by
    have := small_len hsW.2
    have e := congrArg (fun q => List.length (Func.blocks_ q)) hB
    have e2 : B.blocks_.l.length = W.blocks_.length := by rw [← e]; exact (List.length_map _).symm
    omega
  have hm := markFunc_own _ A 1 oA2 (by decide) (by rw [hA]; omega) lenA
  rw [cells_AFunc, hAv] at hm
  refine hm.mono ?_
  rintro r H3 ⟨rfl, A3, _, _, _, o3, _⟩
  have hk0 : 1 ≤ (mFunc F 1).2 := mBlock_mono F.blocks_ 1
  have hk1 : ¬ (mFunc F 1).2 < 0 := by omega
  rw [hA]
  have l3 : H2.length + 1 ≤ H3.length := by have := o3.len; simp at this; omega
  have m0 : H3[0]? = some (.row 2 [[.d (.int .i64 F.params_), .d (dBlockS F.blocks_)]]) := (o3.at_ 0 (by simp) fun hj => by have := iA 0 hj; omega).trans (k0 _)
  have m1 : H3[1]? = some (.row 2 [[.d (.int .i64 W.params_), .d (dBlockS W.blocks_)]]) := (o3.at_ 1 (by simp; omega) fun hj => by have := iA 1 hj; omega).trans (k1 _)
  have mB : H3[H2.length]? = some (.row 2 [[.d (.int .i64 B.params_), B.blocks_.v]]) := (o3.at_ _ (by simp) fun hj => by have := iA _ hj; omega).trans List.getElem?_concat_length
  have oB3 : Own H3 B := oB2.frame o3 fun j hj hk => by have := iB j hj; have := iA j hk; omega
  have dB3 : decA (α := Func) H3 (.agg [.d (.int .i64 B.params_), B.blocks_.v]) = (True, W) := by
    have := decA_A oB3 rfl
    rw [cells_AFunc, hB] at this
    exact this
  simp [K_14_f, K_14_e, K_16_f, K_16_e, K_33_f, K_33_e, K_14h_f, K_14h_e, K_16h_f, K_16h_e, K_33h_f, K_33h_e, K_18h_f, K_18h_e, K_20h_f, K_20h_e, K_14h_g, K_16h_g, K_33h_g, K_18h_g, K_20h_g, -V.flat, -V.one, one_int, one_bool, one_str, one_nilp, one_rp, one_nilsl, one_ro, one_cl, one_nilf, one_nili, one_ifc, one_ptr, one_sl, one_clo, flat_d, flat_ptr, flat_sl, flat_clo, flat_agg, -decA, decA_int, decA_bool, decA_str, hF, hs, hsW, bfl, bon, m0, m1, mB, dB3, dW, hk1]
  have hm2 := markFunc_own H3 B 1 oB3 (by decide) (by rw [hB]; omega) lenB
  rw [cells_AFunc] at hm2
  refine hm2.mono ?_
  rintro r H4 ⟨rfl, B4, oB4, iB4, cB4, o4, eB4⟩
  rw [hB] at eB4 ⊢
  have hw0 : 1 ≤ (mFunc W 1).2 := mBlock_mono W.blocks_ 1
  have hps : ¬ (mFunc W 1).2 < 0 := by omega
  have hbd : (mFunc W 1).2 ≤ 4000000000000000000 := by omega
  have hid := mFunc_idem W 1
  have l4 : H3.length ≤ H4.length := o4.len
  have n0 : H4[0]? = some (.row 2 [[.d (.int .i64 F.params_), .d (dBlockS F.blocks_)]]) := (o4.at_ 0 (by omega) fun hj => by have := iB 0 hj; omega).trans m0
  have n1 : H4[1]? = some (.row 2 [[.d (.int .i64 W.params_), .d (dBlockS W.blocks_)]]) := (o4.at_ 1 (by omega) fun hj => by have := iB 1 hj; omega).trans m1
  have nB : H4[H2.length]? = some (.row 2 [[.d (.int .i64 B.params_), B.blocks_.v]]) := (o4.at_ _ (by omega) fun hj => by have := iB _ hj; omega).trans mB
  have cB4' : Tr.cells B4 = [.d (.int .i64 B.params_), B.blocks_.v] := cB4
  have dB4 : decA (α := Func) H4 (.agg [.d (.int .i64 B.params_), B.blocks_.v]) = (True, (mFunc W 1).1) := by
    have := decA_A oB4 rfl
    rw [cB4', eB4] at this
    exact this
  simp [K_14_f, K_14_e, K_16_f, K_16_e, K_33_f, K_33_e, K_14h_f, K_14h_e, K_16h_f, K_16h_e, K_33h_f, K_33h_e, K_18h_f, K_18h_e, K_20h_f, K_20h_e, K_14h_g, K_16h_g, K_33h_g, K_18h_g, K_20h_g, -V.flat, -V.one, one_int, one_bool, one_str, one_nilp, one_rp, one_nilsl, one_ro, one_cl, one_nilf, one_nili, one_ifc, one_ptr, one_sl, one_clo, flat_d, flat_ptr, flat_sl, flat_clo, flat_agg, -decA, decA_int, decA_bool, decA_str, hF, hs, hsW, bfl, bon, n0, n1, nB, dB4, dW, hid, hps, hbd]
  refine (imShareSame_own H4 F hF).mono ?_
  rintro r H5 ⟨C, rfl, hC, hn5⟩
  rw [hW] at hC
  have cfl := hn5.own.ok.1.flat
  have con := hn5.own.ok.1.scl.2
  have old5 : ∀ j, j < H4.length → ∀ R : Heap, (H5 ++ R)[j]? = H4[j]? := fun j hj R => (List.getElem?_append_left (by have := hn5.only.len; omega)).trans (hn5.only.at_ j hj List.not_mem_nil)
  have p1 : ∀ R : Heap, (H5 ++ R)[1]? = some (.row 2 [[.d (.int .i64 W.params_), .d (dBlockS W.blocks_)]]) := fun R => (old5 1 (by omega) R).trans n1
  have pB : ∀ R : Heap, (H5 ++ R)[H2.length]? = some (.row 2 [[.d (.int .i64 B.params_), B.blocks_.v]]) := fun R => (old5 _ (by omega) R).trans nB
  have dC5 : decA (α := Func) (H5 ++ [.row 2 [[.d (.int .i64 C.params_), C.blocks_.v]]]) (.agg [.d (.int .i64 C.params_), C.blocks_.v]) = (True, W) := by
    have := decA_A (hn5.own.frame (Only.app [] _ [.row 2 [[.d (.int .i64 C.params_), C.blocks_.v]]]) fun j _ hj => absurd hj List.not_mem_nil) rfl
    rw [cells_AFunc, hC] at this
    exact this
  have dB5 : decA (α := Func) (H5 ++ [.row 2 [[.d (.int .i64 C.params_), C.blocks_.v]]]) (.agg [.d (.int .i64 B.params_), B.blocks_.v]) = (True, (mFunc W 1).1) := by
    have := decA_A ((oB4.frame hn5.only fun j _ hj => absurd hj List.not_mem_nil).frame (Only.app [] _ [.row 2 [[.d (.int .i64 C.params_), C.blocks_.v]]]) fun j _ hj => absurd hj List.not_mem_nil) rfl
    rw [cB4', eB4] at this
    exact this
  simp [K_14_f, K_14_e, K_16_f, K_16_e, K_33_f, K_33_e, K_14h_f, K_14h_e, K_16h_f, K_16h_e, K_33h_f, K_33h_e, K_18h_f, K_18h_e, K_20h_f, K_20h_e, K_14h_g, K_16h_g, K_33h_g, K_18h_g, K_20h_g, -V.flat, -V.one, one_int, one_bool, one_str, one_nilp, one_rp, one_nilsl, one_ro, one_cl, one_nilf, one_nili, one_ifc, one_ptr, one_sl, one_clo, flat_d, flat_ptr, flat_sl, flat_clo, flat_agg, -decA, decA_int, decA_bool, decA_str, hF, hs, hsW, bfl, bon, cfl, con, p1, pB, dC5, dB5, dW, hid, hps, hbd]
namespace fnExactShareSame
open Go.ChangeShapes Go.WideShapes Go.RowKit
theorem own : ownKnob Tryz.prog.godebug = none := by kernel_rfl
theorem lifted (os : Os) (started : os.Started) (H : Type) (enc : TypeId × Value → H) :
    ReturnsInHanded {} Tryz.checked os 10 .any (Rows.fnExactShareSameSpec.pre6 enc Tryz.prog Tryz.f10 Rows.fnExactShareSameRow.domain false) (Rows.fnExactShareSameSpec.post enc Tryz.prog Tryz.f10 false true false false) := by
  refine returnsInHanded_of_change (C := Tryz.checked) own started (by kernel_rfl) Tryz.func10
    (ChangeSpec.witness6 (enc := enc) (C := Tryz.checked) false ⟨#[], #[.agg #[.int .i64 0, .slice none 0 0]], []⟩ 8 (by kernel_rfl) (by kernel_rfl) (by kernel_rfl) (by kernel_rfl)) ?_
  intro W base args ds gs before hval hW hcnd _
  have hW' := hW
  obtain ⟨p, q, hA, hV, _, _, _⟩ := hW
  rw [Tryz.params10] at hA hval
  obtain ⟨v0, vs0, d0, ds0, p0, q0, hargs, rfl, rfl, h0, r0⟩ := trodAll_cons hA
  obtain ⟨rfl, rfl, rfl⟩ := trodAll_nil r0
  obtain rfl : args = #[v0] := by cases args; simp_all
  obtain ⟨F, hF, hv0⟩ := arg_of rd_Func (hval 0 24 v0 rfl rfl) h0
  obtain ⟨rfl, rfl⟩ := trodVars_none hV
  exact row_end (by kernel_rfl) (by kernel_rfl) (by kernel_rfl) Tryz.underlying4 hW' rfl rfl rfl rfl (vs := [argV F]) (by exact ⟨v0, _, rfl, hv0, rfl⟩) (law_ShareSame F hF)
theorem over : Rows.fnExactShareSameRow.holds Tryz.pinned (OpenSpec.ofChange Rows.fnExactShareSameSpec) :=
  OpenClaim.holds_of_wide 10 Tryz.f10 rfl rfl rfl rfl rfl rfl rfl ⟨rfl, rfl, rfl, rfl, rfl⟩ rfl rfl rfl rfl rfl (by kernel_rfl) Tryz.func10 (by kernel_rfl)
    (of_decide_eq_true (by kernel_rfl)) (by unfold Func.isWrapper; first | (rw [if_pos (by decide +kernel)]; kernel_rfl) | (rw [if_neg (by decide +kernel)]; exact ⟨rfl, rfl⟩))
    (fun os started H enc _ => lifted os started H enc)
end fnExactShareSame
theorem fnExactShareSame_holds : Rows.FnExactShareSameSaid := fnExactShareSame.over
end Go.Proofs.YtbmloeahcdneaaaGreat
end
