/- The law DropBlocks. No condition. -/
import Derived.Test.YtbmloeahcdneaaaGreatRows
import Derived.Test.YtbmloeahcdneaaaGreatQRd
import Derived.Test.YtbmloeahcdneaaaGreatQS33
import Derived.Test.YtbmloeahcdneaaaGreatQS73
import Derived.Test.YtbmloeahcdneaaaGreatQS85
import Derived.Test.YtbmloeahcdneaaaGreatQS36
section
namespace Go.Proofs.YtbmloeahcdneaaaGreat
set_option maxRecDepth 100000
set_option linter.unusedSimpArgs false
set_option linter.unusedVariables false
theorem mFunc_idem (x : Func) (k : Int) : mFunc (mFunc x k).1 k = mFunc x k := by
  have hi : ∀ l k, mkL mI (mkL mI l k).1 k = mkL mI l k := mkL_idem (fun x k => rfl)
  have hI : ∀ (y : Inst) k, mInst (mInst y k).1 k = mInst y k := fun y k => by unfold mInst; simp only [hi]
  have hJ : ∀ (y : Jump) k, mJump (mJump y k).1 k = mJump y k := fun y k => by unfold mJump; simp only [hi]
  have hB : ∀ (y : Block) k, mBlock (mBlock y k).1 k = mBlock y k := fun y k => by unfold mBlock; simp only [mkL_idem hI, mkL_idem hJ]
  unfold mFunc
  simp only [mkL_idem hB]
end Go.Proofs.YtbmloeahcdneaaaGreat
end

section
namespace Go.Proofs.YtbmloeahcdneaaaGreat
set_option maxRecDepth 100000
set_option linter.unusedSimpArgs false
set_option linter.unusedVariables false
theorem passedW_own {fn : Nat} {G : Func → Func} {K : Func → Int} (hp : PassW fn G K) (hne : ¬ 46 = fn) (H : Heap) (F : Func) (hF : Enc.good F) : CallsD Tryz.prog 54 [vFunc F, .d (.clo fn 0 fun _ => .undef)] H fun r H' => ∃ A : AFunc, r = .tup [.agg (Tr.cells A), .d (.int .i64 (paK K F)), .d (.bool (soundF F))] ∧ Tr.era A = paF G F ∧ New H H' A := by
  cases hs : soundF F with
  | false =>
    have e1 : paK K F = 0 := by simp [paK, hs]
    have e2 : paF G F = ⟨0, []⟩ := by simp [paF, hs]
    refine calls_of Tryz.func54 en_54 rfl (of_decide_eq_true rfl) (W_run mixed ⟨[K_46], [K_46h], [48], 19, H.length, [0, 1, 2, 4, 5, 6, 7, 8, 11], [11]⟩ (fun _ => []) (by kernel_rfl) ?_)
    simp only [Tryz.f54, stripX, stripOps, pickOps]
    simp [K_46_f, K_46_e, K_46h_f, K_46h_e, K_46h_g, -V.flat, -V.one, one_int, one_bool, one_str, one_nilp, one_rp, one_nilsl, one_ro, one_cl, one_nilf, one_nili, one_ifc, one_ptr, one_sl, one_clo, flat_d, flat_ptr, flat_sl, flat_clo, flat_agg, hF, sound_N hs, retQ]
    exact fin_nilF fun A H' q1 q2 q3 => ⟨A, by rw [e1]; exact congrArg (fun c => V.tup [.agg c, .d (.int .i64 0), .d (.bool false)]) q1.symm, by rw [e2, q2], q3⟩
  | true =>
    have hg := sound_good hs
    have e1 : paK K F = K F := by simp [paK, hs]
    have e2 : paF G F = G F := by simp [paF, hs]
    refine calls_of Tryz.func54 en_54 rfl (of_decide_eq_true rfl) (W_run mixed ⟨[K_46], [K_46h], [48], 19, H.length, [0, 1, 2, 4, 5, 6, 7, 8, 11], [11]⟩ (fun _ => []) (by kernel_rfl) ?_)
    simp only [Tryz.f54, stripX, stripOps, pickOps]
    simp [K_46_f, K_46_e, K_46h_f, K_46h_e, K_46h_g, -V.flat, -V.one, one_int, one_bool, one_str, one_nilp, one_rp, one_nilsl, one_ro, one_cl, one_nilf, one_nili, one_ifc, one_ptr, one_sl, one_clo, flat_d, flat_ptr, flat_sl, flat_clo, flat_agg, hF, sound_V hs, retQ]
    refine (cloneFunc_sol _ F (good_small hg)).mono ?_
    rintro r H1 ⟨A, rfl, ⟨hA, hsol⟩, hn⟩
    have hfl := hn.own.ok.1.flat
    have hone := hn.own.ok.1.scl.2
    have hlt : ∀ j ∈ ids A, j < H1.length := fun j hj => hn.own.lt hj
    simp [K_46_f, K_46_e, K_46h_f, K_46h_e, K_46h_g, -V.flat, -V.one, one_int, one_bool, one_str, one_nilp, one_rp, one_nilsl, one_ro, one_cl, one_nilf, one_nili, one_ifc, one_ptr, one_sl, one_clo, flat_d, flat_ptr, flat_sl, flat_clo, flat_agg, hfl, hone, hne, retQ]
    have hge : ∀ j ∈ ids A, H.length + 2 ≤ j := fun j hj => by have := hn.fresh j hj; simp at this; omega
    have h1l : H.length + 2 ≤ H1.length := by have := hn.only.len; simp at this; omega
    refine (hp _ A H1.length ⟨List.getElem?_concat_length, hn.own.frame (Only.app [] _ _) fun j _ hj => absurd hj List.not_mem_nil, hsol, fun q => Nat.lt_irrefl _ (hlt _ q), by rw [hA]; exact hg, by rw [hA]; exact hF⟩ (by rw [hA]; exact hs)).mono ?_
    rintro r H2 ⟨A', rfl, hA', hr⟩
    rw [hA] at hA' ⊢
    have fl2 := hr.own.ok.1.flat
    have one2 := hr.own.ok.1.scl.2
    have oo := hr.only
    have h2l : H1.length + 1 ≤ H2.length := by have := oo.len; simp at this; omega
    have k9 := hr.row
    have old : ∀ j, j < H.length + 2 → H2[j]? = H1[j]? := fun j hj => (oo.at_ j (by simp; omega) fun q => by
      rcases List.mem_cons.1 q with q | q
      · omega
      · have := hge j q; omega).trans (List.getElem?_append_left (by omega))
    have k6 : H2[H.length + 1]? = some (.row 2 [[.d (.int .i64 0), .d .nilsl]]) := (old _ (by omega)).trans ((hn.only.at_ _ (by simp) List.not_mem_nil).trans (by simp))
    have s6 : ∀ p, (H2.set (H.length + 1) p)[H.length + 1]? = some p := fun p => List.getElem?_set_self (by omega)
    have hib : ∀ j ∈ ids A', H.length + 2 ≤ j := fun j hj => (hr.ids j hj).elim (fun h => hge j h) fun h => by simp at h; omega
    simp [K_46_f, K_46_e, K_46h_f, K_46h_e, K_46h_g, -V.flat, -V.one, one_int, one_bool, one_str, one_nilp, one_rp, one_nilsl, one_ro, one_cl, one_nilf, one_nili, one_ifc, one_ptr, one_sl, one_clo, flat_d, flat_ptr, flat_sl, flat_clo, flat_agg, fl2, one2, k9, k6, s6, retQ]
    refine fin_new (a := A') (hr.own.frame (S := [H.length + 1]) Only.set fun j hj q => by have := hib j hj; simp at q; omega) ⟨by simp; omega, fun j hj _ => ?_⟩ (fun j hj => by have := hib j hj; omega) fun H' h' => ⟨_, by rw [e1], hA'.trans e2.symm, h'⟩
    rw [List.getElem?_set_ne (by omega)]
    exact (old j (by omega)).trans ((hn.only.at_ j (by simp; omega) List.not_mem_nil).trans (List.getElem?_append_left hj))
theorem sm_without {F : Func} (h : goodF F = true) (pv pb : Int → Bool) : Sm.sm (withoutF F pv pb) := by
  obtain ⟨h1, h2⟩ := good_small h
  refine ⟨trivial, ?_, fun b hb => ?_⟩
  · show (outB F pv pb F.blocks_.length).length ≤ _
    unfold outB
    have := List.length_filter_le (fun j : Nat => !pb j) (List.range F.blocks_.length)
    rw [List.length_range] at this
    rw [List.length_map]; omega
  · obtain ⟨k, hk, rfl⟩ := List.mem_map.1 hb
    have hkl := List.mem_range.1 (List.mem_filter.1 hk).1
    have hm : F.blocks_[k]?.getD default ∈ F.blocks_ := by rw [List.getElem?_eq_getElem hkl]; exact List.getElem_mem _
    obtain ⟨q1, q2, q3, q4⟩ := h2 _ hm
    have key : ∀ b : Block, b = F.blocks_[k]?.getD default → Sm.sm (⟨(mpB (fun x => numW F pv pb x.toNat) b).params_, flt pv (fstN F k + (mpB (fun x => numW F pv pb x.toNat) b).params_.toNat) (mpB (fun x => numW F pv pb x.toNat) b).insts_ (mpB (fun x => numW F pv pb x.toNat) b).insts_.length, (mpB (fun x => numW F pv pb x.toNat) b).end_, (mpB (fun x => numW F pv pb x.toNat) b).value_, (mpB (fun x => numW F pv pb x.toNat) b).jumps_.map (toJ pb)⟩ : Block) := ?_
    · exact key _ rfl
    intro b hb
    rw [← hb] at q1 q2 q3 q4
    refine ⟨trivial, ⟨?_, fun x hx => ?_⟩, trivial, trivial, ⟨?_, fun x hx => ?_⟩⟩
    · have := flt_len pv (fstN F k + (mpB (fun x => numW F pv pb x.toNat) b).params_.toNat) (mpB (fun x => numW F pv pb x.toNat) b).insts_ (mpB (fun x => numW F pv pb x.toNat) b).insts_.length
      have e : (mpB (fun x => numW F pv pb x.toNat) b).insts_.length = b.insts_.length := List.length_map _
      show (flt _ _ _ _).length ≤ 1048576
      omega
    · have hx2 := (flt_sub pv _ (Nat.le_refl _)).subset hx
      obtain ⟨y, hy, rfl⟩ := List.mem_map.1 (show x ∈ b.insts_.map (mpI _) from hx2)
      have := q3 y hy
      exact ⟨trivial, trivial, by show (y.args_.map _).length ≤ _; rw [List.length_map]; omega, fun _ _ => trivial⟩
    · show ((b.jumps_.map (mpJ _)).map (toJ pb)).length ≤ _
      rw [List.length_map, List.length_map]; omega
    · obtain ⟨z, hz, rfl⟩ := List.mem_map.1 (show x ∈ (b.jumps_.map (mpJ _)).map (toJ pb) from hx)
      obtain ⟨y, hy, rfl⟩ := List.mem_map.1 hz
      have := q4 y hy
      exact ⟨trivial, by show (y.args_.map _).length ≤ _; rw [List.length_map]; omega, fun _ _ => trivial⟩
theorem sm_dbG {F : Func} (h : goodF F = true) : Sm.sm (dbG F) := sm_without h _ _
end Go.Proofs.YtbmloeahcdneaaaGreat
end

section
namespace Go.Proofs.YtbmloeahcdneaaaGreat
set_option maxRecDepth 100000
set_option linter.unusedSimpArgs false
set_option linter.unusedVariables false
theorem imDropBlocks_own (H : Heap) (F : Func) (hF : Enc.good F) : CallsD Tryz.prog 26 [vFunc F] H fun r H' => ∃ A : AFunc, r = .tup [.agg (Tr.cells A), .d (.int .i64 (paK dbK F)), .d (.bool (soundF F))] ∧ Tr.era A = paF dbG F ∧ New H H' A := by
  refine calls_of Tryz.func26 en_26 rfl (of_decide_eq_true rfl) (W_run mixed ⟨[], [], [54, 59], 10, H.length, [0, 1, 2, 3, 4], []⟩ (fun _ => []) (by kernel_rfl) ?_)
  simp only [Tryz.f26, stripX, stripOps, pickOps]
  simp [-V.flat, -V.one, one_int, one_bool, one_str, one_nilp, one_rp, one_nilsl, one_ro, one_cl, one_nilf, one_nili, one_ifc, one_ptr, one_sl, one_clo, flat_d, flat_ptr, flat_sl, flat_clo, flat_agg, hF, retQ]
  refine (passedW_own dropBlocks_pass (by decide) _ F hF).mono ?_
  rintro r H1 ⟨A, rfl, hA, hn⟩
  have hfl := hn.own.ok.1.flat
  have hone := hn.own.ok.1.scl.2
  have hge : ∀ j ∈ ids A, H.length + 2 ≤ j := fun j hj => by have := hn.fresh j hj; simp at this; omega
  have hl := hn.only.len
  simp only [List.length_append, List.length_cons, List.length_nil] at hl
  have k6 : H1[H.length + 1]? = some (.row 2 [[.d (.int .i64 0), .d .nilsl]]) := (hn.only.at_ _ (by simp) List.not_mem_nil).trans (by simp)
  have s6 : ∀ p, (H1.set (H.length + 1) p)[H.length + 1]? = some p := fun p => List.getElem?_set_self (by omega)
  simp [-V.flat, -V.one, one_int, one_bool, one_str, one_nilp, one_rp, one_nilsl, one_ro, one_cl, one_nilf, one_nili, one_ifc, one_ptr, one_sl, one_clo, flat_d, flat_ptr, flat_sl, flat_clo, flat_agg, hfl, hone, k6, s6, retQ]
  refine fin_new (a := A) (hn.own.frame (S := [H.length + 1]) Only.set fun j hj q => by have := hge j hj; simp at q; omega) ⟨by simp; omega, fun j hj _ => ?_⟩ (fun j hj => by have := hge j hj; omega) fun H' h' => ⟨A, rfl, hA, h'⟩
  rw [List.getElem?_set_ne (by omega)]
  exact (hn.only.at_ j (by simp; omega) List.not_mem_nil).trans (List.getElem?_append_left hj)
theorem spDropBlocks_c (F : Func) (hF : Enc.good F) : PureP Tryz.prog 25 [vFunc F] (· = .tup [vFunc (paF dbG F), .d (.int .i64 (paK dbK F)), .d (.bool (soundF F))]) := by
  cases hs : soundF F with
  | false =>
    have e1 : paK dbK F = 0 := by simp [paK, hs]
    have e2 : paF dbG F = ⟨0, []⟩ := by simp [paF, hs]
    refine PureP.le (pure_of Tryz.func25 en_25 rfl rfl (W_run mixed ⟨[K_42, K_58], [K_42h, K_58h], [], 18, 0, [0, 1, 2, 3, 4, 5, 6, 9], [9]⟩ (fun _ => []) (by kernel_rfl) ?_))
    simp only [Tryz.f25, stripX, stripOps, pickOps]
    simp [K_42_f, K_42_e, K_58_f, K_58_e, K_42h_f, K_42h_e, K_58h_f, K_58h_e, K_42h_g, K_58h_g, hF, hs]
    simp [e1, e2, VLe, VLes, DLe]
  | true =>
    have hg := sound_good hs
    have e1 : paK dbK F = dbK F := by simp [paK, hs]
    have e2 : paF dbG F = dbG F := by simp [paF, hs]
    refine pure_of Tryz.func25 en_25 rfl rfl (W_run mixed ⟨[K_42, K_58], [K_42h, K_58h], [], 18, 0, [0, 1, 2, 3, 4, 5, 6, 9], [9]⟩ (fun _ => []) (by kernel_rfl) ?_)
    simp only [Tryz.f25, stripX, stripOps, pickOps]
    simp [K_42_f, K_42_e, K_58_f, K_58_e, K_42h_f, K_42h_e, K_58h_f, K_58h_e, K_42h_g, K_58h_g, hF, hs, hg, e1, e2]
noncomputable def K_25 : Ent Tryz.prog := Ent.p1 (α := Func) 25 (fun F => Enc.good F) (fun F => .tup [vFunc (paF dbG F), .d (.int .i64 (paK dbK F)), .d (.bool (soundF F))]) (fun F hc => spDropBlocks_c F hc)
theorem K_25_f : K_25.f = 25 := rfl
theorem K_25_e (F0 : Int) (F1 : List Block) : K_25.e [.agg [.d (.int .i64 F0), .d (dBlockS F1)]] = some (Enc.good (Func.mk F0 F1), .tup [vFunc (paF dbG (Func.mk F0 F1)), .d (.int .i64 (paK dbK (Func.mk F0 F1))), .d (.bool (soundF (Func.mk F0 F1)))], []) := by unfold K_25; exact Ent.p1_eq (α := Func) (Func.mk F0 F1)
noncomputable def K_25h : EntH Tryz.prog := EntH.pk1 (α := Func) 25 (fun F => Enc.good F) (fun F => .tup [vFunc (paF dbG F), .d (.int .i64 (paK dbK F)), .d (.bool (soundF F))]) (fun F => []) (fun F hc => PureP.ans (spDropBlocks_c F hc))
theorem K_25h_f : K_25h.f = 25 := rfl
theorem K_25h_g : K_25h.gro = true := rfl
theorem K_25h_e {x1 : V} {H : Heap} : K_25h.e [x1] H = guardR ((decA (α := Func) H x1).1) (peekR (Enc.good (decA (α := Func) H x1).2) (.tup [vFunc (paF dbG (decA (α := Func) H x1).2), .d (.int .i64 (paK dbK (decA (α := Func) H x1).2)), .d (.bool (soundF (decA (α := Func) H x1).2))]) ([]) H) := rfl
theorem law_DropBlocks (F : Func) (hF : Enc.good F) : PureP Tryz.prog 6 [vFunc F] (· = .d (.bool true)) := by
  by_cases hw : szFunc F 1048576 < 0
  · refine pure_of Tryz.func6 en_6 rfl rfl (W_run mixed ⟨[K_14, K_16, K_25, K_18, K_20], [K_14h, K_16h, K_25h, K_18h, K_20h], [26, 19], 117, 0, [0, 1, 2, 3, 4, 5, 6, 7, 8, 9, 10, 11, 12, 13, 14, 15, 16, 21, 50, 55, 76, 84, 87, 108, 113, 116], [21, 41, 46, 50, 55, 61, 67, 72, 76, 84, 87, 99, 104, 108, 113, 116]⟩ (fun | 10 => [0, 1, 2, 3, 4] | _ => []) (by kernel_rfl) ?_)
    simp only [Tryz.f6, stripX, stripOps, pickOps]
    simp [K_14_f, K_14_e, K_16_f, K_16_e, K_25_f, K_25_e, K_18_f, K_18_e, K_20_f, K_20_e, K_14h_f, K_14h_e, K_16h_f, K_16h_e, K_25h_f, K_25h_e, K_18h_f, K_18h_e, K_20h_f, K_20h_e, K_14h_g, K_16h_g, K_25h_g, K_18h_g, K_20h_g, hF, hw]
  have hs : Sm.sm F := (szok_Func F 1048576 hF (by decide) (by decide) (by omega)).1
  generalize hW : paF dbG F = W
  have hsW : Sm.sm W := hW ▸ sm_paF (fun F h _ => sm_dbG h) hs
  refine pure_of Tryz.func6 en_6 rfl rfl (W_runCut mixed 5 ⟨[K_14, K_16, K_25, K_18, K_20], [K_14h, K_16h, K_25h, K_18h, K_20h], [26, 19], 117, 0, [0, 1, 2, 3, 4, 5, 6, 7, 8, 9, 10, 11, 12, 13, 14, 15, 16, 21, 50, 55, 76, 84, 87, 108, 113, 116], [21, 41, 46, 50, 55, 61, 67, 72, 76, 84, 87, 99, 104, 108, 113, 116]⟩ (fun | 10 => [0, 1, 2, 3, 4] | _ => []) (by kernel_rfl) ?_)
  simp only [Tryz.f6, stripCut, stripX, stripOps, pickOps]
  simp [K_14_f, K_14_e, K_16_f, K_16_e, K_25_f, K_25_e, K_18_f, K_18_e, K_20_f, K_20_e, K_14h_f, K_14h_e, K_16h_f, K_16h_e, K_25h_f, K_25h_e, K_18h_f, K_18h_e, K_20h_f, K_20h_e, K_14h_g, K_16h_g, K_25h_g, K_18h_g, K_20h_g, hF, hs, hw, hW]
  refine W_runCut mixed 1 ⟨[K_14, K_25, K_18, K_20], [K_14h, K_25h, K_18h, K_20h], [16, 26, 19], 117, 0, [0, 1, 2, 3, 4, 5, 6, 7, 8, 9, 10, 11, 12, 13, 14, 15, 16, 21, 50, 55, 76, 84, 87, 108, 113, 116], [21, 41, 46, 50, 55, 61, 67, 72, 76, 84, 87, 99, 104, 108, 113, 116]⟩ (fun | 10 => [0, 1, 2, 3, 4] | _ => []) (by kernel_rfl) ?_
  simp only [stripCut, stripX, stripOps, pickOps]
  simp [K_14_f, K_14_e, K_25_f, K_25_e, K_18_f, K_18_e, K_20_f, K_20_e, K_14h_f, K_14h_e, K_25h_f, K_25h_e, K_18h_f, K_18h_e, K_20h_f, K_20h_e, K_14h_g, K_25h_g, K_18h_g, K_20h_g, hF, hs]
  refine (toFunc_own _ F hs).mono ?_
  rintro r H1 ⟨A, rfl, ⟨hAv, hA⟩, hn1⟩
  have eA : A.params_ = F.params_ := congrArg Func.params_ hA
  have g0 : H1[0]? = some (.row 2 [[.d (.int .i64 F.params_), .d (dBlockS F.blocks_)]]) := hn1.only.at_ 0 (by simp) List.not_mem_nil
  have g1 : H1[1]? = some (.row 2 [[.d (.int .i64 W.params_), .d (dBlockS W.blocks_)]]) := hn1.only.at_ 1 (by simp) List.not_mem_nil
  have hfl := hn1.own.ok.1.flat
  have hon1 := hn1.own.ok.1.scl.2
  simp [K_14_f, K_14_e, K_25_f, K_25_e, K_18_f, K_18_e, K_20_f, K_20_e, K_14h_f, K_14h_e, K_25h_f, K_25h_e, K_18h_f, K_18h_e, K_20h_f, K_20h_e, K_14h_g, K_25h_g, K_18h_g, K_20h_g, -V.flat, -V.one, one_int, one_bool, one_str, one_nilp, one_rp, one_nilsl, one_ro, one_cl, one_nilf, one_nili, one_ifc, one_ptr, one_sl, one_clo, flat_d, flat_ptr, flat_sl, flat_clo, flat_agg, hfl, hon1]
  have ho1 : Own (H1 ++ [.row 2 [[.d (.int .i64 A.params_), A.blocks_.v]]]) A := hn1.own.frame (Only.app [] _ _) fun j _ hj => absurd hj List.not_mem_nil
  refine W_run mixed ⟨[K_14, K_16, K_25], [K_14h, K_16h, K_25h, K_18h, K_20h], [26, 1000018, 19], 117, 0, [0, 1, 2, 3, 4, 5, 6, 7, 8, 9, 10, 11, 12, 13, 14, 15, 16, 21, 50, 55, 76, 84, 87, 108, 113, 116], [21, 41, 46, 50, 55, 61, 67, 72, 76, 84, 87, 99, 104, 108, 113, 116]⟩ (fun | 10 => [0, 1, 2, 3, 4] | _ => []) (by kernel_rfl) ?_
  simp only [stripX, stripOps, pickOps]
  simp [K_14_f, K_14_e, K_16_f, K_16_e, K_25_f, K_25_e, K_14h_f, K_14h_e, K_16h_f, K_16h_e, K_25h_f, K_25h_e, K_18h_f, K_18h_e, K_20h_f, K_20h_e, K_14h_g, K_16h_g, K_25h_g, K_18h_g, K_20h_g, -V.flat, -V.one, one_int, one_bool, one_str, one_nilp, one_rp, one_nilsl, one_ro, one_cl, one_nilf, one_nili, one_ifc, one_ptr, one_sl, one_clo, flat_d, flat_ptr, flat_sl, flat_clo, flat_agg, hF, hs, hAv]
  rw [hAv] at ho1
  have hl1 : 2 ≤ H1.length := hn1.only.len
  have hrd : Reads1 (H1 ++ [.row 2 [[.d (.int .i64 A.params_), .sl A.blocks_.id 5 0 F.blocks_.length]]]) [.agg [.d (.int .i64 A.params_), .sl A.blocks_.id 5 0 F.blocks_.length]] [vFunc F] := by
    have := Rd1.aggs ho1 rfl
    rw [cells_AFunc, hAv, hA] at this
    exact Rd1.list ⟨this, trivial⟩
  refine (CallsD.peekN (T := fun r (B : AFunc) => r = .tup [.agg (Tr.cells B), .d (.int .i64 (paK dbK F)), .d (.bool (soundF F))] ∧ Tr.era B = W) ((imDropBlocks_own (deads _) F hF).mono fun r H' ⟨B, q1, q2, q3⟩ => ⟨B, ⟨q1, q2.trans hW⟩, q3⟩) hrd ?_).mono ?_
  · rintro r B hok ⟨rfl, _⟩
    have hc : sclL2 (Tr.cells B) = true := (TrS.scl B hok).1
    show ((V.agg (Tr.cells B)).scl2 && (true && (true && true))) = true
    rw [show (V.agg (Tr.cells B)).scl2 = sclL2 (Tr.cells B) from rfl, hc]; rfl
  rintro r H2 ⟨B, ⟨rfl, hB⟩, hn2⟩
  have bfl := hn2.own.ok.1.flat
  have bon := hn2.own.ok.1.scl.2
  have l2 : H1.length + 1 ≤ H2.length := by have := hn2.only.len; simp at this; omega
  have dF : ∀ G : Heap, decA (α := Func) G (.agg [.d (.int .i64 F.params_), .d (dBlockS F.blocks_)]) = (True, F) := fun G => Prod.ext (eq_true ⟨rfl, trivial, of_eq_true (congrArg Prod.fst (dec_ro (α := Block) (H := G) (l := F.blocks_)))⟩) (congrArg (Func.mk F.params_) (congrArg Prod.snd (dec_ro (α := Block) (H := G) (l := F.blocks_))))
  have dW : ∀ G : Heap, decA (α := Func) G (.agg [.d (.int .i64 W.params_), .d (dBlockS W.blocks_)]) = (True, W) := fun G => Prod.ext (eq_true ⟨rfl, trivial, of_eq_true (congrArg Prod.fst (dec_ro (α := Block) (H := G) (l := W.blocks_)))⟩) (congrArg (Func.mk W.params_) (congrArg Prod.snd (dec_ro (α := Block) (H := G) (l := W.blocks_))))
  have iA : ∀ j ∈ ids A, 2 ≤ j ∧ j < H1.length := fun j hj => ⟨hn1.fresh j hj, hn1.own.lt hj⟩
  have iB : ∀ j ∈ ids B, H1.length + 1 ≤ j ∧ j < H2.length := fun j hj => ⟨by have := hn2.fresh j hj; simp at this; omega, hn2.own.lt hj⟩
  have old2 : ∀ j, j < H1.length → ∀ R : Heap, (H2 ++ R)[j]? = H1[j]? := fun j hj R => (List.getElem?_append_left (by omega)).trans ((hn2.only.at_ j (by simp; omega) List.not_mem_nil).trans (List.getElem?_append_left hj))
  have k0 : ∀ R : Heap, (H2 ++ R)[0]? = some (.row 2 [[.d (.int .i64 F.params_), .d (dBlockS F.blocks_)]]) := fun R => (old2 0 (by omega) R).trans g0
  have k0' : ∀ (R : Heap) (h : 0 < (H2 ++ R).length), (H2 ++ R)[0] = .row 2 [[.d (.int .i64 F.params_), .d (dBlockS F.blocks_)]] := fun R h => Option.some.inj ((List.getElem?_eq_getElem h).symm.trans (k0 R))
  have k1 : ∀ R : Heap, (H2 ++ R)[1]? = some (.row 2 [[.d (.int .i64 W.params_), .d (dBlockS W.blocks_)]]) := fun R => (old2 1 (by omega) R).trans g1
  have k8 : ∀ R : Heap, (H2 ++ R)[H1.length]? = some (.row 2 [[.d (.int .i64 A.params_), .sl A.blocks_.id 5 0 F.blocks_.length]]) := fun R => (List.getElem?_append_left (by omega)).trans ((hn2.only.at_ _ (by simp) List.not_mem_nil).trans List.getElem?_concat_length)
  have oA2 : Own (H2 ++ [.row 2 [[.d (.int .i64 B.params_), B.blocks_.v]]]) A := (ho1.frame hn2.only fun j _ hj => absurd hj List.not_mem_nil).frame (Only.app [] _ _) fun j _ hj => absurd hj List.not_mem_nil
  have oB2 : Own (H2 ++ [.row 2 [[.d (.int .i64 B.params_), B.blocks_.v]]]) B := hn2.own.frame (Only.app [] _ _) fun j _ hj => absurd hj List.not_mem_nil
  have dA : decA (α := Func) (H2 ++ [.row 2 [[.d (.int .i64 B.params_), B.blocks_.v]]]) (.agg [.d (.int .i64 A.params_), .sl A.blocks_.id 5 0 F.blocks_.length]) = (True, F) := by
    have := decA_A oA2 rfl
    rw [cells_AFunc, hAv, hA] at this
    exact this
  have dB : decA (α := Func) (H2 ++ [.row 2 [[.d (.int .i64 B.params_), B.blocks_.v]]]) (.agg [.d (.int .i64 B.params_), B.blocks_.v]) = (True, W) := by
    have := decA_A oB2 rfl
    rw [cells_AFunc, hB] at this
    exact this
  simp [K_14_f, K_14_e, K_16_f, K_16_e, K_25_f, K_25_e, K_14h_f, K_14h_e, K_16h_f, K_16h_e, K_25h_f, K_25h_e, K_18h_f, K_18h_e, K_20h_f, K_20h_e, K_14h_g, K_16h_g, K_25h_g, K_18h_g, K_20h_g, -V.flat, -V.one, one_int, one_bool, one_str, one_nilp, one_rp, one_nilsl, one_ro, one_cl, one_nilf, one_nili, one_ifc, one_ptr, one_sl, one_clo, flat_d, flat_ptr, flat_sl, flat_clo, flat_agg, -decA, decA_int, decA_bool, decA_str, hF, hs, hsW, hAv, bfl, bon, k0', k1, k8, dA, dB, dF, dW]
  have leF := mFunc_le hs 1
  have leW := mFunc_le hsW 1
  have lenA : A.blocks_.l.length ≤ 4000000000000000000 := by
    have := small_len hs.2
    have e := congrArg (fun q => List.length (Func.blocks_ q)) hA
    have e2 : A.blocks_.l.length = F.blocks_.length := by rw [← e]; exact (List.length_map _).symm
    omega
  have lenB : B.blocks_.l.length ≤ 4000000000000000000 := by
    have := small_len hsW.2
    have e := congrArg (fun q => List.length (Func.blocks_ q)) hB
    have e2 : B.blocks_.l.length = W.blocks_.length := by rw [← e]; exact (List.length_map _).symm
    omega
  have hm := markFunc_own _ A 1 oA2 (by decide) (by rw [hA]; omega) lenA
  rw [cells_AFunc, hAv] at hm
  refine hm.mono ?_
  rintro r H3 ⟨rfl, A3, _, _, _, o3, _⟩
  have hk0 : 1 ≤ (mFunc F 1).2 := mBlock_mono F.blocks_ 1
  have hk1 : ¬ (mFunc F 1).2 < 0 := by omega
  rw [hA]
  have l3 : H2.length + 1 ≤ H3.length := by have := o3.len; simp at this; omega
  have m0 : H3[0]? = some (.row 2 [[.d (.int .i64 F.params_), .d (dBlockS F.blocks_)]]) := (o3.at_ 0 (by simp) fun hj => by have := iA 0 hj; omega).trans (k0 _)
  have m1 : H3[1]? = some (.row 2 [[.d (.int .i64 W.params_), .d (dBlockS W.blocks_)]]) := (o3.at_ 1 (by simp; omega) fun hj => by have := iA 1 hj; omega).trans (k1 _)
  have mB : H3[H2.length]? = some (.row 2 [[.d (.int .i64 B.params_), B.blocks_.v]]) := (o3.at_ _ (by simp) fun hj => by have := iA _ hj; omega).trans List.getElem?_concat_length
  have oB3 : Own H3 B := oB2.frame o3 fun j hj hk => by have := iB j hj; have := iA j hk; omega
  have dB3 : decA (α := Func) H3 (.agg [.d (.int .i64 B.params_), B.blocks_.v]) = (True, W) := by
    have := decA_A oB3 rfl
    rw [cells_AFunc, hB] at this
    exact this
  simp [K_14_f, K_14_e, K_16_f, K_16_e, K_25_f, K_25_e, K_14h_f, K_14h_e, K_16h_f, K_16h_e, K_25h_f, K_25h_e, K_18h_f, K_18h_e, K_20h_f, K_20h_e, K_14h_g, K_16h_g, K_25h_g, K_18h_g, K_20h_g, -V.flat, -V.one, one_int, one_bool, one_str, one_nilp, one_rp, one_nilsl, one_ro, one_cl, one_nilf, one_nili, one_ifc, one_ptr, one_sl, one_clo, flat_d, flat_ptr, flat_sl, flat_clo, flat_agg, -decA, decA_int, decA_bool, decA_str, hF, hs, hsW, bfl, bon, m0, m1, mB, dB3, dW, hk1]
  have hm2 := markFunc_own H3 B 1 oB3 (by decide) (by rw [hB]; omega) lenB
  rw [cells_AFunc] at hm2
  refine hm2.mono ?_
  rintro r H4 ⟨rfl, B4, oB4, iB4, cB4, o4, eB4⟩
  rw [hB] at eB4 ⊢
  have hw0 : 1 ≤ (mFunc W 1).2 := mBlock_mono W.blocks_ 1
  have hps : ¬ (mFunc W 1).2 < 0 := by omega
  have hbd : (mFunc W 1).2 ≤ 4000000000000000000 := by omega
  have hid := mFunc_idem W 1
  have l4 : H3.length ≤ H4.length := o4.len
  have n0 : H4[0]? = some (.row 2 [[.d (.int .i64 F.params_), .d (dBlockS F.blocks_)]]) := (o4.at_ 0 (by omega) fun hj => by have := iB 0 hj; omega).trans m0
  have n1 : H4[1]? = some (.row 2 [[.d (.int .i64 W.params_), .d (dBlockS W.blocks_)]]) := (o4.at_ 1 (by omega) fun hj => by have := iB 1 hj; omega).trans m1
  have nB : H4[H2.length]? = some (.row 2 [[.d (.int .i64 B.params_), B.blocks_.v]]) := (o4.at_ _ (by omega) fun hj => by have := iB _ hj; omega).trans mB
  have cB4' : Tr.cells B4 = [.d (.int .i64 B.params_), B.blocks_.v] := cB4
  have dB4 : decA (α := Func) H4 (.agg [.d (.int .i64 B.params_), B.blocks_.v]) = (True, (mFunc W 1).1) := by
    have := decA_A oB4 rfl
    rw [cB4', eB4] at this
    exact this
  simp [K_14_f, K_14_e, K_16_f, K_16_e, K_25_f, K_25_e, K_14h_f, K_14h_e, K_16h_f, K_16h_e, K_25h_f, K_25h_e, K_18h_f, K_18h_e, K_20h_f, K_20h_e, K_14h_g, K_16h_g, K_25h_g, K_18h_g, K_20h_g, -V.flat, -V.one, one_int, one_bool, one_str, one_nilp, one_rp, one_nilsl, one_ro, one_cl, one_nilf, one_nili, one_ifc, one_ptr, one_sl, one_clo, flat_d, flat_ptr, flat_sl, flat_clo, flat_agg, -decA, decA_int, decA_bool, decA_str, hF, hs, hsW, bfl, bon, n0, n1, nB, dB4, dW, hid, hps, hbd]
  refine (imDropBlocks_own H4 F hF).mono ?_
  rintro r H5 ⟨C, rfl, hC, hn5⟩
  rw [hW] at hC
  have cfl := hn5.own.ok.1.flat
  have con := hn5.own.ok.1.scl.2
  have old5 : ∀ j, j < H4.length → ∀ R : Heap, (H5 ++ R)[j]? = H4[j]? := fun j hj R => (List.getElem?_append_left (by have := hn5.only.len; omega)).trans (hn5.only.at_ j hj List.not_mem_nil)
  have p1 : ∀ R : Heap, (H5 ++ R)[1]? = some (.row 2 [[.d (.int .i64 W.params_), .d (dBlockS W.blocks_)]]) := fun R => (old5 1 (by omega) R).trans n1
  have pB : ∀ R : Heap, (H5 ++ R)[H2.length]? = some (.row 2 [[.d (.int .i64 B.params_), B.blocks_.v]]) := fun R => (old5 _ (by omega) R).trans nB
  have dC5 : decA (α := Func) (H5 ++ [.row 2 [[.d (.int .i64 C.params_), C.blocks_.v]]]) (.agg [.d (.int .i64 C.params_), C.blocks_.v]) = (True, W) := by
    have := decA_A (hn5.own.frame (Only.app [] _ [.row 2 [[.d (.int .i64 C.params_), C.blocks_.v]]]) fun j _ hj => absurd hj List.not_mem_nil) rfl
    rw [cells_AFunc, hC] at this
    exact this
  have dB5 : decA (α := Func) (H5 ++ [.row 2 [[.d (.int .i64 C.params_), C.blocks_.v]]]) (.agg [.d (.int .i64 B.params_), B.blocks_.v]) = (True, (mFunc W 1).1) := by
    have := decA_A ((oB4.frame hn5.only fun j _ hj => absurd hj List.not_mem_nil).frame (Only.app [] _ [.row 2 [[.d (.int .i64 C.params_), C.blocks_.v]]]) fun j _ hj => absurd hj List.not_mem_nil) rfl
    rw [cB4', eB4] at this
    exact this
  simp [K_14_f, K_14_e, K_16_f, K_16_e, K_25_f, K_25_e, K_14h_f, K_14h_e, K_16h_f, K_16h_e, K_25h_f, K_25h_e, K_18h_f, K_18h_e, K_20h_f, K_20h_e, K_14h_g, K_16h_g, K_25h_g, K_18h_g, K_20h_g, -V.flat, -V.one, one_int, one_bool, one_str, one_nilp, one_rp, one_nilsl, one_ro, one_cl, one_nilf, one_nili, one_ifc, one_ptr, one_sl, one_clo, flat_d, flat_ptr, flat_sl, flat_clo, flat_agg, -decA, decA_int, decA_bool, decA_str, hF, hs, hsW, bfl, bon, cfl, con, p1, pB, dC5, dB5, dW, hid, hps, hbd]
namespace fnExactDropBlocks
open Go.ChangeShapes Go.WideShapes Go.RowKit
theorem own : ownKnob Tryz.prog.godebug = none := by kernel_rfl
theorem lifted (os : Os) (started : os.Started) (H : Type) (enc : TypeId × Value → H) :
    ReturnsInHanded {} Tryz.checked os 6 .any (Rows.fnExactDropBlocksSpec.pre6 enc Tryz.prog Tryz.f6 Rows.fnExactDropBlocksRow.domain false) (Rows.fnExactDropBlocksSpec.post enc Tryz.prog Tryz.f6 false true false false) := by
  refine returnsInHanded_of_change (C := Tryz.checked) own started (by kernel_rfl) Tryz.func6
    (ChangeSpec.witness6 (enc := enc) (C := Tryz.checked) false ⟨#[], #[.agg #[.int .i64 0, .slice none 0 0]], []⟩ 8 (by kernel_rfl) (by kernel_rfl) (by kernel_rfl) (by kernel_rfl)) ?_
  intro W base args ds gs before hval hW hcnd _
  have hW' := hW
  obtain ⟨p, q, hA, hV, _, _, _⟩ := hW
  rw [Tryz.params6] at hA hval
  obtain ⟨v0, vs0, d0, ds0, p0, q0, hargs, rfl, rfl, h0, r0⟩ := trodAll_cons hA
  obtain ⟨rfl, rfl, rfl⟩ := trodAll_nil r0
  obtain rfl : args = #[v0] := by cases args; simp_all
  obtain ⟨F, hF, hv0⟩ := arg_of rd_Func (hval 0 24 v0 rfl rfl) h0
  obtain ⟨rfl, rfl⟩ := trodVars_none hV
  exact row_end (by kernel_rfl) (by kernel_rfl) (by kernel_rfl) Tryz.underlying4 hW' rfl rfl rfl rfl (vs := [argV F]) (by exact ⟨v0, _, rfl, hv0, rfl⟩) (law_DropBlocks F hF)
theorem over : Rows.fnExactDropBlocksRow.holds Tryz.pinned (OpenSpec.ofChange Rows.fnExactDropBlocksSpec) :=
  OpenClaim.holds_of_wide 6 Tryz.f6 rfl rfl rfl rfl rfl rfl rfl ⟨rfl, rfl, rfl, rfl, rfl⟩ rfl rfl rfl rfl rfl (by kernel_rfl) Tryz.func6 (by kernel_rfl)
    (of_decide_eq_true (by kernel_rfl)) (by unfold Func.isWrapper; first | (rw [if_pos (by decide +kernel)]; kernel_rfl) | (rw [if_neg (by decide +kernel)]; exact ⟨rfl, rfl⟩))
    (fun os started H enc _ => lifted os started H enc)
end fnExactDropBlocks
theorem fnExactDropBlocks_holds : Rows.FnExactDropBlocksSaid := fnExactDropBlocks.over
end Go.Proofs.YtbmloeahcdneaaaGreat
end
