/- impl.FoldEnds: its answer owns its memory. No condition. -/
import Derived.Test.YtbmloeahcdneaaaGreatS50
import Derived.Test.YtbmloeahcdneaaaGreatS44
namespace Go.Proofs.YtbmloeahcdneaaaGreat
set_option maxRecDepth 100000
set_option linter.unusedSimpArgs false
set_option linter.unusedVariables false
/-- What folding makes of a function, and how often. -/
noncomputable def feF (F : Func) : Func := if soundF F = true then ⟨F.params_, F.blocks_.map (foldB F)⟩ else ⟨0, []⟩
noncomputable def feK (F : Func) : Int := if soundF F = true then (F.blocks_.map (foldK F)).sum else 0
theorem foldEndsI_own (H : Heap) (F : Func) (hF : Enc.good F) : CallsD Tryz.prog 54 [vFunc F, .d (.clo 55 0 fun _ => .undef)] H fun r H' => ∃ A : AFunc, r = .tup [.agg (Tr.cells A), .d (.int .i64 (feK F)), .d (.bool (soundF F))] ∧ Tr.era A = feF F ∧ New H H' A := by
  cases hs : soundF F with
  | false =>
    have e1 : feK F = 0 := by simp [feK, hs]
    have e2 : feF F = ⟨0, []⟩ := by simp [feF, hs]
    refine calls_of Tryz.func54 en_54 rfl (of_decide_eq_true rfl) (W_run mixed ⟨[K_46], [K_46h], [48], 19, H.length, [0, 1, 2, 4, 5, 6, 7, 8, 11], [11]⟩ (fun _ => []) (by kernel_rfl) ?_)
    simp only [Tryz.f54, stripX, stripOps, pickOps]
    simp [K_46_f, K_46_e, K_46h_f, K_46h_e, K_46h_g, -V.flat, -V.one, one_int, one_bool, one_str, one_nilp, one_rp, one_nilsl, one_ro, one_cl, one_nilf, one_nili, one_ifc, one_ptr, one_sl, one_clo, flat_d, flat_ptr, flat_sl, flat_clo, flat_agg, hF, sound_N hs, retQ]
    exact fin_nilF fun A H' q1 q2 q3 => ⟨A, by rw [e1]; exact congrArg (fun c => V.tup [.agg c, .d (.int .i64 0), .d (.bool false)]) q1.symm, by rw [e2, q2], q3⟩
  | true =>
    have hg := sound_good hs
    have e1 : feK F = (F.blocks_.map (foldK F)).sum := by simp [feK, hs]
    have e2 : feF F = ⟨F.params_, F.blocks_.map (foldB F)⟩ := by simp [feF, hs]
    refine calls_of Tryz.func54 en_54 rfl (of_decide_eq_true rfl) (W_run mixed ⟨[K_46], [K_46h], [48], 19, H.length, [0, 1, 2, 4, 5, 6, 7, 8, 11], [11]⟩ (fun _ => []) (by kernel_rfl) ?_)
    simp only [Tryz.f54, stripX, stripOps, pickOps]
    simp [K_46_f, K_46_e, K_46h_f, K_46h_e, K_46h_g, -V.flat, -V.one, one_int, one_bool, one_str, one_nilp, one_rp, one_nilsl, one_ro, one_cl, one_nilf, one_nili, one_ifc, one_ptr, one_sl, one_clo, flat_d, flat_ptr, flat_sl, flat_clo, flat_agg, hF, sound_V hs, retQ]
    refine (cloneFunc_sol _ F (good_small hg)).mono ?_
    rintro r H1 ⟨A, rfl, ⟨hA, hsol⟩, hn⟩
    have hfl := hn.own.ok.1.flat
    have hone := hn.own.ok.1.scl.2
    have hlt : ∀ j ∈ ids A, j < H1.length := fun j hj => hn.own.lt hj
    simp [K_46_f, K_46_e, K_46h_f, K_46h_e, K_46h_g, -V.flat, -V.one, one_int, one_bool, one_str, one_nilp, one_rp, one_nilsl, one_ro, one_cl, one_nilf, one_nili, one_ifc, one_ptr, one_sl, one_clo, flat_d, flat_ptr, flat_sl, flat_clo, flat_agg, hfl, hone, retQ]
    have hge : ∀ j ∈ ids A, H.length + 2 ≤ j := fun j hj => by have := hn.fresh j hj; simp at this; omega
    have h1l : H.length + 2 ≤ H1.length := by have := hn.only.len; simp at this; omega
    refine (foldEnds_own _ A H1.length List.getElem?_concat_length (hn.own.frame (Only.app [] _ _) fun j _ hj => absurd hj List.not_mem_nil) hsol (fun q => Nat.lt_irrefl _ (hlt _ q)) (by rw [hA]; exact hg) (by rw [hA]; exact hF)).mono ?_
    rintro r H2 ⟨bs, rfl, ob, vb, sb, eb, ib, oo⟩
    rw [hA] at eb ⊢
    have iA : ∀ j ∈ ids A.blocks_, j ∈ ids A := fun j hj => hj
    have h2l : H1.length + 1 ≤ H2.length := by have := oo.len; simp at this; omega
    have k9 : H2[H1.length]? = some (.row 2 [[.d (.int .i64 A.params_), A.blocks_.v]]) := (oo.at_ _ (by simp) fun q => Nat.lt_irrefl _ (hlt _ (iA _ q))).trans List.getElem?_concat_length
    have old : ∀ j, j < H.length + 2 → H2[j]? = H1[j]? := fun j hj => (oo.at_ j (by simp; omega) fun q => by have := hge j (iA _ q); omega).trans (List.getElem?_append_left (by omega))
    have k6 : H2[H.length + 1]? = some (.row 2 [[.d (.int .i64 0), .d .nilsl]]) := (old _ (by omega)).trans ((hn.only.at_ _ (by simp) List.not_mem_nil).trans (by simp))
    have s6 : ∀ p, (H2.set (H.length + 1) p)[H.length + 1]? = some p := fun p => List.getElem?_set_self (by omega)
    have hib : ∀ j ∈ ids bs, H.length + 2 ≤ j := fun j hj => (ib j hj).elim (fun h => hge j (iA _ h)) fun h => by simp at h; omega
    simp [K_46_f, K_46_e, K_46h_f, K_46h_e, K_46h_g, -V.flat, -V.one, one_int, one_bool, one_str, one_nilp, one_rp, one_nilsl, one_ro, one_cl, one_nilf, one_nili, one_ifc, one_ptr, one_sl, one_clo, flat_d, flat_ptr, flat_sl, flat_clo, flat_agg, hfl, hone, k9, k6, s6, retQ]
    refine fin_new (a := (⟨A.params_, bs⟩ : AFunc)) (AFunc.own (ob.frame (S := [H.length + 1]) Only.set fun j hj q => by have := hib j hj; simp at q; omega)) ⟨by simp; omega, fun j hj _ => ?_⟩ (fun j hj => by have := hib j hj; omega) fun H' h' => ⟨_, by rw [e1]; exact congrArg (fun c => V.tup [.agg [.d (.int .i64 A.params_), c], .d (.int .i64 _), .d (.bool true)]) vb.symm, ?_, h'⟩
    · rw [List.getElem?_set_ne (by omega)]
      exact (old j (by omega)).trans ((hn.only.at_ j (by simp; omega) List.not_mem_nil).trans (List.getElem?_append_left hj))
    · rw [e2]
      show Func.mk A.params_ (Tr.era bs) = _
      rw [eb, ← hA]; rfl
theorem feI_own (H : Heap) (F : Func) (hF : Enc.good F) : CallsD Tryz.prog 22 [vFunc F] H fun r H' => ∃ A : AFunc, r = .tup [.agg (Tr.cells A), .d (.int .i64 (feK F)), .d (.bool (soundF F))] ∧ Tr.era A = feF F ∧ New H H' A := by
  refine calls_of Tryz.func22 en_22 rfl (of_decide_eq_true rfl) (W_run mixed ⟨[], [], [54, 55], 10, H.length, [0, 1, 2, 3, 4], []⟩ (fun _ => []) (by kernel_rfl) ?_)
  simp only [Tryz.f22, stripX, stripOps, pickOps]
  simp [-V.flat, -V.one, one_int, one_bool, one_str, one_nilp, one_rp, one_nilsl, one_ro, one_cl, one_nilf, one_nili, one_ifc, one_ptr, one_sl, one_clo, flat_d, flat_ptr, flat_sl, flat_clo, flat_agg, hF, retQ]
  refine (foldEndsI_own _ F hF).mono ?_
  rintro r H1 ⟨A, rfl, hA, hn⟩
  have hfl := hn.own.ok.1.flat
  have hone := hn.own.ok.1.scl.2
  have hge : ∀ j ∈ ids A, H.length + 2 ≤ j := fun j hj => by have := hn.fresh j hj; simp at this; omega
  have hl := hn.only.len
  simp only [List.length_append, List.length_cons, List.length_nil] at hl
  have k6 : H1[H.length + 1]? = some (.row 2 [[.d (.int .i64 0), .d .nilsl]]) := (hn.only.at_ _ (by simp) List.not_mem_nil).trans (by simp)
  have s6 : ∀ p, (H1.set (H.length + 1) p)[H.length + 1]? = some p := fun p => List.getElem?_set_self (by omega)
  simp [-V.flat, -V.one, one_int, one_bool, one_str, one_nilp, one_rp, one_nilsl, one_ro, one_cl, one_nilf, one_nili, one_ifc, one_ptr, one_sl, one_clo, flat_d, flat_ptr, flat_sl, flat_clo, flat_agg, hfl, hone, k6, s6, retQ]
  refine fin_new (a := A) (hn.own.frame (S := [H.length + 1]) Only.set fun j hj q => by have := hge j hj; simp at q; omega) ⟨by simp; omega, fun j hj _ => ?_⟩ (fun j hj => by have := hge j hj; omega) fun H' h' => ⟨A, rfl, hA, h'⟩
  rw [List.getElem?_set_ne (by omega)]
  exact (hn.only.at_ j (by simp; omega) List.not_mem_nil).trans (List.getElem?_append_left hj)
end Go.Proofs.YtbmloeahcdneaaaGreat
