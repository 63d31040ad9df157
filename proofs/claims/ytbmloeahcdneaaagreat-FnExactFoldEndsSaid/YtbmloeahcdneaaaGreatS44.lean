/- Redirect of the program: its answer owns its memory. No condition. -/
import Derived.Test.YtbmloeahcdneaaaGreatS43
namespace Go.Proofs.YtbmloeahcdneaaaGreat
set_option maxRecDepth 100000
set_option linter.unusedSimpArgs false
set_option linter.unusedVariables false
/-- The end of a call that answers no function. -/
theorem fin_nilF {H R : Heap} {r : V} {Q : V → Heap → Prop} (hq : ∀ (A : AFunc) H', Tr.cells A = [.d (.int .i64 0), .d .nilsl] → Tr.era A = ⟨0, []⟩ → New H H' A → Q r H') : ∃ r' H', Fin H.length (H ++ R) r H' r' ∧ Q r' H' :=
  fin_new (a := (⟨0, ⟨.d .nilsl, []⟩⟩ : AFunc)) (AFunc.own ⟨⟨.inr ⟨rfl, .inl rfl⟩, fun a ha => absurd ha List.not_mem_nil⟩, fun q hq => absurd hq List.not_mem_nil, List.nodup_nil⟩) (Only.app _ _ _) (fun j hj => absurd hj List.not_mem_nil) fun H' h' => hq _ H' rfl rfl h'
theorem smallA_of {A : AFunc} {F : Func} (h : smallF F) (e : Tr.era A = F) : smallA A := by
  have eb : (Tr.era A).blocks_ = A.blocks_.l.map Tr.era := rfl
  have hl : A.blocks_.l.length = F.blocks_.length := by rw [← e, eb, List.length_map]
  refine ⟨by rw [hl]; have := h.1; omega, fun b hb => ?_⟩
  have hm : Tr.era b ∈ F.blocks_ := by rw [← e, eb]; exact List.mem_map.2 ⟨b, hb, rfl⟩
  obtain ⟨h1, h2, h3, h4⟩ := h.2 _ hm
  have i1 : (Tr.era b).insts_ = b.insts_.l.map Tr.era := rfl
  have j1 : (Tr.era b).jumps_ = b.jumps_.l.map Tr.era := rfl
  rw [i1] at h1 h3
  rw [j1] at h2 h4
  rw [List.length_map] at h1 h2
  refine ⟨by omega, by omega, fun x hx => ?_, fun x hx => ?_⟩
  · have := h3 _ (List.mem_map.2 ⟨x, hx, rfl⟩)
    have e2 : (Tr.era x).args_ = x.args_.l.map Tr.era := rfl
    rw [e2, List.length_map] at this; exact this
  · have := h4 _ (List.mem_map.2 ⟨x, hx, rfl⟩)
    have e2 : (Tr.era x).args_ = x.args_.l.map Tr.era := rfl
    rw [e2, List.length_map] at this; exact this
theorem redirectI_own (H : Heap) (F : Func) (fr to : Int) (hF : Enc.good F) (h1 : Enc.good fr) (h2 : Enc.good to) : CallsD Tryz.prog 17 [vFunc F, .d (.int .i64 fr), .d (.int .i64 to)] H fun r H' => ∃ A : AFunc, r = .tup [.agg (Tr.cells A), .d (.bool (rdOk F fr to))] ∧ Tr.era A = rdF F fr to ∧ New H H' A := by
  have h3 : Enc.good [fr, to] := ⟨by simp, fun x hx => by
    simp only [List.mem_cons, List.not_mem_nil, or_false] at hx
    rcases hx with rfl | rfl
    · exact h1
    · exact h2⟩
  cases hs : soundF F with
  | false =>
    have e1 : rdOk F fr to = false := by simp [rdOk, hs]
    have e2 : rdF F fr to = ⟨0, []⟩ := by simp [rdF, e1]
    refine calls_of Tryz.func17 en_17 rfl (of_decide_eq_true rfl) (W_run mixed ⟨[K_46, K_47], [K_46h, K_47h], [48, 49], 32, H.length, [0, 1, 2, 3, 6, 7, 8, 9, 24], [14, 24]⟩ (fun _ => []) (by kernel_rfl) ?_)
    simp only [Tryz.f17, stripX, stripOps, pickOps]
    simp [K_46_f, K_46_e, K_47_f, K_47_e, K_46h_f, K_46h_e, K_47h_f, K_47h_e, K_46h_g, K_47h_g, -V.flat, -V.one, one_int, one_bool, one_str, one_nilp, one_rp, one_nilsl, one_ro, one_cl, one_nilf, one_nili, one_ifc, one_ptr, one_sl, one_clo, flat_d, flat_ptr, flat_sl, flat_clo, flat_agg, hF, sound_N hs, retQ]
    exact fin_nilF fun A H' q1 q2 q3 => ⟨A, by rw [e1]; exact congrArg (fun c => V.tup [.agg c, .d (.bool false)]) q1.symm, by rw [e2, q2], q3⟩
  | true =>
    have hg := sound_good hs
    have ev : allIn [fr, to] 0 (IntKind.i64.wrap (many F - 1)) = (isVal F fr && isVal F to) := by rw [allIn2, isVal_inR hg, isVal_inR hg]
    cases hv : (isVal F fr && isVal F to) with
    | false =>
      have e1 : rdOk F fr to = false := by simp only [rdOk, hv, Bool.and_false]
      have e2 : rdF F fr to = ⟨0, []⟩ := by simp [rdF, e1]
      rw [hv] at ev
      refine calls_of Tryz.func17 en_17 rfl (of_decide_eq_true rfl) (W_run mixed ⟨[K_46, K_47], [K_46h, K_47h], [48, 49], 32, H.length, [0, 1, 2, 3, 6, 7, 8, 9, 24], [14, 24]⟩ (fun _ => []) (by kernel_rfl) ?_)
      simp only [Tryz.f17, stripX, stripOps, pickOps]
      simp [K_46_f, K_46_e, K_47_f, K_47_e, K_46h_f, K_46h_e, K_47h_f, K_47h_e, K_46h_g, K_47h_g, -V.flat, -V.one, one_int, one_bool, one_str, one_nilp, one_rp, one_nilsl, one_ro, one_cl, one_nilf, one_nili, one_ifc, one_ptr, one_sl, one_clo, flat_d, flat_ptr, flat_sl, flat_clo, flat_agg, hF, sound_V hs, h3, ways_view, viewD_total, ev, retQ]
      exact fin_nilF fun A H' q1 q2 q3 => ⟨A, by rw [e1]; exact congrArg (fun c => V.tup [.agg c, .d (.bool false)]) q1.symm, by rw [e2, q2], q3⟩
    | true =>
      have e1 : rdOk F fr to = true := by simp only [rdOk, hs, hv, Bool.and_self]
      have e2 : rdF F fr to = mpF (rdG fr to) F := by simp [rdF, e1]
      rw [hv] at ev
      refine calls_of Tryz.func17 en_17 rfl (of_decide_eq_true rfl) (W_run mixed ⟨[K_46, K_47], [K_46h, K_47h], [48, 49], 32, H.length, [0, 1, 2, 3, 6, 7, 8, 9, 24], [14, 24]⟩ (fun _ => []) (by kernel_rfl) ?_)
      simp only [Tryz.f17, stripX, stripOps, pickOps]
      simp [K_46_f, K_46_e, K_47_f, K_47_e, K_46h_f, K_46h_e, K_47h_f, K_47h_e, K_46h_g, K_47h_g, -V.flat, -V.one, one_int, one_bool, one_str, one_nilp, one_rp, one_nilsl, one_ro, one_cl, one_nilf, one_nili, one_ifc, one_ptr, one_sl, one_clo, flat_d, flat_ptr, flat_sl, flat_clo, flat_agg, hF, sound_V hs, h3, ways_view, viewD_total, ev, retQ]
      refine (cloneFunc_own _ F (good_small hg)).mono ?_
      rintro r H1 ⟨A, rfl, hA, hn⟩
      have hfl := hn.own.ok.1.flat
      have hone := hn.own.ok.1.scl.2
      have hlt : ∀ j ∈ ids A, j < H1.length := fun j hj => hn.own.lt hj
      have hge : ∀ j ∈ ids A, H.length + 3 ≤ j := fun j hj => by have := hn.fresh j hj; simp at this; omega
      have h1l : H.length + 3 ≤ H1.length := by have := hn.only.len; simp at this; omega
      simp [K_46_f, K_46_e, K_47_f, K_47_e, K_46h_f, K_46h_e, K_47h_f, K_47h_e, K_46h_g, K_47h_g, -V.flat, -V.one, one_int, one_bool, one_str, one_nilp, one_rp, one_nilsl, one_ro, one_cl, one_nilf, one_nili, one_ifc, one_ptr, one_sl, one_clo, flat_d, flat_ptr, flat_sl, flat_clo, flat_agg, hfl, hone, retQ]
      refine (redirect_own _ A H1.length fr to List.getElem?_concat_length (hn.own.frame (Only.app [] _ _) fun j _ hj => absurd hj List.not_mem_nil) (fun q => Nat.lt_irrefl _ (hlt _ q)) (smallA_of (good_small hg) hA)).mono ?_
      rintro r H2 ⟨rfl, bs, ob, vb, ib, oo, eb⟩
      have h2l : H1.length + 1 ≤ H2.length := by have := oo.len; simp at this; omega
      have k9 : H2[H1.length]? = some (.row 2 [[.d (.int .i64 A.params_), A.blocks_.v]]) := (oo.at_ _ (by simp) fun q => Nat.lt_irrefl _ (hlt _ q)).trans List.getElem?_concat_length
      have old : ∀ j, j < H.length + 3 → H2[j]? = H1[j]? := fun j hj => (oo.at_ j (by simp; omega) fun q => by have := hge j q; omega).trans (List.getElem?_append_left (by omega))
      have k6 : H2[H.length + 1]? = some (.row 2 [[.d (.int .i64 0), .d .nilsl]]) := (old _ (by omega)).trans ((hn.only.at_ _ (by simp) List.not_mem_nil).trans (by simp))
      have s6 : ∀ p, (H2.set (H.length + 1) p)[H.length + 1]? = some p := fun p => List.getElem?_set_self (by omega)
      have hib : ∀ j ∈ ids bs, j ∈ ids A := fun j hj => ib ▸ hj
      simp [K_46_f, K_46_e, K_47_f, K_47_e, K_46h_f, K_46h_e, K_47h_f, K_47h_e, K_46h_g, K_47h_g, -V.flat, -V.one, one_int, one_bool, one_str, one_nilp, one_rp, one_nilsl, one_ro, one_cl, one_nilf, one_nili, one_ifc, one_ptr, one_sl, one_clo, flat_d, flat_ptr, flat_sl, flat_clo, flat_agg, hfl, hone, k9, k6, s6, retQ]
      refine fin_new (a := (⟨A.params_, bs⟩ : AFunc)) (AFunc.own (ob.frame (S := [H.length + 1]) Only.set fun j hj q => by have := hge j (hib j hj); simp at q; omega)) ⟨by simp; omega, fun j hj _ => ?_⟩ (fun j hj => by have := hge j (hib j hj); omega) fun H' h' => ⟨_, by rw [e1]; exact congrArg (fun c => V.tup [.agg [.d (.int .i64 A.params_), c], .d (.bool true)]) vb.symm, ?_, h'⟩
      · rw [List.getElem?_set_ne (by omega)]
        exact (old j (by omega)).trans ((hn.only.at_ j (by simp; omega) List.not_mem_nil).trans (List.getElem?_append_left hj))
      · rw [e2]
        show Func.mk A.params_ (Tr.era bs) = mpF (rdG fr to) F
        rw [eb, ← hA]; rfl
end Go.Proofs.YtbmloeahcdneaaaGreat
