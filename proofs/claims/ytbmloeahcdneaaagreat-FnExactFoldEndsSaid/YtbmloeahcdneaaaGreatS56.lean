/- spec.FoldEnds and the law FoldEnds. No condition. -/
import Derived.Test.YtbmloeahcdneaaaGreatS52
import Derived.Test.YtbmloeahcdneaaaGreatS36
import Derived.Test.YtbmloeahcdneaaaGreatRd
import Derived.Test.YtbmloeahcdneaaaGreatRows
namespace Go.Proofs.YtbmloeahcdneaaaGreat
set_option maxRecDepth 100000
set_option linter.unusedSimpArgs false
set_option linter.unusedVariables false
theorem l15Ends_own (H : Heap) (F : Func) (hF : Enc.good F) (hg : goodF F = true) : CallsD Tryz.prog 53 [vFunc F] H fun r H' => ∃ A : CFunc, r = .tup [.agg (Tr.cells A), .d (.int .i64 (F.blocks_.map (foldK F)).sum)] ∧ Own H' A ∧ Tr.era A = ⟨F.params_, F.blocks_.map (foldB F)⟩ ∧ Only [] H H' ∧ ∀ j ∈ ids A, H.length ≤ j := by
  obtain ⟨hp, hl, hh, hm, hc, hsu, _⟩ := goodF_spec hg
  refine calls_of Tryz.func53 en_53 rfl (of_decide_eq_true rfl) (W_run mixed ⟨[K_99], [K_99h], [98], 67, H.length, [0, 1, 2, 3, 4, 5, 6, 7, 8, 9, 10, 14, 15, 16, 17, 34, 40], [17, 31, 34, 40]⟩ (fun _ => []) (by kernel_rfl) ?_)
  simp only [Tryz.f53, stripX, stripOps, pickOps]
  simp [K_99_f, K_99_e, K_99h_f, K_99h_e, K_99h_g, -V.flat, -V.one, one_int, one_bool, one_str, one_nilp, one_rp, one_nilsl, one_ro, one_cl, one_nilf, one_nili, one_ifc, one_ptr, one_sl, one_clo, flat_d, flat_ptr, flat_sl, flat_clo, flat_agg, hF]
  refine (l15Own_own _ F hF hg).mono ?_
  rintro r H0 ⟨A, rfl, oA, eA, ho, iA⟩
  have hfl := oA.ok.1.flat
  have hone := oA.ok.1.scl.2
  have hlF : F.blocks_.length = A.blocks_.l.length := by rw [← eA]; exact List.length_map _
  obtain ⟨rv, rr, rn, ri⟩ := (CFunc.own_blocks_ oA).row (by omega)
  have hl0 := ho.len
  simp only [List.length_append, List.length_cons, List.length_nil] at hl0
  have iA' : ∀ j ∈ ids A.blocks_, H.length + 2 ≤ j ∧ j < H0.length := fun j hj => ⟨by have := iA j hj; simp at this; omega, oA.lt hj⟩
  have hidA : A.blocks_.id ∈ ids A.blocks_ := by rw [ri]; exact List.mem_cons_self
  have kbx : ∀ R : Heap, (H0 ++ R)[H.length]? = some (.row 2 [[.d (.int .i64 F.params_), .d (dBlockS F.blocks_)]]) := fun R => (List.getElem?_append_left (by omega)).trans ((ho.at_ _ (by simp) List.not_mem_nil).trans (by simp))
  have ko : ∀ R : Heap, (H0 ++ R)[H.length + 1]? = some (.row 2 [[.d (.int .i64 0), .d .nilsl]]) := fun R => (List.getElem?_append_left (by omega)).trans ((ho.at_ _ (by simp) List.not_mem_nil).trans (by simp))
  have hv : A.blocks_.v = .sl A.blocks_.id 5 0 A.blocks_.l.length := rv
  simp [K_99_f, K_99_e, K_99h_f, K_99h_e, K_99h_g, -V.flat, -V.one, one_int, one_bool, one_str, one_nilp, one_rp, one_nilsl, one_ro, one_cl, one_nilf, one_nili, one_ifc, one_ptr, one_sl, one_clo, flat_d, flat_ptr, flat_sl, flat_clo, flat_agg, hv]
  have oA1 : Own (H0 ++ [.row 2 [[.d (.int .i64 A.params_), .sl A.blocks_.id 5 0 A.blocks_.l.length]]]) A := oA.frame (Only.app [] _ _) fun j _ hj => absurd hj List.not_mem_nil
  refine W_loopH (α := List CBlock × List CBlock × Int × Heap) (fun a => [(1, .ptr H.length 2 0 0), (2, .ptr (H.length + 1) 2 0 0), (4, .ptr H0.length 2 0 0), (5, .d (.int .i64 a.2.2.1)), (14, .sl A.blocks_.id 5 0 A.blocks_.l.length), (15, .d (.int .i64 A.blocks_.l.length)), (16, .d (.int .i64 a.1.length))]) (fun a => a.2.2.2)
    (fun a => FS A F (H0 ++ [.row 2 [[.d (.int .i64 A.params_), .sl A.blocks_.id 5 0 A.blocks_.l.length]]]) a.1 a.2.1 a.2.2.1 a.2.2.2) (fun a => A.blocks_.l.length - a.1.length) ([], A.blocks_.l, 0, H0 ++ [.row 2 [[.d (.int .i64 A.params_), .sl A.blocks_.id 5 0 A.blocks_.l.length]]]) ?_ ⟨CFunc.own_blocks_ oA1, rfl, rfl, rfl, Only.refl _ _, hidA, fun j hj => .inl hj, Nat.zero_le _⟩ ?_
  · simp
  rintro ⟨m, l, k, H1⟩ q
  replace q : FS A F (H0 ++ [.row 2 [[.d (.int .i64 A.params_), .sl A.blocks_.id 5 0 A.blocks_.l.length]]]) m l k H1 := q
  have hl1 := q.only.len
  simp only [List.length_append, List.length_cons, List.length_nil] at hl1
  have nin : ∀ j, j < H.length + 2 → j ∉ ids A.blocks_ := fun j hj h => by have := iA' j h; omega
  have b1 : H1[H.length]? = some (.row 2 [[.d (.int .i64 F.params_), .d (dBlockS F.blocks_)]]) := (q.only.at_ _ (by simp; omega) (nin _ (by omega))).trans (kbx _)
  have o1 : H1[H.length + 1]? = some (.row 2 [[.d (.int .i64 0), .d .nilsl]]) := (q.only.at_ _ (by simp; omega) (nin _ (by omega))).trans (ko _)
  have c1 : H1[H0.length]? = some (.row 2 [[.d (.int .i64 A.params_), .sl A.blocks_.id 5 0 A.blocks_.l.length]]) := (q.only.at_ _ (by simp) fun h => by have := iA' _ h; omega).trans List.getElem?_concat_length
  by_cases hin : A.blocks_.l.length ≤ m.length
  · have s1 : ∀ p, (H1.set (H.length + 1) p)[H.length + 1]? = some p := fun p => List.getElem?_set_self (by omega)
    refine W_run mixed ⟨[K_99], [K_99h], [98], 67, H.length, [0, 1, 2, 3, 4, 5, 6, 7, 8, 9, 10, 14, 15, 16, 17, 34, 40], [17, 31, 34, 40]⟩ (fun _ => []) (by kernel_rfl) ?_
    simp only [stripX, stripOps, pickOps]
    simp [K_99_f, K_99_e, K_99h_f, K_99h_e, K_99h_g, -V.flat, -V.one, one_int, one_bool, one_str, one_nilp, one_rp, one_nilsl, one_ro, one_cl, one_nilf, one_nili, one_ifc, one_ptr, one_sl, one_clo, flat_d, flat_ptr, flat_sl, flat_clo, flat_agg, retQ, c1, o1, s1, hin]
    refine ⟨fun h => absurd hin (by omega), ?_⟩
    have hl : l = [] := by rw [q.left]; exact List.drop_eq_nil_of_le hin
    subst hl
    have own := q.own
    have ii := q.idl
    have cnt := q.cnt
    have era := q.era
    rw [List.append_nil] at own ii
    rw [List.take_of_length_le (by omega)] at cnt era
    refine ⟨_, _, Fin.same (by simp; omega), (⟨A.params_, ⟨A.blocks_.v, m⟩⟩ : CFunc), by rw [cnt, hv], CFunc.own (own.frame (S := [H.length + 1]) Only.set fun j hj h => ?_), ?_, ⟨by simp; omega, fun j hj _ => ?_⟩, fun j hj => ?_⟩
    · rw [List.mem_singleton.1 h] at hj
      rcases ii _ hj with h | h
      · exact nin _ (by omega) h
      · simp only [List.length_append, List.length_singleton] at h; omega
    · show Func.mk A.params_ (m.map Tr.era) = _
      rw [era, ← eA]; rfl
    · rw [List.getElem?_set_ne (by omega)]
      exact (q.only.at_ j (by simp; omega) (nin _ (by omega))).trans ((List.getElem?_append_left (by omega)).trans ((ho.at_ j (by simp; omega) List.not_mem_nil).trans (List.getElem?_append_left hj)))
    · rcases ii j hj with h | h
      · have := (iA' j h).1; omega
      · simp only [List.length_append, List.length_singleton] at h; omega
  · have hi : m.length < A.blocks_.l.length := by omega
    obtain ⟨a, l', rfl⟩ : ∃ a l', l = a :: l' := by
      have := q.left
      rw [List.drop_eq_getElem_cons hi] at this
      exact ⟨_, _, this⟩
    have rw1 := q.own.row (by simp; omega)
    have hrow : H1[A.blocks_.id]? = some (.row 5 ((m ++ a :: l').map Tr.cells)) := rw1.2.1
    have lrow := (List.getElem?_eq_some_iff.1 hrow).1
    have hget : ((m ++ a :: l').map Tr.cells)[m.length]? = some [.d (.int .i64 a.params_), a.insts_.v, .d (.int .i64 a.end_), .d (.int .i64 a.value_), a.jumps_.v] := by
      rw [List.map_append, List.getElem?_append_right (by simp), List.length_map, Nat.sub_self, List.map_cons, List.getElem?_cons_zero, cells_CBlock]
    have hlen : ((m ++ a :: l').map Tr.cells).length = A.blocks_.l.length := by rw [List.length_map, q.len]
    have hget' : ∀ h : m.length < ((m ++ a :: l').map Tr.cells).length, ((m ++ a :: l').map Tr.cells)[m.length] = _ := fun h => Option.some.inj ((List.getElem?_eq_getElem h).symm.trans hget)
    have haO : Own H1 a := q.own.elems.get (by simp)
    have haA : a = A.blocks_.l[m.length] := by
      have := q.left
      rw [List.drop_eq_getElem_cons hi] at this
      exact (List.cons.inj this).1
    have ha : Tr.era a = F.blocks_[m.length]?.getD default := by
      rw [haA, ← eA]
      show _ = (A.blocks_.l.map Tr.era)[m.length]?.getD default
      rw [List.getElem?_map, List.getElem?_eq_getElem hi]; rfl
    have wi : IntKind.i64.wrap ((m.length : Int) + 1) = ((m.length + 1 : Nat) : Int) := by rw [wrap_id] <;> omega
    have oI := okI_all F a.value_ hh (by omega)
    have i1 := (CBlock.own_insts_ haO).ok.1
    have j1 := (CBlock.own_jumps_ haO).ok.1
    have if1 := i1.flat
    have io1 := i1.scl.2
    have jf1 := j1.flat
    have jo1 := j1.scl.2
    have b1R : ∀ R : Heap, (H1 ++ R)[H.length]? = _ := fun R => (List.getElem?_append_left (List.getElem?_eq_some_iff.1 b1).1).trans b1
    have c1R : ∀ R : Heap, (H1 ++ R)[H0.length]? = _ := fun R => (List.getElem?_append_left (List.getElem?_eq_some_iff.1 c1).1).trans c1
    generalize hrs : (m ++ a :: l').map Tr.cells = rows at hrow hget hget' hlen
    by_cases hf : a.end_ = 3 ∧ nuB F a.value_ = true
    · obtain ⟨h3, hb⟩ := hf
      have haF : Tr.era a ∈ F.blocks_ := by rw [ha, List.getElem?_eq_getElem (by omega)]; exact List.getElem_mem _
      have hj2 : a.jumps_.l.length = 2 := by
        obtain ⟨_, _, _, _, _, _, hbo⟩ := goodF_spec hg
        have h1 := List.all_eq_true.1 hbo _ haF
        have e3 : (Tr.era a).end_ = 3 := h3
        have ej : (Tr.era a).jumps_.length = a.jumps_.l.length := List.length_map _
        simp only [bodyOk, Bool.and_eq_true, endsOk, e3] at h1
        simp at h1
        omega
      obtain ⟨j0, j1, hj⟩ : ∃ j0 j1, a.jumps_.l = [j0, j1] := by
        match hjl : a.jumps_.l, hj2 with
        | [x, y], _ => exact ⟨x, y, rfl⟩
      have jr := (CBlock.own_jumps_ haO).row (by omega)
      have hjv : a.jumps_.v = .sl a.jumps_.id 2 0 2 := by have := jr.1; rw [hj2] at this; exact this
      have jrow : H1[a.jumps_.id]? = some (.row 2 [[.d (.int .i64 j0.to_), .d (dIntS j0.args_)], [.d (.int .i64 j1.to_), .d (dIntS j1.args_)]]) := by
        have := jr.2.1
        rw [hj] at this
        exact this
      have jrowR : ∀ R : Heap, (H1 ++ R)[a.jumps_.id]? = _ := fun R => (List.getElem?_append_left (List.getElem?_eq_some_iff.1 jrow).1).trans jrow
      have rowR : ∀ R : Heap, (H1 ++ R)[A.blocks_.id]? = some (.row 5 rows) := fun R => (List.getElem?_append_left lrow).trans hrow
      have setR : ∀ (R : Heap) p, (H1 ++ R).set A.blocks_.id p = H1.set A.blocks_.id p ++ R := fun R p => List.set_append_left _ _ lrow
      have s3 : ∀ (R : Heap) p, (H1.set A.blocks_.id p ++ R)[A.blocks_.id]? = some p := fun R p => (List.getElem?_append_left (by simpa using lrow)).trans (List.getElem?_set_self lrow)
      have s4 : ∀ (R : Heap) p x, (H1.set A.blocks_.id p ++ R).set A.blocks_.id x = H1.set A.blocks_.id x ++ R := fun R p x => by rw [List.set_append_left _ _ (by simpa using lrow), List.set_set]
      have s5 : ∀ (R : Heap) p, (H1.set A.blocks_.id p ++ R)[H0.length]? = some (.row 2 [[.d (.int .i64 A.params_), .sl A.blocks_.id 5 0 A.blocks_.l.length]]) := fun R p => by
        have := iA' _ hidA
        rw [List.getElem?_append_left (by simp; omega), List.getElem?_set_ne (by omega)]; exact c1
      have rset : ∀ x, (rows.set m.length x)[m.length]? = some x := fun x => List.getElem?_set_self (by omega)
      have rset' : ∀ x (h : m.length < (rows.set m.length x).length), (rows.set m.length x)[m.length] = x := fun x h => Option.some.inj ((List.getElem?_eq_getElem h).symm.trans (rset x))
      have wk : IntKind.i64.wrap (k + 1) = k + 1 := by
        have h1 := sumK (F := F) (F.blocks_.take m.length)
        rw [← q.cnt, List.length_take] at h1
        exact wrap_id (by omega) (by omega)
      rw [hjv] at hget hget'
      by_cases hz : nuN F a.value_ = 0
      · refine W_run mixed ⟨[K_99], [K_99h], [98], 67, H.length, [0, 1, 2, 3, 4, 5, 6, 7, 8, 9, 10, 14, 15, 16, 17, 34, 40], [17, 31, 34, 40]⟩ (fun _ => []) (by kernel_rfl) ?_
        simp only [stripX, stripOps, pickOps]
        simp [K_99_f, K_99_e, K_99h_f, K_99h_e, K_99h_g, -V.flat, -V.one, one_int, one_bool, one_str, one_nilp, one_rp, one_nilsl, one_ro, one_cl, one_nilf, one_nili, one_ifc, one_ptr, one_sl, one_clo, flat_d, flat_ptr, flat_sl, flat_clo, flat_agg, hF, b1R, c1R, hrow, hget, hget', hlen, hi, oI, if1, io1, h3, hb, hz, jrowR, rowR, setR, s3, s4, s5, rset, rset']
        have hp := fs_put q (by omega) ha (j := j1) (P := .row 5 [[.d (.int .i64 a.params_), a.insts_.v, .d (.int .i64 3), .d (.int .i64 a.value_), .sl a.jumps_.id 2 0 2]]) (P' := .row 2 [[.d (.int .i64 j1.to_), .d (dIntS j1.args_)]]) ⟨h3, hb⟩ (by show _ = (a.jumps_.l.map Tr.era)[_]?.getD default; rw [hj, show (Tr.era a).value_ = a.value_ from rfl, if_pos hz]; rfl)
        rw [hrs] at hp
        exact ⟨_, _, _, _, hp, by simp; omega, rfl, wk, by rw [wi]; simp⟩
      · refine W_run mixed ⟨[K_99], [K_99h], [98], 67, H.length, [0, 1, 2, 3, 4, 5, 6, 7, 8, 9, 10, 14, 15, 16, 17, 34, 40], [17, 31, 34, 40]⟩ (fun _ => []) (by kernel_rfl) ?_
        simp only [stripX, stripOps, pickOps]
        simp [K_99_f, K_99_e, K_99h_f, K_99h_e, K_99h_g, -V.flat, -V.one, one_int, one_bool, one_str, one_nilp, one_rp, one_nilsl, one_ro, one_cl, one_nilf, one_nili, one_ifc, one_ptr, one_sl, one_clo, flat_d, flat_ptr, flat_sl, flat_clo, flat_agg, hF, b1R, c1R, hrow, hget, hget', hlen, hi, oI, if1, io1, h3, hb, hz, jrowR, rowR, setR, s3, s4, s5, rset, rset']
        have hp := fs_put q (by omega) ha (j := j0) (P := .row 5 [[.d (.int .i64 a.params_), a.insts_.v, .d (.int .i64 3), .d (.int .i64 a.value_), .sl a.jumps_.id 2 0 2]]) (P' := .row 2 [[.d (.int .i64 j0.to_), .d (dIntS j0.args_)]]) ⟨h3, hb⟩ (by show _ = (a.jumps_.l.map Tr.era)[_]?.getD default; rw [hj, show (Tr.era a).value_ = a.value_ from rfl, if_neg hz]; rfl)
        rw [hrs] at hp
        exact ⟨_, _, _, _, hp, by simp; omega, rfl, wk, by rw [wi]; simp⟩
    · refine W_run mixed ⟨[K_99], [K_99h], [98], 67, H.length, [0, 1, 2, 3, 4, 5, 6, 7, 8, 9, 10, 14, 15, 16, 17, 34, 40], [17, 31, 34, 40]⟩ (fun _ => []) (by kernel_rfl) ?_
      simp only [stripX, stripOps, pickOps]
      simp [K_99_f, K_99_e, K_99h_f, K_99h_e, K_99h_g, -V.flat, -V.one, one_int, one_bool, one_str, one_nilp, one_rp, one_nilsl, one_ro, one_cl, one_nilf, one_nili, one_ifc, one_ptr, one_sl, one_clo, flat_d, flat_ptr, flat_sl, flat_clo, flat_agg, hF, b1R, c1R, hrow, hget, hget', hlen, hi, oI, if1, io1, jf1, jo1]
      exact ⟨fun h3 => ⟨_, _, _, _, q.skip ha (by omega) (fun h => h3 h.1), by simp; omega, rfl, rfl, by rw [wi]; simp⟩, fun h3 => ⟨fun hb => ⟨_, _, _, _, q.skip ha (by omega) (fun h => by rw [show (Tr.era a).value_ = a.value_ from rfl, hb] at h; exact absurd h.2 (by decide)), by simp; omega, rfl, rfl, by rw [wi]; simp⟩, fun hb => absurd ⟨h3, hb⟩ hf⟩⟩
theorem Rd1.tup {H : Heap} {l l' : List V} (h : Rds H l l') : Rd1 H (.tup l) (.tup l') := fun X w φ v hs hv => by
  simp only [VS] at hv ⊢
  obtain ⟨cs, rfl, h2⟩ := hv
  exact ⟨cs, rfl, Rd1.list h X w φ _ hs h2⟩
theorem foldEndsS_c (F : Func) (hF : Enc.good F) : PureP Tryz.prog 21 [vFunc F] (· = .tup [vFunc (feF F), .d (.int .i64 (feK F)), .d (.bool (soundF F))]) := by
  cases hs : soundF F with
  | false =>
    have e1 : feK F = 0 := by simp [feK, hs]
    have e2 : feF F = ⟨0, []⟩ := by simp [feF, hs]
    refine PureP.le (pure_of Tryz.func21 en_21 rfl rfl (W_run mixed ⟨[K_42], [K_42h], [53], 18, 0, [0, 1, 2, 3, 4, 5, 6, 9], [9]⟩ (fun _ => []) (by kernel_rfl) ?_))
    simp only [Tryz.f21, stripX, stripOps, pickOps]
    simp [K_42_f, K_42_e, K_42h_f, K_42h_e, K_42h_g, hF, hs]
    simp [e1, e2, VLe, VLes, DLe]
  | true =>
    have hg := sound_good hs
    have e1 : feK F = (F.blocks_.map (foldK F)).sum := by simp [feK, hs]
    have e2 : feF F = ⟨F.params_, F.blocks_.map (foldB F)⟩ := by simp [feF, hs]
    refine PureP.of_own (CallsD.mono (Q := fun r H' => ∃ A : CFunc, r = .tup [.agg (Tr.cells A), .d (.int .i64 (feK F)), .d (.bool true)] ∧ Own H' A ∧ Tr.era A = feF F) ?_ ?_)
    · refine calls_of Tryz.func21 en_21 rfl (of_decide_eq_true rfl) (W_run mixed ⟨[K_42], [K_42h], [53], 18, 0, [0, 1, 2, 3, 4, 5, 6, 9], [9]⟩ (fun _ => []) (by kernel_rfl) ?_)
      simp only [Tryz.f21, stripX, stripOps, pickOps]
      simp [K_42_f, K_42_e, K_42h_f, K_42h_e, K_42h_g, -V.flat, -V.one, one_int, one_bool, one_str, one_nilp, one_rp, one_nilsl, one_ro, one_cl, one_nilf, one_nili, one_ifc, one_ptr, one_sl, one_clo, flat_d, flat_ptr, flat_sl, flat_clo, flat_agg, hF, hs]
      refine (l15Ends_own _ F hF hg).mono ?_
      rintro r H1 ⟨A, rfl, oA, eA, ho, iA⟩
      have hl := ho.len
      simp only [List.length_cons, List.length_nil] at hl
      have k1 : ∀ R : Heap, (H1 ++ R)[1]? = some (.row 2 [[.d (.int .i64 0), .d .nilsl]]) := fun R => (List.getElem?_append_left (by omega)).trans (ho.at_ 1 (by simp) List.not_mem_nil)
      have s1 : ∀ (R : Heap) p, (H1 ++ R).set 1 p = H1.set 1 p ++ R := fun R p => List.set_append_left _ _ (by omega)
      have s2 : ∀ (R : Heap) p, (H1.set 1 p ++ R)[1]? = some p := fun R p => (List.getElem?_append_left (by simp; omega)).trans (List.getElem?_set_self (by omega))
      have hfl := oA.ok.1.flat
      have hone := oA.ok.1.scl.2
      simp [K_42_f, K_42_e, K_42h_f, K_42h_e, K_42h_g, -V.flat, -V.one, one_int, one_bool, one_str, one_nilp, one_rp, one_nilsl, one_ro, one_cl, one_nilf, one_nili, one_ifc, one_ptr, one_sl, one_clo, flat_d, flat_ptr, flat_sl, flat_clo, flat_agg, hfl, hone, retQ, k1, s1, s2]
      exact ⟨_, _, Fin.same (Nat.zero_le _), A, by rw [e1], (oA.frame (S := [1]) Only.set fun j hj h => by have := iA j hj; simp at this h; omega).frame (Only.app [] _ _) fun j _ hj => absurd hj List.not_mem_nil, eA.trans e2.symm⟩
    · rintro r H' ⟨A, rfl, oA, eA⟩
      have := Rd1.aggs oA rfl
      rw [eA] at this
      exact Rd1.tup ⟨this, Rd1.d, Rd1.d, trivial⟩
noncomputable def K_21 : Ent Tryz.prog := Ent.p1 (α := Func) 21 (fun F => Enc.good F) (fun F => .tup [vFunc (feF F), .d (.int .i64 (feK F)), .d (.bool (soundF F))]) (fun F hc => foldEndsS_c F hc)
theorem K_21_f : K_21.f = 21 := rfl
theorem K_21_e (F0 : Int) (F1 : List Block) : K_21.e [.agg [.d (.int .i64 F0), .d (dBlockS F1)]] = some (Enc.good (Func.mk F0 F1), .tup [vFunc (feF (Func.mk F0 F1)), .d (.int .i64 (feK (Func.mk F0 F1))), .d (.bool (soundF (Func.mk F0 F1)))], []) := by unfold K_21; exact Ent.p1_eq (α := Func) (Func.mk F0 F1)
noncomputable def K_21h : EntH Tryz.prog := EntH.pk1 (α := Func) 21 (fun F => Enc.good F) (fun F => .tup [vFunc (feF F), .d (.int .i64 (feK F)), .d (.bool (soundF F))]) (fun F => []) (fun F hc => PureP.ans (foldEndsS_c F hc))
theorem K_21h_f : K_21h.f = 21 := rfl
theorem K_21h_g : K_21h.gro = true := rfl
theorem K_21h_e {x1 : V} {H : Heap} : K_21h.e [x1] H = guardR ((decA (α := Func) H x1).1) (peekR (Enc.good (decA (α := Func) H x1).2) (.tup [vFunc (feF (decA (α := Func) H x1).2), .d (.int .i64 (feK (decA (α := Func) H x1).2)), .d (.bool (soundF (decA (α := Func) H x1).2))]) ([]) H) := rfl
theorem sm_feF {F : Func} (h : Sm.sm F) : Sm.sm (feF F) := by
  unfold feF
  split
  · refine ⟨trivial, ?_⟩
    show Sm.sm (F.blocks_.map (foldB F))
    refine ⟨by rw [List.length_map]; exact h.2.1, fun a ha => ?_⟩
    obtain ⟨x, hx, rfl⟩ := List.mem_map.1 ha
    obtain ⟨p0, q1, p1, p2, q2⟩ := h.2.2 x hx
    unfold foldB
    split
    · refine ⟨trivial, q1, trivial, trivial, ?_⟩
      exact ⟨by simp, fun j hj => by rw [List.mem_singleton.1 hj]; exact small_get q2 _⟩
    · exact ⟨p0, q1, p1, p2, q2⟩
  · exact ⟨trivial, Nat.zero_le _, fun a h => absurd h List.not_mem_nil⟩
theorem mFunc_idem (x : Func) (k : Int) : mFunc (mFunc x k).1 k = mFunc x k := by
  have hi : ∀ l k, mkL mI (mkL mI l k).1 k = mkL mI l k := mkL_idem (fun x k => rfl)
  have hI : ∀ (y : Inst) k, mInst (mInst y k).1 k = mInst y k := fun y k => by unfold mInst; simp only [hi]
  have hJ : ∀ (y : Jump) k, mJump (mJump y k).1 k = mJump y k := fun y k => by unfold mJump; simp only [hi]
  have hB : ∀ (y : Block) k, mBlock (mBlock y k).1 k = mBlock y k := fun y k => by unfold mBlock; simp only [mkL_idem hI, mkL_idem hJ]
  unfold mFunc
  simp only [mkL_idem hB]
theorem law_FoldEnds (F : Func) (hF : Enc.good F) : PureP Tryz.prog 4 [vFunc F] (· = .d (.bool true)) := by
  by_cases hw : szFunc F 1048576 < 0
  · refine pure_of Tryz.func4 en_4 rfl rfl (W_run mixed ⟨[K_14, K_16, K_21, K_18, K_20], [K_14h, K_16h, K_21h, K_18h, K_20h], [22, 19], 117, 0, [0, 1, 2, 3, 4, 5, 6, 7, 8, 9, 10, 11, 12, 13, 14, 15, 16, 21, 50, 55, 76, 84, 87, 108, 113, 116], [21, 41, 46, 50, 55, 61, 67, 72, 76, 84, 87, 99, 104, 108, 113, 116]⟩ (fun | 10 => [0, 1, 2, 3, 4] | _ => []) (by kernel_rfl) ?_)
    simp only [Tryz.f4, stripX, stripOps, pickOps]
    simp [K_14_f, K_14_e, K_16_f, K_16_e, K_21_f, K_21_e, K_18_f, K_18_e, K_20_f, K_20_e, K_14h_f, K_14h_e, K_16h_f, K_16h_e, K_21h_f, K_21h_e, K_18h_f, K_18h_e, K_20h_f, K_20h_e, K_14h_g, K_16h_g, K_21h_g, K_18h_g, K_20h_g, hF, hw]
  have hs : Sm.sm F := (szok_Func F 1048576 hF (by decide) (by decide) (by omega)).1
  generalize hW : feF F = W
  have hsW : Sm.sm W := hW ▸ sm_feF hs
  refine pure_of Tryz.func4 en_4 rfl rfl (W_runCut mixed 5 ⟨[K_14, K_16, K_21, K_18, K_20], [K_14h, K_16h, K_21h, K_18h, K_20h], [22, 19], 117, 0, [0, 1, 2, 3, 4, 5, 6, 7, 8, 9, 10, 11, 12, 13, 14, 15, 16, 21, 50, 55, 76, 84, 87, 108, 113, 116], [21, 41, 46, 50, 55, 61, 67, 72, 76, 84, 87, 99, 104, 108, 113, 116]⟩ (fun | 10 => [0, 1, 2, 3, 4] | _ => []) (by kernel_rfl) ?_)
  simp only [Tryz.f4, stripCut, stripX, stripOps, pickOps]
  simp [K_14_f, K_14_e, K_16_f, K_16_e, K_21_f, K_21_e, K_18_f, K_18_e, K_20_f, K_20_e, K_14h_f, K_14h_e, K_16h_f, K_16h_e, K_21h_f, K_21h_e, K_18h_f, K_18h_e, K_20h_f, K_20h_e, K_14h_g, K_16h_g, K_21h_g, K_18h_g, K_20h_g, hF, hs, hw, hW]
  refine W_runCut mixed 1 ⟨[K_14, K_21, K_18, K_20], [K_14h, K_21h, K_18h, K_20h], [16, 22, 19], 117, 0, [0, 1, 2, 3, 4, 5, 6, 7, 8, 9, 10, 11, 12, 13, 14, 15, 16, 21, 50, 55, 76, 84, 87, 108, 113, 116], [21, 41, 46, 50, 55, 61, 67, 72, 76, 84, 87, 99, 104, 108, 113, 116]⟩ (fun | 10 => [0, 1, 2, 3, 4] | _ => []) (by kernel_rfl) ?_
  simp only [stripCut, stripX, stripOps, pickOps]
  simp [K_14_f, K_14_e, K_21_f, K_21_e, K_18_f, K_18_e, K_20_f, K_20_e, K_14h_f, K_14h_e, K_21h_f, K_21h_e, K_18h_f, K_18h_e, K_20h_f, K_20h_e, K_14h_g, K_21h_g, K_18h_g, K_20h_g, hF, hs]
  refine (toFunc_own _ F hs).mono ?_
  rintro r H1 ⟨A, rfl, ⟨hAv, hA⟩, hn1⟩
  have eA : A.params_ = F.params_ := congrArg Func.params_ hA
  have g0 : H1[0]? = some (.row 2 [[.d (.int .i64 F.params_), .d (dBlockS F.blocks_)]]) := hn1.only.at_ 0 (by simp) List.not_mem_nil
  have g1 : H1[1]? = some (.row 2 [[.d (.int .i64 W.params_), .d (dBlockS W.blocks_)]]) := hn1.only.at_ 1 (by simp) List.not_mem_nil
  have hfl := hn1.own.ok.1.flat
  have hon1 := hn1.own.ok.1.scl.2
  simp [K_14_f, K_14_e, K_21_f, K_21_e, K_18_f, K_18_e, K_20_f, K_20_e, K_14h_f, K_14h_e, K_21h_f, K_21h_e, K_18h_f, K_18h_e, K_20h_f, K_20h_e, K_14h_g, K_21h_g, K_18h_g, K_20h_g, -V.flat, -V.one, one_int, one_bool, one_str, one_nilp, one_rp, one_nilsl, one_ro, one_cl, one_nilf, one_nili, one_ifc, one_ptr, one_sl, one_clo, flat_d, flat_ptr, flat_sl, flat_clo, flat_agg, hfl, hon1]
  have ho1 : Own (H1 ++ [.row 2 [[.d (.int .i64 A.params_), A.blocks_.v]]]) A := hn1.own.frame (Only.app [] _ _) fun j _ hj => absurd hj List.not_mem_nil
  refine W_run mixed ⟨[K_14, K_16, K_21], [K_14h, K_16h, K_21h, K_18h, K_20h], [22, 1000018, 19], 117, 0, [0, 1, 2, 3, 4, 5, 6, 7, 8, 9, 10, 11, 12, 13, 14, 15, 16, 21, 50, 55, 76, 84, 87, 108, 113, 116], [21, 41, 46, 50, 55, 61, 67, 72, 76, 84, 87, 99, 104, 108, 113, 116]⟩ (fun | 10 => [0, 1, 2, 3, 4] | _ => []) (by kernel_rfl) ?_
  simp only [stripX, stripOps, pickOps]
  simp [K_14_f, K_14_e, K_16_f, K_16_e, K_21_f, K_21_e, K_14h_f, K_14h_e, K_16h_f, K_16h_e, K_21h_f, K_21h_e, K_18h_f, K_18h_e, K_20h_f, K_20h_e, K_14h_g, K_16h_g, K_21h_g, K_18h_g, K_20h_g, -V.flat, -V.one, one_int, one_bool, one_str, one_nilp, one_rp, one_nilsl, one_ro, one_cl, one_nilf, one_nili, one_ifc, one_ptr, one_sl, one_clo, flat_d, flat_ptr, flat_sl, flat_clo, flat_agg, hF, hs, hAv]
  rw [hAv] at ho1
  have hl1 : 2 ≤ H1.length := hn1.only.len
  have hrd : Reads1 (H1 ++ [.row 2 [[.d (.int .i64 A.params_), .sl A.blocks_.id 5 0 F.blocks_.length]]]) [.agg [.d (.int .i64 A.params_), .sl A.blocks_.id 5 0 F.blocks_.length]] [vFunc F] := by
    have := Rd1.aggs ho1 rfl
    rw [cells_AFunc, hAv, hA] at this
    exact Rd1.list ⟨this, trivial⟩
  refine (CallsD.peekN (T := fun r (B : AFunc) => r = .tup [.agg (Tr.cells B), .d (.int .i64 (feK F)), .d (.bool (soundF F))] ∧ Tr.era B = W) ((feI_own (deads _) F hF).mono fun r H' ⟨B, q1, q2, q3⟩ => ⟨B, ⟨q1, q2.trans hW⟩, q3⟩) hrd ?_).mono ?_
  · rintro r B hok ⟨rfl, _⟩
    have hc : sclL2 (Tr.cells B) = true := (TrS.scl B hok).1
    show ((V.agg (Tr.cells B)).scl2 && (true && (true && true))) = true
    rw [show (V.agg (Tr.cells B)).scl2 = sclL2 (Tr.cells B) from rfl, hc]; rfl
  rintro r H2 ⟨B, ⟨rfl, hB⟩, hn2⟩
  have bfl := hn2.own.ok.1.flat
  have bon := hn2.own.ok.1.scl.2
  have l2 : H1.length + 1 ≤ H2.length := by have := hn2.only.len; simp at this; omega
  have dF : ∀ G : Heap, decA (α := Func) G (.agg [.d (.int .i64 F.params_), .d (dBlockS F.blocks_)]) = (True, F) := fun G => Prod.ext (eq_true ⟨rfl, trivial, of_eq_true (congrArg Prod.fst (dec_ro (α := Block) (H := G) (l := F.blocks_)))⟩) (congrArg (Func.mk F.params_) (congrArg Prod.snd (dec_ro (α := Block) (H := G) (l := F.blocks_))))
  have dW : ∀ G : Heap, decA (α := Func) G (.agg [.d (.int .i64 W.params_), .d (dBlockS W.blocks_)]) = (True, W) := fun G => Prod.ext (eq_true ⟨rfl, trivial, of_eq_true (congrArg Prod.fst (dec_ro (α := Block) (H := G) (l := W.blocks_)))⟩) (congrArg (Func.mk W.params_) (congrArg Prod.snd (dec_ro (α := Block) (H := G) (l := W.blocks_))))
  have iA : ∀ j ∈ ids A, 2 ≤ j ∧ j < H1.length := fun j hj => ⟨hn1.fresh j hj, hn1.own.lt hj⟩
  have iB : ∀ j ∈ ids B, H1.length + 1 ≤ j ∧ j < H2.length := fun j hj => ⟨by have := hn2.fresh j hj; simp at this; omega, hn2.own.lt hj⟩
  have old2 : ∀ j, j < H1.length → ∀ R : Heap, (H2 ++ R)[j]? = H1[j]? := fun j hj R => (List.getElem?_append_left (by omega)).trans ((hn2.only.at_ j (by simp; omega) List.not_mem_nil).trans (List.getElem?_append_left hj))
  have k0 : ∀ R : Heap, (H2 ++ R)[0]? = some (.row 2 [[.d (.int .i64 F.params_), .d (dBlockS F.blocks_)]]) := fun R => (old2 0 (by omega) R).trans g0
  have k0' : ∀ (R : Heap) (h : 0 < (H2 ++ R).length), (H2 ++ R)[0] = .row 2 [[.d (.int .i64 F.params_), .d (dBlockS F.blocks_)]] := fun R h => Option.some.inj ((List.getElem?_eq_getElem h).symm.trans (k0 R))
  have k1 : ∀ R : Heap, (H2 ++ R)[1]? = some (.row 2 [[.d (.int .i64 W.params_), .d (dBlockS W.blocks_)]]) := fun R => (old2 1 (by omega) R).trans g1
  have k8 : ∀ R : Heap, (H2 ++ R)[H1.length]? = some (.row 2 [[.d (.int .i64 A.params_), .sl A.blocks_.id 5 0 F.blocks_.length]]) := fun R => (List.getElem?_append_left (by omega)).trans ((hn2.only.at_ _ (by simp) List.not_mem_nil).trans List.getElem?_concat_length)
  have oA2 : Own (H2 ++ [.row 2 [[.d (.int .i64 B.params_), B.blocks_.v]]]) A := (ho1.frame hn2.only fun j _ hj => absurd hj List.not_mem_nil).frame (Only.app [] _ _) fun j _ hj => absurd hj List.not_mem_nil
  have oB2 : Own (H2 ++ [.row 2 [[.d (.int .i64 B.params_), B.blocks_.v]]]) B := hn2.own.frame (Only.app [] _ _) fun j _ hj => absurd hj List.not_mem_nil
  have dA : decA (α := Func) (H2 ++ [.row 2 [[.d (.int .i64 B.params_), B.blocks_.v]]]) (.agg [.d (.int .i64 A.params_), .sl A.blocks_.id 5 0 F.blocks_.length]) = (True, F) := by
    have := decA_A oA2 rfl
    rw [cells_AFunc, hAv, hA] at this
    exact this
  have dB : decA (α := Func) (H2 ++ [.row 2 [[.d (.int .i64 B.params_), B.blocks_.v]]]) (.agg [.d (.int .i64 B.params_), B.blocks_.v]) = (True, W) := by
    have := decA_A oB2 rfl
    rw [cells_AFunc, hB] at this
    exact this
  simp [K_14_f, K_14_e, K_16_f, K_16_e, K_21_f, K_21_e, K_14h_f, K_14h_e, K_16h_f, K_16h_e, K_21h_f, K_21h_e, K_18h_f, K_18h_e, K_20h_f, K_20h_e, K_14h_g, K_16h_g, K_21h_g, K_18h_g, K_20h_g, -V.flat, -V.one, one_int, one_bool, one_str, one_nilp, one_rp, one_nilsl, one_ro, one_cl, one_nilf, one_nili, one_ifc, one_ptr, one_sl, one_clo, flat_d, flat_ptr, flat_sl, flat_clo, flat_agg, -decA, decA_int, decA_bool, decA_str, hF, hs, hsW, hAv, bfl, bon, k0', k1, k8, dA, dB, dF, dW]
  have leF := mFunc_le hs 1
  have leW := mFunc_le hsW 1
  have lenA : A.blocks_.l.length ≤ 4000000000000000000 := by
    have := small_len hs.2
    have e := congrArg (fun q => List.length (Func.blocks_ q)) hA
    have e2 : A.blocks_.l.length = F.blocks_.length := by rw [← e]; exact (List.length_map _).symm
    omega
  have lenB : B.blocks_.l.length ≤ 4000000000000000000 := by
    have := small_len hsW.2
    have e := congrArg (fun q => List.length (Func.blocks_ q)) hB
    have e2 : B.blocks_.l.length = W.blocks_.length := by rw [← e]; exact (List.length_map _).symm
    omega
  have hm := markFunc_own _ A 1 oA2 (by decide) (by rw [hA]; omega) lenA
  rw [cells_AFunc, hAv] at hm
  refine hm.mono ?_
  rintro r H3 ⟨rfl, A3, _, _, _, o3, _⟩
  have hk0 : 1 ≤ (mFunc F 1).2 := mBlock_mono F.blocks_ 1
  have hk1 : ¬ (mFunc F 1).2 < 0 := by omega
  rw [hA]
  have l3 : H2.length + 1 ≤ H3.length := by have := o3.len; simp at this; omega
  have m0 : H3[0]? = some (.row 2 [[.d (.int .i64 F.params_), .d (dBlockS F.blocks_)]]) := (o3.at_ 0 (by simp) fun hj => by have := iA 0 hj; omega).trans (k0 _)
  have m1 : H3[1]? = some (.row 2 [[.d (.int .i64 W.params_), .d (dBlockS W.blocks_)]]) := (o3.at_ 1 (by simp; omega) fun hj => by have := iA 1 hj; omega).trans (k1 _)
  have mB : H3[H2.length]? = some (.row 2 [[.d (.int .i64 B.params_), B.blocks_.v]]) := (o3.at_ _ (by simp) fun hj => by have := iA _ hj; omega).trans List.getElem?_concat_length
  have oB3 : Own H3 B := oB2.frame o3 fun j hj hk => by have := iB j hj; have := iA j hk; omega
  have dB3 : decA (α := Func) H3 (.agg [.d (.int .i64 B.params_), B.blocks_.v]) = (True, W) := by
    have := decA_A oB3 rfl
    rw [cells_AFunc, hB] at this
    exact this
  simp [K_14_f, K_14_e, K_16_f, K_16_e, K_21_f, K_21_e, K_14h_f, K_14h_e, K_16h_f, K_16h_e, K_21h_f, K_21h_e, K_18h_f, K_18h_e, K_20h_f, K_20h_e, K_14h_g, K_16h_g, K_21h_g, K_18h_g, K_20h_g, -V.flat, -V.one, one_int, one_bool, one_str, one_nilp, one_rp, one_nilsl, one_ro, one_cl, one_nilf, one_nili, one_ifc, one_ptr, one_sl, one_clo, flat_d, flat_ptr, flat_sl, flat_clo, flat_agg, -decA, decA_int, decA_bool, decA_str, hF, hs, hsW, bfl, bon, m0, m1, mB, dB3, dW, hk1]
  have hm2 := markFunc_own H3 B 1 oB3 (by decide) (by rw [hB]; omega) lenB
  rw [cells_AFunc] at hm2
  refine hm2.mono ?_
  rintro r H4 ⟨rfl, B4, oB4, iB4, cB4, o4, eB4⟩
  rw [hB] at eB4 ⊢
  have hw0 : 1 ≤ (mFunc W 1).2 := mBlock_mono W.blocks_ 1
  have hps : ¬ (mFunc W 1).2 < 0 := by omega
  have hbd : (mFunc W 1).2 ≤ 4000000000000000000 := by omega
  have hid := mFunc_idem W 1
  have l4 : H3.length ≤ H4.length := o4.len
  have n0 : H4[0]? = some (.row 2 [[.d (.int .i64 F.params_), .d (dBlockS F.blocks_)]]) := (o4.at_ 0 (by omega) fun hj => by have := iB 0 hj; omega).trans m0
  have n1 : H4[1]? = some (.row 2 [[.d (.int .i64 W.params_), .d (dBlockS W.blocks_)]]) := (o4.at_ 1 (by omega) fun hj => by have := iB 1 hj; omega).trans m1
  have nB : H4[H2.length]? = some (.row 2 [[.d (.int .i64 B.params_), B.blocks_.v]]) := (o4.at_ _ (by omega) fun hj => by have := iB _ hj; omega).trans mB
  have cB4' : Tr.cells B4 = [.d (.int .i64 B.params_), B.blocks_.v] := cB4
  have dB4 : decA (α := Func) H4 (.agg [.d (.int .i64 B.params_), B.blocks_.v]) = (True, (mFunc W 1).1) := by
    have := decA_A oB4 rfl
    rw [cB4', eB4] at this
    exact this
  simp [K_14_f, K_14_e, K_16_f, K_16_e, K_21_f, K_21_e, K_14h_f, K_14h_e, K_16h_f, K_16h_e, K_21h_f, K_21h_e, K_18h_f, K_18h_e, K_20h_f, K_20h_e, K_14h_g, K_16h_g, K_21h_g, K_18h_g, K_20h_g, -V.flat, -V.one, one_int, one_bool, one_str, one_nilp, one_rp, one_nilsl, one_ro, one_cl, one_nilf, one_nili, one_ifc, one_ptr, one_sl, one_clo, flat_d, flat_ptr, flat_sl, flat_clo, flat_agg, -decA, decA_int, decA_bool, decA_str, hF, hs, hsW, bfl, bon, n0, n1, nB, dB4, dW, hid, hps, hbd]
  refine (feI_own H4 F hF).mono ?_
  rintro r H5 ⟨C, rfl, hC, hn5⟩
  rw [hW] at hC
  have cfl := hn5.own.ok.1.flat
  have con := hn5.own.ok.1.scl.2
  have old5 : ∀ j, j < H4.length → ∀ R : Heap, (H5 ++ R)[j]? = H4[j]? := fun j hj R => (List.getElem?_append_left (by have := hn5.only.len; omega)).trans (hn5.only.at_ j hj List.not_mem_nil)
  have p1 : ∀ R : Heap, (H5 ++ R)[1]? = some (.row 2 [[.d (.int .i64 W.params_), .d (dBlockS W.blocks_)]]) := fun R => (old5 1 (by omega) R).trans n1
  have pB : ∀ R : Heap, (H5 ++ R)[H2.length]? = some (.row 2 [[.d (.int .i64 B.params_), B.blocks_.v]]) := fun R => (old5 _ (by omega) R).trans nB
  have dC5 : decA (α := Func) (H5 ++ [.row 2 [[.d (.int .i64 C.params_), C.blocks_.v]]]) (.agg [.d (.int .i64 C.params_), C.blocks_.v]) = (True, W) := by
    have := decA_A (hn5.own.frame (Only.app [] _ [.row 2 [[.d (.int .i64 C.params_), C.blocks_.v]]]) fun j _ hj => absurd hj List.not_mem_nil) rfl
    rw [cells_AFunc, hC] at this
    exact this
  have dB5 : decA (α := Func) (H5 ++ [.row 2 [[.d (.int .i64 C.params_), C.blocks_.v]]]) (.agg [.d (.int .i64 B.params_), B.blocks_.v]) = (True, (mFunc W 1).1) := by
    have := decA_A ((oB4.frame hn5.only fun j _ hj => absurd hj List.not_mem_nil).frame (Only.app [] _ [.row 2 [[.d (.int .i64 C.params_), C.blocks_.v]]]) fun j _ hj => absurd hj List.not_mem_nil) rfl
    rw [cB4', eB4] at this
    exact this
  simp [K_14_f, K_14_e, K_16_f, K_16_e, K_21_f, K_21_e, K_14h_f, K_14h_e, K_16h_f, K_16h_e, K_21h_f, K_21h_e, K_18h_f, K_18h_e, K_20h_f, K_20h_e, K_14h_g, K_16h_g, K_21h_g, K_18h_g, K_20h_g, -V.flat, -V.one, one_int, one_bool, one_str, one_nilp, one_rp, one_nilsl, one_ro, one_cl, one_nilf, one_nili, one_ifc, one_ptr, one_sl, one_clo, flat_d, flat_ptr, flat_sl, flat_clo, flat_agg, -decA, decA_int, decA_bool, decA_str, hF, hs, hsW, bfl, bon, cfl, con, p1, pB, dC5, dB5, dW, hid, hps, hbd]
namespace fnExactFoldEnds
open Go.ChangeShapes Go.WideShapes Go.RowKit
theorem own : ownKnob Tryz.prog.godebug = none := by kernel_rfl
theorem lifted (os : Os) (started : os.Started) (H : Type) (enc : TypeId × Value → H) :
    ReturnsInHanded {} Tryz.checked os 4 .any (Rows.fnExactFoldEndsSpec.pre6 enc Tryz.prog Tryz.f4 Rows.fnExactFoldEndsRow.domain false) (Rows.fnExactFoldEndsSpec.post enc Tryz.prog Tryz.f4 false true false false) := by
  refine returnsInHanded_of_change (C := Tryz.checked) own started (by kernel_rfl) Tryz.func4
    (ChangeSpec.witness6 (enc := enc) (C := Tryz.checked) false ⟨#[], #[.agg #[.int .i64 0, .slice none 0 0]], []⟩ 8 (by kernel_rfl) (by kernel_rfl) (by kernel_rfl) (by kernel_rfl)) ?_
  intro W base args ds gs before hval hW hcnd _
  have hW' := hW
  obtain ⟨p, q, hA, hV, _, _, _⟩ := hW
  rw [Tryz.params4] at hA hval
  obtain ⟨v0, vs0, d0, ds0, p0, q0, hargs, rfl, rfl, h0, r0⟩ := trodAll_cons hA
  obtain ⟨rfl, rfl, rfl⟩ := trodAll_nil r0
  obtain rfl : args = #[v0] := by cases args; simp_all
  obtain ⟨F, hF, hv0⟩ := arg_of rd_Func (hval 0 24 v0 rfl rfl) h0
  obtain ⟨rfl, rfl⟩ := trodVars_none hV
  exact row_end (by kernel_rfl) (by kernel_rfl) (by kernel_rfl) Tryz.underlying4 hW' rfl rfl rfl rfl (vs := [argV F]) (by exact ⟨v0, _, rfl, hv0, rfl⟩) (law_FoldEnds F hF)
theorem over : Rows.fnExactFoldEndsRow.holds Tryz.pinned (OpenSpec.ofChange Rows.fnExactFoldEndsSpec) :=
  OpenClaim.holds_of_wide 4 Tryz.f4 rfl rfl rfl rfl rfl rfl rfl ⟨rfl, rfl, rfl, rfl, rfl⟩ rfl rfl rfl rfl rfl (by kernel_rfl) Tryz.func4 (by kernel_rfl)
    (of_decide_eq_true (by kernel_rfl)) (by unfold Func.isWrapper; first | (rw [if_pos (by decide +kernel)]; kernel_rfl) | (rw [if_neg (by decide +kernel)]; exact ⟨rfl, rfl⟩))
    (fun os started H enc _ => lifted os started H enc)
end fnExactFoldEnds
/-- The row. -/
theorem fnExactFoldEnds_holds : Rows.FnExactFoldEndsSaid := fnExactFoldEnds.over
end Go.Proofs.YtbmloeahcdneaaaGreat
