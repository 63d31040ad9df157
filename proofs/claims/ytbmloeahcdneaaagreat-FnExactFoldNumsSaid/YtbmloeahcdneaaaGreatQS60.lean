/- impl.foldNums over trees. No condition. -/
import Derived.Test.YtbmloeahcdneaaaGreatQS57
import Derived.Test.YtbmloeahcdneaaaGreatQS42
import Derived.Test.YtbmloeahcdneaaaGreatQS58
import Derived.Test.YtbmloeahcdneaaaGreatQS59
section
namespace Go.Proofs.YtbmloeahcdneaaaGreat
set_option maxRecDepth 100000
set_option linter.unusedSimpArgs false
set_option linter.unusedVariables false
theorem mpF_congr {g h : Int → Int} {F : Func} (he : ∀ b ∈ F.blocks_, ∀ x ∈ allU b, g x = h x) : mpF g F = mpF h F := by
  unfold mpF
  congr 1
  refine List.map_congr_left fun b hb => ?_
  have hu := he b hb
  have e1 : b.insts_.map (mpI g) = b.insts_.map (mpI h) := List.map_congr_left fun x hx => by
    unfold mpI
    congr 1
    exact List.map_congr_left fun n hn => hu n (List.mem_append_left _ (List.mem_flatMap.2 ⟨x, hx, hn⟩))
  have e2 : b.jumps_.map (mpJ g) = b.jumps_.map (mpJ h) := List.map_congr_left fun x hx => by
    unfold mpJ
    congr 1
    exact List.map_congr_left fun n hn => hu n (List.mem_append_right _ (List.mem_append_right _ (List.mem_flatMap.2 ⟨x, hx, hn⟩)))
  unfold mpB
  rw [e1, e2]
  by_cases h2 : b.end_ = 2
  · rw [if_pos h2, if_pos h2]
  · rw [if_neg h2, if_neg h2, hu b.value_ (List.mem_append_right _ (List.mem_append_left _ (by rw [if_neg h2]; exact List.mem_singleton.2 rfl)))]
theorem good_value {F : Func} (h : goodF F = true) {b : Block} (hb : b ∈ F.blocks_) (h2 : b.end_ = 2) : b.value_ = 0 := by
  obtain ⟨_, _, _, _, _, _, hbo⟩ := goodF_spec h
  have h1 := List.all_eq_true.1 hbo b hb
  simp only [bodyOk, Bool.and_eq_true, endsOk, h2] at h1
  simp at h1
  exact h1.2.1
theorem good_all {F : Func} (h : goodF F = true) {b : Block} (hb : b ∈ F.blocks_) : ∀ x ∈ allU b, 0 ≤ x ∧ x < many F := by
  obtain ⟨_, h2, h3⟩ := good_vals h hb
  intro x hx
  rcases List.mem_append.1 hx with q | q
  · obtain ⟨y, hy, hn⟩ := List.mem_flatMap.1 q
    exact (h2 y hy).2 x hn
  · exact h3 x q
theorem good_small {F : Func} (h : goodF F = true) : smallF F := by
  obtain ⟨_, hl, _, _, _, _, _⟩ := goodF_spec h
  refine ⟨by omega, fun b hb => ?_⟩
  obtain ⟨h1, h2, _⟩ := good_vals h hb
  obtain ⟨h3, h4⟩ := good_end h b hb
  exact ⟨h1, h3, fun x hx => (h2 x hx).1, fun j hj => by have := h4 j hj; omega⟩
theorem good_map {F : Func} (h : goodF F = true) {T : List Int} (hT : T.length = (many F).toNat) : ∀ b ∈ F.blocks_, okMap T b := fun b hb => by
  obtain ⟨_, s2⟩ := good_small h
  obtain ⟨q1, q2, q3, q4⟩ := s2 b hb
  exact ⟨by omega, by omega, q3, q4, fun v hv => by have := good_all h hb v hv; omega, good_value h hb⟩
end Go.Proofs.YtbmloeahcdneaaaGreat
end

section
namespace Go.Proofs.YtbmloeahcdneaaaGreat
set_option maxRecDepth 100000
set_option linter.unusedSimpArgs false
set_option linter.unusedVariables false
theorem fin_nilF {H R : Heap} {r : V} {Q : V → Heap → Prop} (hq : ∀ (A : AFunc) H', Tr.cells A = [.d (.int .i64 0), .d .nilsl] → Tr.era A = ⟨0, []⟩ → New H H' A → Q r H') : ∃ r' H', Fin H.length (H ++ R) r H' r' ∧ Q r' H' :=
  fin_new (a := (⟨0, ⟨.d .nilsl, []⟩⟩ : AFunc)) (AFunc.own ⟨⟨.inr ⟨rfl, .inl rfl⟩, fun a ha => absurd ha List.not_mem_nil⟩, fun q hq => absurd hq List.not_mem_nil, List.nodup_nil⟩) (Only.app _ _ _) (fun j hj => absurd hj List.not_mem_nil) fun H' h' => hq _ H' rfl rfl h'
end Go.Proofs.YtbmloeahcdneaaaGreat
end

section
namespace Go.Proofs.YtbmloeahcdneaaaGreat
set_option maxRecDepth 100000
set_option linter.unusedSimpArgs false
set_option linter.unusedVariables false
structure At (H : Heap) (idf : Nat) (A : AFunc) : Prop where
  row : H[idf]? = some (.row 2 [[.d (.int .i64 A.params_), A.blocks_.v]])
  own : Own H A
  sol : solF A
  nin : idf ∉ ids A
  good : goodF (Tr.era A) = true
  enc : Enc.good (Tr.era A)
structure PR (H : Heap) (idf : Nat) (A A' : AFunc) (H' : Heap) : Prop where
  at_ : At H' idf A'
  ids : ∀ j ∈ ids A', j ∈ ids A ∨ H.length ≤ j
  only : Only (idf :: Go.Proofs.YtbmloeahcdneaaaGreat.ids A) H H'
def PassOwn (fn : Nat) (G : Func → Func) (K : Func → Int) : Prop := ∀ (H : Heap) (A : AFunc) (idf : Nat), At H idf A →
  CallsD Tryz.prog fn [.ptr idf 2 0 0] H fun r H' => ∃ A', r = .d (.int .i64 (K (Tr.era A))) ∧ Tr.era A' = G (Tr.era A) ∧ PR H idf A A' H'
noncomputable def paF (G : Func → Func) (F : Func) : Func := if soundF F = true then G F else ⟨0, []⟩
noncomputable def paK (K : Func → Int) (F : Func) : Int := if soundF F = true then K F else 0
theorem passed_own {fn : Nat} {G : Func → Func} {K : Func → Int} (hp : PassOwn fn G K) (hne : ¬ 46 = fn) (H : Heap) (F : Func) (hF : Enc.good F) : CallsD Tryz.prog 54 [vFunc F, .d (.clo fn 0 fun _ => .undef)] H fun r H' => ∃ A : AFunc, r = .tup [.agg (Tr.cells A), .d (.int .i64 (paK K F)), .d (.bool (soundF F))] ∧ Tr.era A = paF G F ∧ New H H' A := by
  cases hs : soundF F with
  | false =>
    have e1 : paK K F = 0 := by simp [paK, hs]
    have e2 : paF G F = ⟨0, []⟩ := by simp [paF, hs]
    refine calls_of Tryz.func54 en_54 rfl (of_decide_eq_true rfl) (W_run mixed ⟨[K_46], [K_46h], [48], 19, H.length, [0, 1, 2, 4, 5, 6, 7, 8, 11], [11]⟩ (fun _ => []) (by kernel_rfl) ?_)
    simp only [Tryz.f54, stripX, stripOps, pickOps]
    simp [K_46_f, K_46_e, K_46h_f, K_46h_e, K_46h_g, -V.flat, -V.one, one_int, one_bool, one_str, one_nilp, one_rp, one_nilsl, one_ro, one_cl, one_nilf, one_nili, one_ifc, one_ptr, one_sl, one_clo, flat_d, flat_ptr, flat_sl, flat_clo, flat_agg, hF, sound_N hs, retQ]
    exact fin_nilF fun A H' q1 q2 q3 => ⟨A, by rw [e1]; exact congrArg (fun c => V.tup [.agg c, .d (.int .i64 0), .d (.bool false)]) q1.symm, by rw [e2, q2], q3⟩
  | true =>
    have hg := sound_good hs
    have e1 : paK K F = K F := by simp [paK, hs]
    have e2 : paF G F = G F := by simp [paF, hs]
    refine calls_of Tryz.func54 en_54 rfl (of_decide_eq_true rfl) (W_run mixed ⟨[K_46], [K_46h], [48], 19, H.length, [0, 1, 2, 4, 5, 6, 7, 8, 11], [11]⟩ (fun _ => []) (by kernel_rfl) ?_)
    simp only [Tryz.f54, stripX, stripOps, pickOps]
    simp [K_46_f, K_46_e, K_46h_f, K_46h_e, K_46h_g, -V.flat, -V.one, one_int, one_bool, one_str, one_nilp, one_rp, one_nilsl, one_ro, one_cl, one_nilf, one_nili, one_ifc, one_ptr, one_sl, one_clo, flat_d, flat_ptr, flat_sl, flat_clo, flat_agg, hF, sound_V hs, retQ]
    refine (cloneFunc_sol _ F (good_small hg)).mono ?_
    rintro r H1 ⟨A, rfl, ⟨hA, hsol⟩, hn⟩
    have hfl := hn.own.ok.1.flat
    have hone := hn.own.ok.1.scl.2
    have hlt : ∀ j ∈ ids A, j < H1.length := fun j hj => hn.own.lt hj
    simp [K_46_f, K_46_e, K_46h_f, K_46h_e, K_46h_g, -V.flat, -V.one, one_int, one_bool, one_str, one_nilp, one_rp, one_nilsl, one_ro, one_cl, one_nilf, one_nili, one_ifc, one_ptr, one_sl, one_clo, flat_d, flat_ptr, flat_sl, flat_clo, flat_agg, hfl, hone, hne, retQ]
    have hge : ∀ j ∈ ids A, H.length + 2 ≤ j := fun j hj => by have := hn.fresh j hj; simp at this; omega
    have h1l : H.length + 2 ≤ H1.length := by have := hn.only.len; simp at this; omega
    refine (hp _ A H1.length ⟨List.getElem?_concat_length, hn.own.frame (Only.app [] _ _) fun j _ hj => absurd hj List.not_mem_nil, hsol, fun q => Nat.lt_irrefl _ (hlt _ q), by rw [hA]; exact hg, by rw [hA]; exact hF⟩).mono ?_
    rintro r H2 ⟨A', rfl, hA', hr⟩
    rw [hA] at hA' ⊢
    have fl2 := hr.at_.own.ok.1.flat
    have one2 := hr.at_.own.ok.1.scl.2
    have oo := hr.only
    have h2l : H1.length + 1 ≤ H2.length := by have := oo.len; simp at this; omega
    have k9 := hr.at_.row
    have old : ∀ j, j < H.length + 2 → H2[j]? = H1[j]? := fun j hj => (oo.at_ j (by simp; omega) fun q => by
      rcases List.mem_cons.1 q with q | q
      · omega
      · have := hge j q; omega).trans (List.getElem?_append_left (by omega))
    have k6 : H2[H.length + 1]? = some (.row 2 [[.d (.int .i64 0), .d .nilsl]]) := (old _ (by omega)).trans ((hn.only.at_ _ (by simp) List.not_mem_nil).trans (by simp))
    have s6 : ∀ p, (H2.set (H.length + 1) p)[H.length + 1]? = some p := fun p => List.getElem?_set_self (by omega)
    have hib : ∀ j ∈ ids A', H.length + 2 ≤ j := fun j hj => (hr.ids j hj).elim (fun h => hge j h) fun h => by simp at h; omega
    simp [K_46_f, K_46_e, K_46h_f, K_46h_e, K_46h_g, -V.flat, -V.one, one_int, one_bool, one_str, one_nilp, one_rp, one_nilsl, one_ro, one_cl, one_nilf, one_nili, one_ifc, one_ptr, one_sl, one_clo, flat_d, flat_ptr, flat_sl, flat_clo, flat_agg, fl2, one2, k9, k6, s6, retQ]
    refine fin_new (a := A') (hr.at_.own.frame (S := [H.length + 1]) Only.set fun j hj q => by have := hib j hj; simp at q; omega) ⟨by simp; omega, fun j hj _ => ?_⟩ (fun j hj => by have := hib j hj; omega) fun H' h' => ⟨_, by rw [e1], hA'.trans e2.symm, h'⟩
    rw [List.getElem?_set_ne (by omega)]
    exact (old j (by omega)).trans ((hn.only.at_ j (by simp; omega) List.not_mem_nil).trans (List.getElem?_append_left hj))
theorem sm_paF {G : Func → Func} (h : ∀ F, goodF F = true → Sm.sm F → Sm.sm (G F)) {F : Func} (hs : Sm.sm F) : Sm.sm (paF G F) := by
  unfold paF
  split
  · exact h F (sound_good ‹_›) hs
  · exact ⟨trivial, Nat.zero_le _, fun a h => absurd h List.not_mem_nil⟩
end Go.Proofs.YtbmloeahcdneaaaGreat
end

section
namespace Go.Proofs.YtbmloeahcdneaaaGreat
set_option maxRecDepth 100000
set_option linter.unusedSimpArgs false
set_option linter.unusedVariables false
structure NI (A0 : AFunc) (H0 : Heap) (p : Func × Int) (A : AFunc) (k : Int) (H : Heap) : Prop where
  own : Own H A
  sol : solF A
  par : A.params_ = A0.params_
  bv : A.blocks_.v = A0.blocks_.v
  bl : A.blocks_.l.length = A0.blocks_.l.length
  era : (Tr.era A, k) = p
  good : goodF (Tr.era A) = true
  enc : Enc.good (Tr.era A)
  shq : shp (Tr.era A).blocks_ = shp (Tr.era A0).blocks_
  ids : ∀ j ∈ ids A, j ∈ ids A0
  only : Only (Go.Proofs.YtbmloeahcdneaaaGreat.ids A0) H0 H
theorem NI.more {A0 A : AFunc} {H0 H : Heap} {p : Func × Int} {k : Int} (q : NI A0 H0 p A k H) (R : Heap) : NI A0 H0 p A k (H ++ R) :=
  ⟨q.own.frame (Only.app [] _ _) fun j _ hj => absurd hj List.not_mem_nil, q.sol, q.par, q.bv, q.bl, q.era, q.good, q.enc, q.shq, q.ids, q.only.trans (Only.app [] _ _) (fun j hj => hj) fun j hj _ => absurd hj List.not_mem_nil⟩
theorem NI.wr {A0 A : AFunc} {H0 H : Heap} {F : Func} {m k : Int} {kb i : Nat} {b : ABlock} {x : AInst} (q : NI A0 H0 (F, m) A k H) (hk : A.blocks_.l[kb]? = some b) (hi : i < b.insts_.l.length) (hx : Tr.ok x) (hp : Tr.pls x = []) (hok : instOk (many F) (Tr.era x) = true) (hen : Enc.good (Tr.era x)) {rows : List (List V)} (hr : rows = (b.insts_.l.set i x).map Tr.cells) :
    NI A0 H0 (setI F kb i (Tr.era x), m + 1) (AFunc.setX A kb i x) (k + 1) (H.set b.insts_.id (.row 3 rows)) := by
  subst hr
  obtain ⟨o, e, u, mi⟩ := AFunc.wrX q.own hk hi hx hp
  have eF : Tr.era A = F := congrArg Prod.fst q.era
  have ek : k = m := congrArg Prod.snd q.era
  have hs : shp (setI F kb i (Tr.era x)).blocks_ = shp (Tr.era A0).blocks_ := (setI_shp F kb i _).trans (eF ▸ q.shq)
  rw [eF] at e
  refine ⟨o, ⟨?_, fun c hc => ?_⟩, q.par, q.bv, ?_, by rw [e, ek], by rw [e]; exact setI_good (eF ▸ q.good) hok, by rw [e]; exact setI_enc (eF ▸ q.enc) hen, by rw [e]; exact hs, fun j hj => q.ids j (u j hj), q.only.trans Only.set (fun j hj => hj) fun j hj _ => ?_⟩
  · show A.blocks_.v = .sl A.blocks_.v.slId 5 0 (A.blocks_.l.set kb _).length
    rw [List.length_set]; exact q.sol.1
  · rcases List.mem_or_eq_of_mem_set hc with w | rfl
    · exact q.sol.2 c w
    · rw [hk]
      have := q.sol.2 b (List.mem_of_getElem? hk)
      refine ⟨?_, this.2⟩
      show b.insts_.v = .sl b.insts_.v.slId 3 0 (b.insts_.l.set i x).length
      rw [List.length_set]; exact this.1
  · show (A.blocks_.l.set kb _).length = _
    rw [List.length_set]; exact q.bl
  · rw [List.mem_singleton.1 hj]; exact q.ids _ mi
theorem foldNums_own (H : Heap) (A : AFunc) (idf : Nat) (hf : H[idf]? = some (.row 2 [[.d (.int .i64 A.params_), A.blocks_.v]])) (hO : Own H A) (hs : solF A) (hn : idf ∉ ids A) (hg : goodF (Tr.era A) = true) (hF : Enc.good (Tr.era A)) :
    CallsD Tryz.prog 57 [.ptr idf 2 0 0] H fun r H' => ∃ A' : AFunc, r = .d (.int .i64 (fnN (Tr.era A)).2) ∧ NI A H (fnN (Tr.era A)) A' (fnN (Tr.era A)).2 H' := by
  have hv := hs.1
  have hvw := viewOf_own H A hO hs hg hF
  rw [cells_AFunc, hv] at hvw
  rw [hv] at hf
  refine calls_of Tryz.func57 en_57 rfl (of_decide_eq_true rfl) (W_run mixed ⟨[K_89], [K_89h, K_100h, K_102h], [84], 107, H.length, [0, 2, 3, 4, 5, 6, 7, 8, 9, 10, 11, 12, 13, 14, 23, 24, 25, 35, 36, 37, 54, 64, 65, 66, 67, 86, 97], [25, 37, 54, 67, 81, 86, 97]⟩ (fun _ => []) (by kernel_rfl) ?_)
  simp only [Tryz.f57, stripX, stripOps, pickOps]
  simp [K_89_f, K_89_e, K_89h_f, K_89h_e, K_100h_f, K_100h_e, K_102h_f, K_102h_e, K_89h_g, K_100h_g, K_102h_g, -V.flat, -V.one, one_int, one_bool, one_str, one_nilp, one_rp, one_nilsl, one_ro, one_cl, one_nilf, one_nili, one_ifc, one_ptr, one_sl, one_clo, flat_d, flat_ptr, flat_sl, flat_clo, flat_agg, -decA, decA_int, decA_bool, decA_str, hf]
  refine hvw.mono ?_
  rintro r H0 ⟨w, f, b, rfl, hw, ho⟩
  have hidf := (List.getElem?_eq_some_iff.1 hf).1
  have hf0 : H0[idf]? = some (.row 2 [[.d (.int .i64 A.params_), .sl A.blocks_.id 5 0 A.blocks_.l.length]]) := (ho.at_ _ hidf List.not_mem_nil).trans hf
  have hO0 : Own H0 A := hO.frame ho fun j _ hj => absurd hj List.not_mem_nil
  have ltA : ∀ j ∈ ids A, j < H.length := fun j hj => hO.lt hj
  have h8 : A.blocks_.l.length ≤ 8 := by have := (goodF_spec hg).2.1; rw [era_len] at this; omega
  generalize hE : Tr.era A = F0 at hg hF hw ⊢
  simp [K_89_f, K_89_e, K_100_f, K_100_e, K_102_f, K_102_e, K_89h_f, K_89h_e, K_100h_f, K_100h_e, K_102h_f, K_102h_e, K_89h_g, K_100h_g, K_102h_g, -V.flat, -V.one, one_int, one_bool, one_str, one_nilp, one_rp, one_nilsl, one_ro, one_cl, one_nilf, one_nili, one_ifc, one_ptr, one_sl, one_clo, flat_d, flat_ptr, flat_sl, flat_clo, flat_agg, -decA, decA_int, decA_bool, decA_str, hf0]
  refine W_loopH (α := Nat × AFunc × Int × Heap) (fun a => [(0, .ptr idf 2 0 0), (3, .ptr w 5 0 0), (4, .d (.int .i64 a.2.2.1)), (23, .d (.int .i64 A.blocks_.l.length)), (24, .d (.int .i64 a.1))]) (fun a => a.2.2.2)
    (fun a => a.1 ≤ A.blocks_.l.length ∧ (0 ≤ a.2.2.1 ∧ a.2.2.1 ≤ 100 * a.1) ∧ NI A H0 ((List.range a.1).foldl stepB (F0, 0)) a.2.1 a.2.2.1 a.2.2.2) (fun a => A.blocks_.l.length - a.1) (0, A, 0, H0) ?_ ⟨Nat.zero_le _, ⟨Int.le_refl 0, by simp⟩, ⟨hO0, hs, rfl, rfl, rfl, by rw [hE]; rfl, hE ▸ hg, hE ▸ hF, rfl, fun j hj => hj, Only.refl _ _⟩⟩ ?_
  · simp
  rintro ⟨kb, A1, m1, H1⟩ ⟨hkb, hm1, q1⟩
  simp only [] at hkb hm1 q1
  have sl1 : A1.blocks_.v = .sl A.blocks_.id 5 0 A.blocks_.l.length := q1.bv.trans hv
  have hf1 : H1[idf]? = some (.row 2 [[.d (.int .i64 A.params_), .sl A.blocks_.id 5 0 A.blocks_.l.length]]) := (q1.only.at_ _ (List.getElem?_eq_some_iff.1 hf0).1 hn).trans hf0
  by_cases hin : A.blocks_.l.length ≤ kb
  · refine W_run mixed ⟨[K_89], [K_89h, K_100h, K_102h], [84], 107, H.length, [0, 2, 3, 4, 5, 6, 7, 8, 9, 10, 11, 12, 13, 14, 23, 24, 25, 35, 36, 37, 54, 64, 65, 66, 67, 86, 97], [25, 37, 54, 67, 81, 86, 97]⟩ (fun _ => []) (by kernel_rfl) ?_
    simp only [stripX, stripOps, pickOps]
    simp [K_89_f, K_89_e, K_89h_f, K_89h_e, K_100h_f, K_100h_e, K_102h_f, K_102h_e, K_89h_g, K_100h_g, K_102h_g, -V.flat, -V.one, one_int, one_bool, one_str, one_nilp, one_rp, one_nilsl, one_ro, one_cl, one_nilf, one_nili, one_ifc, one_ptr, one_sl, one_clo, flat_d, flat_ptr, flat_sl, flat_clo, flat_agg, -decA, decA_int, decA_bool, decA_str, retQ, hf1, hin]
    refine ⟨fun h => absurd hin (by omega), ?_⟩
    have e : kb = A.blocks_.l.length := by omega
    have efn : (List.range kb).foldl stepB (F0, 0) = fnN F0 := by rw [e, ← era_len, hE]; rfl
    rw [efn] at q1
    have em : m1 = (fnN F0).2 := congrArg Prod.snd q1.era
    exact ⟨_, _, Fin.same (by have := ho.len; have := q1.only.len; omega), by rw [em], A1, by rw [← em]; exact ⟨q1.own, q1.sol, q1.par, q1.bv, q1.bl, q1.era, q1.good, q1.enc, q1.shq, q1.ids, (ho.mono (fun j hj => absurd hj List.not_mem_nil)).trans q1.only (fun j hj => hj) fun j hj _ => hj⟩⟩
  · have hi : kb < A1.blocks_.l.length := by rw [q1.bl]; omega
    obtain ⟨b1, hb1⟩ : ∃ b1, A1.blocks_.l[kb]? = some b1 := ⟨_, List.getElem?_eq_getElem hi⟩
    have oB1 := AFunc.own_blocks_ q1.own
    have hid1 : A1.blocks_.id = A.blocks_.id := congrArg V.slId q1.bv
    have row1 : ∀ (A' : AFunc) (G : Heap), Own G A' → A'.blocks_.id = A.blocks_.id → A'.blocks_.l.length = A.blocks_.l.length → G[A.blocks_.id]? = some (.row 5 (A'.blocks_.l.map Tr.cells)) := fun A' G h e1 e2 => by
      have := ((AFunc.own_blocks_ h).row (by omega)).2.1
      rw [e1] at this; exact this
    have hrow := row1 A1 H1 q1.own hid1 q1.bl
    obtain ⟨sb1, sb2⟩ := q1.sol.2 b1 (List.mem_of_getElem? hb1)
    have cellB : ∀ (A' : AFunc) (b' : ABlock), solB b' → A'.blocks_.l[kb]? = some b' → (A'.blocks_.l.map Tr.cells)[kb]? = some [.d (.int .i64 b'.params_), .sl b'.insts_.id 3 0 b'.insts_.l.length, .d (.int .i64 b'.end_), .d (.int .i64 b'.value_), .sl b'.jumps_.id 2 0 b'.jumps_.l.length] := fun A' b' hsb h => by
      rw [List.getElem?_map, h, ← hsb.1, ← hsb.2]; rfl
    have hget := cellB A1 b1 ⟨sb1, sb2⟩ hb1
    have hlen : (A1.blocks_.l.map Tr.cells).length = A.blocks_.l.length := by rw [List.length_map, q1.bl]
    have hget' : ∀ h : kb < (A1.blocks_.l.map Tr.cells).length, (A1.blocks_.l.map Tr.cells)[kb] = _ := fun h => Option.some.inj ((List.getElem?_eq_getElem h).symm.trans hget)
    have hkb' : kb < A.blocks_.l.length := by omega
    have wi : IntKind.i64.wrap ((kb : Int) + 1) = ((kb + 1 : Nat) : Int) := by rw [wrap_id] <;> omega
    -- the block's instructions, as they are at first
    have hbF : Tr.era b1 ∈ (Tr.era A1).blocks_ := List.mem_map.2 ⟨b1, List.mem_of_getElem? hb1, rfl⟩
    have hI80 : b1.insts_.l.length ≤ 80 := by
      have := (good_vals q1.good hbF).1
      rw [show (Tr.era b1).insts_.length = b1.insts_.l.length from List.length_map _] at this; exact this
    have hgB : (((List.range kb).foldl stepB (F0, 0)).1.blocks_[kb]?.getD default).insts_.length = b1.insts_.l.length := by
      rw [← q1.era]
      show (((A1.blocks_.l.map Tr.era)[kb]?.getD default).insts_).length = _
      rw [List.getElem?_map, hb1]
      exact List.length_map _
    generalize hP0 : (List.range kb).foldl stepB (F0, 0) = P0 at q1 hgB
    generalize hrs : A1.blocks_.l.map Tr.cells = rows at hrow hget hget' hlen
    refine W_run mixed ⟨[K_89], [K_89h, K_100h, K_102h], [84], 107, H.length, [0, 2, 3, 4, 5, 6, 7, 8, 9, 10, 11, 12, 13, 14, 23, 24, 25, 35, 36, 37, 54, 64, 65, 66, 67, 86, 97], [25, 37, 54, 67, 81, 86, 97]⟩ (fun _ => []) (by kernel_rfl) ?_
    simp only [stripX, stripOps, pickOps]
    simp [K_89_f, K_89_e, K_89h_f, K_89h_e, K_100h_f, K_100h_e, K_102h_f, K_102h_e, K_89h_g, K_100h_g, K_102h_g, -V.flat, -V.one, one_int, one_bool, one_str, one_nilp, one_rp, one_nilsl, one_ro, one_cl, one_nilf, one_nili, one_ifc, one_ptr, one_sl, one_clo, flat_d, flat_ptr, flat_sl, flat_clo, flat_agg, -decA, decA_int, decA_bool, decA_str, hf1, hrow, hget, hget', hlen, hkb']
    refine W_loopH (α := Nat × AFunc × Int × Heap) (fun a => [(0, .ptr idf 2 0 0), (3, .ptr w 5 0 0), (4, .d (.int .i64 a.2.2.1)), (5, .d (.int .i64 kb)), (23, .d (.int .i64 A.blocks_.l.length)), (24, .d (.int .i64 kb)), (35, .d (.int .i64 b1.insts_.l.length)), (36, .d (.int .i64 a.1))]) (fun a => a.2.2.2)
      (fun a => a.1 ≤ b1.insts_.l.length ∧ (0 ≤ a.2.2.1 ∧ a.2.2.1 ≤ 100 * kb + a.1) ∧ NI A H0 ((List.range a.1).foldl (stepI kb) P0) a.2.1 a.2.2.1 a.2.2.2 ∧ ∃ b2, a.2.1.blocks_.l[kb]? = some b2 ∧ b2.insts_.v = b1.insts_.v ∧ b2.insts_.l.length = b1.insts_.l.length) (fun a => b1.insts_.l.length - a.1) (0, A1, m1, H1) ?_ ⟨Nat.zero_le _, ⟨hm1.1, by have := hm1.2; simp only []; omega⟩, q1, b1, hb1, rfl, rfl⟩ ?_
    · simp
    rintro ⟨ji, A2, m2, H2⟩ ⟨hji, hm2, q2, b2, hb2, e2v, e2l⟩
    simp only [] at hji hm2 q2 hb2 e2v e2l
    by_cases hjn : b1.insts_.l.length ≤ ji
    · have e : ji = b1.insts_.l.length := by omega
      have ef : (List.range ji).foldl (stepI kb) P0 = (List.range (kb + 1)).foldl stepB (F0, 0) := by
        rw [List.range_succ, List.foldl_append, hP0]
        show _ = stepB P0 kb
        unfold stepB
        rw [hgB, e]
      rw [ef] at q2
      refine W_run mixed ⟨[K_89], [K_89h, K_100h, K_102h], [84], 107, H.length, [0, 2, 3, 4, 5, 6, 7, 8, 9, 10, 11, 12, 13, 14, 23, 24, 25, 35, 36, 37, 54, 64, 65, 66, 67, 86, 97], [25, 37, 54, 67, 81, 86, 97]⟩ (fun _ => []) (by kernel_rfl) ?_
      simp only [stripX, stripOps, pickOps]
      simp [K_89_f, K_89_e, K_89h_f, K_89h_e, K_100h_f, K_100h_e, K_102h_f, K_102h_e, K_89h_g, K_100h_g, K_102h_g, -V.flat, -V.one, one_int, one_bool, one_str, one_nilp, one_rp, one_nilsl, one_ro, one_cl, one_nilf, one_nili, one_ifc, one_ptr, one_sl, one_clo, flat_d, flat_ptr, flat_sl, flat_clo, flat_agg, -decA, decA_int, decA_bool, decA_str, hjn]
      exact ⟨fun h => absurd hjn (by omega), kb + 1, A2, m2, H2, ⟨by omega, ⟨by omega, by omega⟩, q2⟩, by omega, rfl, rfl, by rw [wi]⟩
    have hjl : ji < b2.insts_.l.length := by omega
    have hf2 : H2[idf]? = some (.row 2 [[.d (.int .i64 A.params_), .sl A.blocks_.id 5 0 A.blocks_.l.length]]) := (q2.only.at_ _ (List.getElem?_eq_some_iff.1 hf0).1 hn).trans hf0
    have hrow2 := row1 A2 H2 q2.own (congrArg V.slId q2.bv) q2.bl
    have hsb2 := q2.sol.2 b2 (List.mem_of_getElem? hb2)
    have hget2 := cellB A2 b2 hsb2 hb2
    have hlen2 : (A2.blocks_.l.map Tr.cells).length = A.blocks_.l.length := by rw [List.length_map, q2.bl]
    have oB2 : Own H2 b2 := (AFunc.own_blocks_ q2.own).elems.get (List.mem_of_getElem? hb2)
    obtain ⟨x, hx⟩ : ∃ x, b2.insts_.l[ji]? = some x := ⟨_, List.getElem?_eq_getElem hjl⟩
    have hxm := List.mem_of_getElem? hx
    have irow : H2[b2.insts_.id]? = some (.row 3 (b2.insts_.l.map Tr.cells)) := ((ABlock.own_insts_ oB2).row (by omega)).2.1
    have iget : (b2.insts_.l.map Tr.cells)[ji]? = some [.d (.int .i64 x.op_), .d (.int .i64 x.n_), x.args_.v] := by rw [List.getElem?_map, hx]; rfl
    have ilen : (b2.insts_.l.map Tr.cells).length = b1.insts_.l.length := by rw [List.length_map, e2l]
    have ltr := (List.getElem?_eq_some_iff.1 irow).1
    have wj : IntKind.i64.wrap ((ji : Int) + 1) = ((ji + 1 : Nat) : Int) := by rw [wrap_id] <;> omega
    have hji' : ji < b1.insts_.l.length := by omega
    have hid : b2.insts_.id = b1.insts_.id := congrArg V.slId e2v
    have hstep : (List.range (ji + 1)).foldl (stepI kb) P0 = stepI kb (Tr.era A2, m2) ji := by
      rw [List.range_succ, List.foldl_append, ← q2.era]; rfl
    have hbF2 : Tr.era b2 ∈ (Tr.era A2).blocks_ := List.mem_map.2 ⟨b2, List.mem_of_getElem? hb2, rfl⟩
    have hxF2 : Tr.era x ∈ (Tr.era b2).insts_ := List.mem_map.2 ⟨x, hxm, rfl⟩
    have hins : insOf (Tr.era A2) kb ji = Tr.era x := by
      unfold insOf
      show (((A2.blocks_.l.map Tr.era)[kb]?.getD default).insts_)[ji]?.getD default = _
      rw [List.getElem?_map, hb2]
      show (b2.insts_.l.map Tr.era)[ji]?.getD default = _
      rw [List.getElem?_map, hx]; rfl
    obtain ⟨hax, hvx⟩ := good_inst q2.good hbF2 hxF2
    have hxe : Tr.era x = ⟨x.op_, x.n_, x.args_.l⟩ := by
      show Inst.mk x.op_ x.n_ (Tr.era x.args_) = _
      rw [era_AS_ints]
    rw [hxe] at hax hvx
    simp only [] at hax hvx
    have stay : canI (Tr.era A2) (Tr.era x) = false → NI A H0 ((List.range (ji + 1)).foldl (stepI kb) P0) A2 m2 H2 := fun h => by
      rw [hstep]
      unfold stepI
      rw [hins, if_neg (by rw [h]; decide)]
      exact q2.era ▸ q2
    have hget2' : ∀ h : kb < (A2.blocks_.l.map Tr.cells).length, (A2.blocks_.l.map Tr.cells)[kb] = _ := fun h => Option.some.inj ((List.getElem?_eq_getElem h).symm.trans hget2)
    have iget' : ∀ h : ji < (b2.insts_.l.map Tr.cells).length, (b2.insts_.l.map Tr.cells)[ji] = _ := fun h => Option.some.inj ((List.getElem?_eq_getElem h).symm.trans iget)
    generalize hrs2 : A2.blocks_.l.map Tr.cells = rows2 at hrow2 hget2 hget2' hlen2
    generalize hir : b2.insts_.l.map Tr.cells = irows at irow iget iget' ilen
    rw [e2l] at hget2 hget2'
    cases hr : inR x.op_ 3 11 with
    | false =>
      have hc : canI (Tr.era A2) (Tr.era x) = false := by
        have h : ¬ (3 ≤ x.op_ ∧ x.op_ ≤ 11) := fun q => by rw [inR_t.2 q] at hr; cases hr
        rw [hxe]
        by_cases h3 : 3 ≤ x.op_
        · have : ¬ x.op_ ≤ 11 := fun q => h ⟨h3, q⟩
          simp [canI, this]
        · simp [canI, h3]
      refine W_run mixed ⟨[K_89], [K_89h, K_100h, K_102h], [84], 107, H.length, [0, 2, 3, 4, 5, 6, 7, 8, 9, 10, 11, 12, 13, 14, 23, 24, 25, 35, 36, 37, 54, 64, 65, 66, 67, 86, 97], [25, 37, 54, 67, 81, 86, 97]⟩ (fun _ => []) (by kernel_rfl) ?_
      simp only [stripX, stripOps, pickOps]
      simp [K_89_f, K_89_e, K_89h_f, K_89h_e, K_100h_f, K_100h_e, K_102h_f, K_102h_e, K_89h_g, K_100h_g, K_102h_g, -V.flat, -V.one, one_int, one_bool, one_str, one_nilp, one_rp, one_nilsl, one_ro, one_cl, one_nilf, one_nili, one_ifc, one_ptr, one_sl, one_clo, flat_d, flat_ptr, flat_sl, flat_clo, flat_agg, -decA, decA_int, decA_bool, decA_str, hf2, hrow2, hget2, hget2', hlen2, hkb', irow, iget, iget', ilen, hji', hr]
      exact ⟨ji + 1, A2, m2, H2, ⟨by omega, ⟨by omega, by omega⟩, stay hc, b2, hb2, e2v, e2l⟩, by omega, rfl, rfl, by rw [wj]⟩
    | true =>
      obtain ⟨r3, r11⟩ := inR_t.1 hr
      have hop := arity_ok r3 r11 hax
      have hap : 0 < x.args_.l.length := by unfold okOp at hop; omega
      have oA := AInst.own_args_ ((ABlock.own_insts_ oB2).elems.get hxm)
      obtain ⟨av, arow, _, _⟩ := oA.row hap
      replace av : x.args_.v = .sl x.args_.id 1 0 x.args_.l.length := av
      have lta := (List.getElem?_eq_some_iff.1 arow).1
      have hal : x.args_.l.length ≤ 3 := by unfold okOp at hop; omega
      have argR : ∀ R : Heap, (H2 ++ R)[x.args_.id]? = some (.row 1 (rI x.args_.l)) := fun R => (List.getElem?_append_left lta).trans arow
      rw [av] at iget iget'
      have hw2 : VW H.length A2 (Tr.era A2) w f b H2 := (hw.keep q2.only (fun hj => by have := ltA _ hj; have := hw.ge; omega) (fun hj => by have := ltA _ hj; have := hw.ge; omega) (fun hj => by have := ltA _ hj; have := hw.ge; omega)).to q2.par q2.bv q2.bl (by rw [← hE]; exact q2.par) (by rw [← hE]; exact q2.shq)
      have dV : ∀ R : Heap, decA (α := Ptr View) (H2 ++ R) (.ptr w 5 0 0) = (True, ⟨viewD (Tr.era A2)⟩) := fun R => (hw2.keep (Only.app [] _ R) List.not_mem_nil List.not_mem_nil List.not_mem_nil).decA (q2.more R).own q2.sol rfl
      have hcan : canI (Tr.era A2) (Tr.era x) = (x.args_.l.all (nuB (Tr.era A2)) && !opTr x.op_ (x.args_.l.map (nuN (Tr.era A2)))) := by rw [hxe]; simp [canI, r3, r11]
      generalize hF2 : Tr.era A2 = F2 at stay hcan dV hvx hstep hins hw2
      have hg2 : goodF F2 = true := hF2 ▸ q2.good
      have irowR : ∀ R : Heap, (H2 ++ R)[b2.insts_.id]? = some (.row 3 irows) := fun R => (List.getElem?_append_left ltr).trans irow
      have isetR : ∀ (R : Heap) p, (H2 ++ R).set b2.insts_.id p = H2.set b2.insts_.id p ++ R := fun R p => List.set_append_left _ _ ltr
      have f1 : (x.args_.l.length : Int) * 8 ≤ 140737488355328 := by omega
      have f2 : (x.args_.l.length : Int) ≤ 140737488355328 := by omega
      refine W_run mixed ⟨[K_89], [K_89h, K_100h, K_102h], [84], 107, H.length, [0, 2, 3, 4, 5, 6, 7, 8, 9, 10, 11, 12, 13, 14, 23, 24, 25, 35, 36, 37, 54, 64, 65, 66, 67, 86, 97], [25, 37, 54, 67, 81, 86, 97]⟩ (fun _ => []) (by kernel_rfl) ?_
      simp only [stripX, stripOps, pickOps]
      simp [K_89_f, K_89_e, K_89h_f, K_89h_e, K_100h_f, K_100h_e, K_102h_f, K_102h_e, K_89h_g, K_100h_g, K_102h_g, -V.flat, -V.one, one_int, one_bool, one_str, one_nilp, one_rp, one_nilsl, one_ro, one_cl, one_nilf, one_nili, one_ifc, one_ptr, one_sl, one_clo, flat_d, flat_ptr, flat_sl, flat_clo, flat_agg, -decA, decA_int, decA_bool, decA_str, hf2, hrow2, hget2, hget2', hlen2, hkb', irow, iget, iget', ilen, hji', hr, hap, f1, f2, irowR]
      refine W_loopH (α := Nat) (fun k => [(0, .ptr idf 2 0 0), (3, .ptr w 5 0 0), (4, .d (.int .i64 m2)), (5, .d (.int .i64 kb)), (7, .ptr b2.insts_.id 3 ji 0), (8, .sl H2.length 1 0 x.args_.l.length), (9, .d (.bool (allK F2 x.args_.l k))), (23, .d (.int .i64 A.blocks_.l.length)), (24, .d (.int .i64 kb)), (35, .d (.int .i64 b1.insts_.l.length)), (36, .d (.int .i64 ji)), (64, .sl x.args_.id 1 0 x.args_.l.length), (65, .d (.int .i64 x.args_.l.length)), (66, .d (.int .i64 k))])
        (fun k => H2 ++ [.row 1 (fillR x.args_.l.length k (fun j => [.d (.int .i64 (nuN F2 (x.args_.l[j]?.getD 0)))]) [.d (.int .i64 0)])]) (fun k => k ≤ x.args_.l.length) (fun k => x.args_.l.length - k) 0 ?_ (Nat.zero_le _) ?_
      · simp
        exact ⟨fillR_zero _ _ _, rfl⟩
      intro k hk
      replace hk : k ≤ x.args_.l.length := hk
      by_cases hkn : k < x.args_.l.length
      · have hm : x.args_.l[k]?.getD 0 ∈ x.args_.l := by rw [List.getElem?_eq_getElem hkn]; exact List.getElem_mem hkn
        have hts : allK F2 x.args_.l (k + 1) = (allK F2 x.args_.l k && nuB F2 (x.args_.l[k]?.getD 0)) := by
          unfold allK
          rw [List.take_succ_eq_append_getElem hkn, List.all_append, List.getElem?_eq_getElem hkn]; simp
        obtain ⟨n0, n1⟩ := hvx _ hm
        obtain ⟨ko, ki, kB, kN⟩ := kn_nu hg2 n0 n1
        have hfs := fillR_set x.args_.l.length k (fun j => [V.d (.int .i64 (nuN F2 (x.args_.l[j]?.getD 0)))]) [.d (.int .i64 0)] hkn
        have wk : IntKind.i64.wrap ((k : Int) + 1) = ((k + 1 : Nat) : Int) := by rw [wrap_id] <;> omega
        generalize hxk : x.args_.l[k]?.getD 0 = xk at *
        have hxk' : ∀ h : k < x.args_.l.length, x.args_.l[k] = xk := fun h => by rw [← hxk, List.getElem?_eq_getElem h]; rfl
        refine W_run mixed ⟨[K_89], [K_89h, K_100h, K_102h], [84], 107, H.length, [0, 2, 3, 4, 5, 6, 7, 8, 9, 10, 11, 12, 13, 14, 23, 24, 25, 35, 36, 37, 54, 64, 65, 66, 67, 86, 97], [25, 37, 54, 67, 81, 86, 97]⟩ (fun _ => []) (by kernel_rfl) ?_
        simp only [stripX, stripOps, pickOps]
        simp [K_89_f, K_89_e, K_89h_f, K_89h_e, K_100h_f, K_100h_e, K_102h_f, K_102h_e, K_89h_g, K_100h_g, K_102h_g, -V.flat, -V.one, one_int, one_bool, one_str, one_nilp, one_rp, one_nilsl, one_ro, one_cl, one_nilf, one_nili, one_ifc, one_ptr, one_sl, one_clo, flat_d, flat_ptr, flat_sl, flat_clo, flat_agg, -decA, decA_int, decA_bool, decA_str, hf2, argR, dV, ko, kB, kN, hkn, hxk, hxk']
        refine ⟨fun h => ⟨k + 1, hkn, by omega, hfs, ?_, wk⟩, fun h => ⟨k + 1, hkn, by omega, hfs, ?_, wk⟩⟩
        · rw [hts, h]; rfl
        · rw [hts, h]; rfl
      · have e : k = x.args_.l.length := by omega
        subst e
        have hfd : fillR x.args_.l.length x.args_.l.length (fun j => [V.d (.int .i64 (nuN F2 (x.args_.l[j]?.getD 0)))]) [.d (.int .i64 0)] = rI (x.args_.l.map (nuN F2)) := by
          refine List.ext_getElem (by simp) fun j h1 h2 => ?_
          have hj : j < x.args_.l.length := by simpa using h1
          simp [fillR, hj]
        rw [hfd]
        have hak : allK F2 x.args_.l x.args_.l.length = x.args_.l.all (nuB F2) := by unfold allK; rw [List.take_of_length_le (Nat.le_refl _)]
        have stay' : canI F2 (Tr.era x) = false → NI A H0 ((List.range (ji + 1)).foldl (stepI kb) P0) A2 m2 (H2 ++ [.row 1 (rI (x.args_.l.map (nuN F2)))]) := fun h => (stay h).more _
        have hlm : (x.args_.l.map (nuN F2)).length = x.args_.l.length := List.length_map _
        have hop2 : okOp x.op_ (x.args_.l.map (nuN F2)) := by unfold okOp; rw [hlm]; exact hop
        have hen : Enc.good (x.args_.l.map (nuN F2)) := ⟨by rw [hlm]; omega, fun a ha => by
          obtain ⟨y, _, rfl⟩ := List.mem_map.1 ha
          exact nu_good (hF2 ▸ q2.enc) y⟩
        have dL := decA_S (own_row (H := H2 ++ [.row 1 (rI (x.args_.l.map (nuN F2)))]) List.getElem?_concat_length)
        rw [era_AS_ints, hlm] at dL
        simp only [] at dL
        have hnum : numI F2 (Tr.era x) = ⟨1, opNr x.op_ (x.args_.l.map (nuN F2)), []⟩ := by rw [hxe]; rfl
        generalize hxs : x.args_.l.map (nuN F2) = xs at *
        cases ha : x.args_.l.all (nuB F2) with
        | false =>
          have hc : canI F2 (Tr.era x) = false := by rw [hcan, ha]; rfl
          refine W_run mixed ⟨[K_89], [K_89h, K_100h, K_102h], [84], 107, H.length, [0, 2, 3, 4, 5, 6, 7, 8, 9, 10, 11, 12, 13, 14, 23, 24, 25, 35, 36, 37, 54, 64, 65, 66, 67, 86, 97], [25, 37, 54, 67, 81, 86, 97]⟩ (fun _ => []) (by kernel_rfl) ?_
          simp only [stripX, stripOps, pickOps]
          simp [K_89_f, K_89_e, K_89h_f, K_89h_e, K_100h_f, K_100h_e, K_102h_f, K_102h_e, K_89h_g, K_100h_g, K_102h_g, -V.flat, -V.one, one_int, one_bool, one_str, one_nilp, one_rp, one_nilsl, one_ro, one_cl, one_nilf, one_nili, one_ifc, one_ptr, one_sl, one_clo, flat_d, flat_ptr, flat_sl, flat_clo, flat_agg, -decA, decA_int, decA_bool, decA_str, hak, ha]
          exact ⟨ji + 1, A2, m2, _, ⟨by omega, ⟨by omega, by omega⟩, stay' hc, b2, hb2, e2v, e2l⟩, by omega, rfl, rfl, by rw [wj]⟩
        | true =>
          cases ht : opTr x.op_ xs with
          | true =>
            have hc : canI F2 (Tr.era x) = false := by rw [hcan, ht, ha]; rfl
            refine W_run mixed ⟨[K_89], [K_89h, K_100h, K_102h], [84], 107, H.length, [0, 2, 3, 4, 5, 6, 7, 8, 9, 10, 11, 12, 13, 14, 23, 24, 25, 35, 36, 37, 54, 64, 65, 66, 67, 86, 97], [25, 37, 54, 67, 81, 86, 97]⟩ (fun _ => []) (by kernel_rfl) ?_
            simp only [stripX, stripOps, pickOps]
            simp [K_89_f, K_89_e, K_89h_f, K_89h_e, K_100h_f, K_100h_e, K_102h_f, K_102h_e, K_89h_g, K_100h_g, K_102h_g, -V.flat, -V.one, one_int, one_bool, one_str, one_nilp, one_rp, one_nilsl, one_ro, one_cl, one_nilf, one_nili, one_ifc, one_ptr, one_sl, one_clo, flat_d, flat_ptr, flat_sl, flat_clo, flat_agg, -decA, decA_int, decA_bool, decA_str, hak, ha, ht, irowR, iget, iget', ilen, hji', dL, hop2]
            exact ⟨ji + 1, A2, m2, _, ⟨by omega, ⟨by omega, by omega⟩, stay' hc, b2, hb2, e2v, e2l⟩, by omega, rfl, rfl, by rw [wj]⟩
          | false =>
            have hc : canI F2 (Tr.era x) = true := by rw [hcan, ht, ha]; rfl
            refine W_run mixed ⟨[K_89], [K_89h, K_100h, K_102h], [84], 107, H.length, [0, 2, 3, 4, 5, 6, 7, 8, 9, 10, 11, 12, 13, 14, 23, 24, 25, 35, 36, 37, 54, 64, 65, 66, 67, 86, 97], [25, 37, 54, 67, 81, 86, 97]⟩ (fun _ => []) (by kernel_rfl) ?_
            simp only [stripX, stripOps, pickOps]
            simp [K_89_f, K_89_e, K_89h_f, K_89h_e, K_100h_f, K_100h_e, K_102h_f, K_102h_e, K_89h_g, K_100h_g, K_102h_g, -V.flat, -V.one, one_int, one_bool, one_str, one_nilp, one_rp, one_nilsl, one_ro, one_cl, one_nilf, one_nili, one_ifc, one_ptr, one_sl, one_clo, flat_d, flat_ptr, flat_sl, flat_clo, flat_agg, -decA, decA_int, decA_bool, decA_str, hak, ha, ht, irowR, isetR, iget, iget', ilen, hji', dL, hop2]
            have q2' : NI A H0 (F2, m2) A2 m2 H2 := by
              have := q2
              rw [← q2.era, hF2] at this
              exact this
            have hwr := (q2'.more [.row 1 (rI xs)]).wr (x := (⟨1, opNr x.op_ xs, ⟨.d .nilsl, []⟩⟩ : AInst)) hb2 hjl ⟨.inr ⟨rfl, .inl rfl⟩, fun a ha => absurd ha List.not_mem_nil⟩ rfl (num_ok (F := F2) _ _) ⟨(by show (-9223372036854775808 : Int) ≤ 1 ∧ (1 : Int) ≤ 9223372036854775807; decide), opN_good hen, Nat.zero_le _, fun a ha => absurd ha List.not_mem_nil⟩ (rows := irows.set ji [.d (.int .i64 1), .d (.int .i64 (opNr x.op_ xs)), .d .nilsl]) (by rw [← hir, List.map_set]; rfl)
            rw [isetR] at hwr
            have hst : (List.range (ji + 1)).foldl (stepI kb) P0 = (setI F2 kb ji (Tr.era (⟨1, opNr x.op_ xs, ⟨.d .nilsl, []⟩⟩ : AInst)), m2 + 1) := by
              rw [hstep]
              unfold stepI
              rw [hins, if_pos hc, hnum]; rfl
            rw [← hst] at hwr
            have wm : IntKind.i64.wrap (m2 + 1) = m2 + 1 := wrap_id (by omega) (by omega)
            refine ⟨ji + 1, _, _, _, ⟨by omega, ⟨by omega, by omega⟩, hwr, ABlock.setX b2 ji ⟨1, opNr x.op_ xs, ⟨.d .nilsl, []⟩⟩, ?_, e2v, ?_⟩, by omega, rfl, wm, by rw [wj]⟩
            · show (A2.blocks_.l.set kb _)[kb]? = _
              rw [List.getElem?_set_self (List.getElem?_eq_some_iff.1 hb2).1, hb2]; rfl
            · show (b2.insts_.l.set ji _).length = _
              rw [List.length_set]; exact e2l
theorem foldNums_pass : PassOwn 57 (fun F => (fnN F).1) fun F => (fnN F).2 := fun H A idf q =>
  (foldNums_own H A idf q.row q.own q.sol q.nin q.good q.enc).mono fun r H' ⟨A', e, n⟩ => ⟨A', e, congrArg Prod.fst n.era,
    ⟨by rw [n.par, n.bv]; exact (n.only.at_ _ (List.getElem?_eq_some_iff.1 q.row).1 q.nin).trans q.row, n.own, n.sol, fun h => q.nin (n.ids _ h), n.good, n.enc⟩, fun j hj => .inl (n.ids j hj), n.only.mono fun j hj => List.mem_cons_of_mem _ hj⟩
end Go.Proofs.YtbmloeahcdneaaaGreat
end
