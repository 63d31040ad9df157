/- impl.redirectAll over trees. No condition. -/
import Derived.Test.YtbmloeahcdneaaaGreatQS17
import Derived.Test.YtbmloeahcdneaaaGreatQS66
namespace Go.Proofs.YtbmloeahcdneaaaGreat
set_option maxRecDepth 100000
set_option linter.unusedSimpArgs false
set_option linter.unusedVariables false
theorem PureP.peekI {P : Program} {f : FuncId} {vs vs' : List V} {x : D} {H : Heap} (h : PureP P f vs' (· = .d x)) (hv : Reads1 H vs vs') (hr : x.scl = true) : CallsD P f vs H fun r H' => r = .d x ∧ H' = H :=
  (CallsD.peek (r := .d x) (R := []) (h.mono fun r H' q => ⟨q.2, q.1⟩) hv hr fun p hp => absurd hp List.not_mem_nil).mono fun r H' q => ⟨q.1, by rw [q.2, List.map_nil, List.append_nil]⟩
theorem At.postO {H H' : Heap} {idf : Nat} {A : AFunc} (q : At H idf A) (ho : Only [] H H') : At H' idf A := q.frame ho List.not_mem_nil fun j _ h => absurd h List.not_mem_nil
theorem redirect_at {H : Heap} {idf : Nat} {A : AFunc} {fr to : Int} (q : At H idf A) (hg : ∀ x, 0 ≤ x → x < many (Tr.era A) → 0 ≤ rdG fr to x ∧ rdG fr to x < many (Tr.era A)) (ht : Enc.good to) :
    CallsD Tryz.prog 49 [.ptr idf 2 0 0, .d (.int .i64 fr), .d (.int .i64 to)] H fun r H' => r = .tup [] ∧ ∃ A', Tr.era A' = mpF (rdG fr to) (Tr.era A) ∧ A'.params_ = A.params_ ∧ A'.blocks_.v = A.blocks_.v ∧ PR H idf A A' H' := by
  refine (redirect_own H A idf fr to q.row q.own q.nin (smallA_of (good_small q.good) rfl)).mono ?_
  rintro r H' ⟨rfl, bs, ob, vb, ib, oo, eb, hsb⟩
  have hl : bs.l.length = A.blocks_.l.length := by
    have := congrArg List.length eb
    simpa [Tr.era] using this
  have eA : Tr.era (⟨A.params_, bs⟩ : AFunc) = mpF (rdG fr to) (Tr.era A) := by
    show Func.mk A.params_ (Tr.era bs) = _
    rw [eb]; rfl
  refine ⟨rfl, ⟨A.params_, bs⟩, eA, rfl, vb, ⟨⟨?_, AFunc.own ob, ⟨?_, hsb q.sol.2⟩, ?_, ?_, ?_⟩, fun j hj => .inl (ib ▸ hj : j ∈ ids A.blocks_), oo.mono fun j hj => List.mem_cons_of_mem _ hj⟩⟩
  · show H'[idf]? = some (.row 2 [[.d (.int .i64 A.params_), bs.v]])
    rw [vb]
    exact (oo.at_ _ (List.getElem?_eq_some_iff.1 q.row).1 q.nin).trans q.row
  · show bs.v = .sl bs.v.slId 5 0 bs.l.length
    rw [vb, hl]; exact q.sol.1
  · intro h
    have : idf ∈ ids bs := h
    rw [ib] at this
    exact q.nin this
  · rw [eA]; exact mpF_good q.good hg
  · rw [eA]
    refine mpF_enc q.enc fun x hx => ?_
    unfold rdG
    split
    · exact ht
    · exact hx
theorem redirectAll_own {fn : Nat} {to : Func → Int → Int} (hc : ∀ F k, goodF F = true → 0 ≤ k → k < many F → PureP Tryz.prog fn [.d (.rp 3 (dWays (waysV (viewD F)))), .d (.int .i64 k)] (· = .d (.int .i64 (to F k)))) (ht : ToOk to)
    (hne : ¬ 84 = fn ∧ ¬ 85 = fn ∧ ¬ 49 = fn) (H : Heap) (A : AFunc) (idf : Nat) (q : At H idf A) :
    CallsD Tryz.prog 119 [.ptr idf 2 0 0, .d (.clo fn 0 fun _ => .undef)] H fun r H' => ∃ A', r = .d (.int .i64 (raK to (Tr.era A))) ∧ Tr.era A' = raG to (Tr.era A) ∧ PR H idf A A' H' := by
  obtain ⟨n1, n2, n3⟩ := hne
  have hvw := viewOf_own H A q.own q.sol q.good q.enc
  have hrow := q.row
  rw [cells_AFunc] at hvw
  obtain ⟨m0, m80⟩ := many_rng q.good
  have hfl := q.own.ok.1.flat
  have hone := q.own.ok.1.scl.2
  refine calls_of Tryz.func119 en_119 rfl (of_decide_eq_true rfl) (W_run mixed ⟨[], [], [84, 85, 49], 36, H.length, [0, 1, 4, 5, 6, 7, 14, 15, 16, 27], [16, 27]⟩ (fun _ => []) (by kernel_rfl) ?_)
  simp only [Tryz.f119, stripX, stripOps, pickOps]
  simp [-V.flat, -V.one, one_int, one_bool, one_str, one_nilp, one_rp, one_nilsl, one_ro, one_cl, one_nilf, one_nili, one_ifc, one_ptr, one_sl, one_clo, flat_d, flat_ptr, flat_sl, flat_clo, flat_agg, -decA, decA_int, decA_bool, decA_str, hrow, hfl, hone, n1, n2, n3, retQ]
  refine hvw.mono ?_
  rintro r H0 ⟨w, f, b, rfl, hw, ho⟩
  have hview := hw.view
  generalize hE : Tr.era A = F0 at *
  simp [K_85_f, K_85_e, K_85h_f, K_85h_e, K_85h_g, -V.flat, -V.one, one_int, one_bool, one_str, one_nilp, one_rp, one_nilsl, one_ro, one_cl, one_nilf, one_nili, one_ifc, one_ptr, one_sl, one_clo, flat_d, flat_ptr, flat_sl, flat_clo, flat_agg, -decA, decA_int, decA_bool, decA_str, hview]
  refine W_loopH (α := Nat × AFunc × Int × Heap) (fun a => [(0, .ptr idf 2 0 0), (1, .d (.clo fn 0 fun _ => .undef)), (5, .d (.int .i64 a.2.2.1)), (14, .d (.int .i64 (many F0))), (15, .d (.int .i64 a.1))]) (fun a => a.2.2.2)
    (fun a => (a.1 : Int) ≤ many F0 ∧ (0 ≤ a.2.2.1 ∧ a.2.2.1 ≤ a.1) ∧ (Tr.era a.2.1, a.2.2.1) = (List.range a.1).foldl (raS to) (F0, 0) ∧ PR H idf A a.2.1 a.2.2.2) (fun a => (many F0).toNat - a.1) (0, A, 0, H0) ?_ ⟨by show (0 : Int) ≤ many F0; omega, ⟨Int.le_refl 0, by simp⟩, by rw [hE]; rfl, (PR.refl q).postO ho⟩ ?_
  · simp
  rintro ⟨k, A1, m1, H1⟩ ⟨hk, hm1, he, pr⟩
  simp only [] at hk hm1 he pr
  by_cases hin : many F0 ≤ k
  · refine W_run mixed ⟨[], [], [84, 85, 49], 36, H.length, [0, 1, 4, 5, 6, 7, 14, 15, 16, 27], [16, 27]⟩ (fun _ => []) (by kernel_rfl) ?_
    simp only [stripX, stripOps, pickOps]
    simp [-V.flat, -V.one, one_int, one_bool, one_str, one_nilp, one_rp, one_nilsl, one_ro, one_cl, one_nilf, one_nili, one_ifc, one_ptr, one_sl, one_clo, flat_d, flat_ptr, flat_sl, flat_clo, flat_agg, -decA, decA_int, decA_bool, decA_str, retQ, hin]
    refine ⟨fun h => absurd hin (by omega), ?_⟩
    have e : k = (many F0).toNat := by omega
    rw [e] at he
    exact ⟨_, _, Fin.same pr.only.len, by rw [show m1 = raK to F0 from congrArg Prod.snd he], A1, congrArg Prod.fst he, pr⟩
  · have q1 := pr.at_
    obtain ⟨g1, g2⟩ := raF_good ht (hE ▸ q.good : goodF F0 = true) k (by omega)
    rw [← he] at g1 g2
    simp only [] at g1 g2
    have r1 := q1.row
    have fl1 := q1.own.ok.1.flat
    have on1 := q1.own.ok.1.scl.2
    have hk' : (k : Int) < many F0 := by omega
    have wk : IntKind.i64.wrap ((k : Int) + 1) = ((k + 1 : Nat) : Int) := by rw [wrap_id] <;> omega
    have hst : (List.range (k + 1)).foldl (raS to) (F0, 0) = raS to (Tr.era A1, m1) k := by rw [List.range_succ, List.foldl_append, ← he]; rfl
    refine W_run mixed ⟨[], [], [84, 85, 49], 36, H.length, [0, 1, 4, 5, 6, 7, 14, 15, 16, 27], [16, 27]⟩ (fun _ => []) (by kernel_rfl) ?_
    simp only [stripX, stripOps, pickOps]
    simp [-V.flat, -V.one, one_int, one_bool, one_str, one_nilp, one_rp, one_nilsl, one_ro, one_cl, one_nilf, one_nili, one_ifc, one_ptr, one_sl, one_clo, flat_d, flat_ptr, flat_sl, flat_clo, flat_agg, -decA, decA_int, decA_bool, decA_str, r1, fl1, on1, hk', n1, n2, n3]
    have hvw1 := viewOf_own H1 A1 q1.own q1.sol q1.good q1.enc
    rw [cells_AFunc] at hvw1
    refine hvw1.mono ?_
    rintro r H2 ⟨w2, f2, b2, rfl, hw2, ho2⟩
    simp [-V.flat, -V.one, one_int, one_bool, one_str, one_nilp, one_rp, one_nilsl, one_ro, one_cl, one_nilf, one_nili, one_ifc, one_ptr, one_sl, one_clo, flat_d, flat_ptr, flat_sl, flat_clo, flat_agg, -decA, decA_int, decA_bool, decA_str, n1, n2, n3]
    obtain ⟨hf1, hf2, hf3⟩ := good_flow q1.good
    have hd2 := hw2.decA (q1.postO ho2).own q1.sol rfl
    refine (waysOf_own hd2 hf1 hf2 (by show 0 < (nextL (Tr.era A1).blocks_).length; simpa [nextL] using hf3)).mono ?_
    rintro r H3 ⟨kd, rfl, rfl⟩
    generalize hH3 : H2 ++ (List.replicate kd Place.dead ++ [.row 3 [[.ptr w2 5 0 0, .d (dBoolS (rchB (nextL (viewD (Tr.era A1)).blocks_) 0 (-1))), .d (dBoolSS (domL (nextL (viewD (Tr.era A1)).blocks_)))]]]) = H3
    have ho3 : Only [] H2 H3 := by rw [← hH3]; exact Only.app [] _ _
    have hr3 : H3[H2.length + kd]? = some (.row 3 [[.ptr w2 5 0 0, .d (dBoolS (rchB (nextL (viewD (Tr.era A1)).blocks_) 0 (-1))), .d (dBoolSS (domL (nextL (viewD (Tr.era A1)).blocks_)))]]) := by
      rw [← hH3, ← List.append_assoc, List.getElem?_append_right (by simp)]; simp
    have q3 := (q1.postO ho2).postO ho3
    have hdd := (hw2.keep ho3 List.not_mem_nil List.not_mem_nil List.not_mem_nil).dec q3.own q1.sol rfl
    have hwd := ways_dec (v := viewD (Tr.era A1)) hdd hr3
    simp [-V.flat, -V.one, one_int, one_bool, one_str, one_nilp, one_rp, one_nilsl, one_ro, one_cl, one_nilf, one_nili, one_ifc, one_ptr, one_sl, one_clo, flat_d, flat_ptr, flat_sl, flat_clo, flat_agg, -decA, decA_int, decA_bool, decA_str, n1, n2, n3]
    refine (PureP.peekI (hc (Tr.era A1) k q1.good (by omega) (by rw [g2]; exact hk')) (Rd1.list (vs := [.ptr (H2.length + kd) 3 0 0, .d (.int .i64 k)]) (vs' := [.d (.rp 3 (dWays (waysV (viewD (Tr.era A1))))), .d (.int .i64 k)]) ⟨Rd1.dec (α := Ptr Ways) (a := ⟨waysV (viewD (Tr.era A1))⟩) ⟨of_eq_true (congrArg Prod.fst hwd), congrArg Prod.snd hwd⟩, Rd1.d, trivial⟩) rfl).mono ?_
    rintro r H4 ⟨rfl, rfl⟩
    have pr3 : PR H idf A A1 H4 := (pr.postO ho2).postO ho3
    by_cases hto : 0 ≤ to (Tr.era A1) k
    · have htl := ht (Tr.era A1) k q1.good (by omega) (by rw [g2]; exact hk')
      have hst2 : (List.range (k + 1)).foldl (raS to) (F0, 0) = (mpF (rdG k (to (Tr.era A1) k)) (Tr.era A1), m1 + 1) := by rw [hst]; exact if_pos hto
      simp [-V.flat, -V.one, one_int, one_bool, one_str, one_nilp, one_rp, one_nilsl, one_ro, one_cl, one_nilf, one_nili, one_ifc, one_ptr, one_sl, one_clo, flat_d, flat_ptr, flat_sl, flat_clo, flat_agg, -decA, decA_int, decA_bool, decA_str, n1, n2, n3, hto]
      refine (redirect_at (fr := k) (to := to (Tr.era A1) k) pr3.at_ (rdG_ok hto htl) ⟨by omega, by omega⟩).mono ?_
      rintro r H5 ⟨rfl, A2, eA2, _, _, pr5⟩
      have wm : IntKind.i64.wrap (m1 + 1) = m1 + 1 := wrap_id (by omega) (by omega)
      simp [-V.flat, -V.one, one_int, one_bool, one_str, one_nilp, one_rp, one_nilsl, one_ro, one_cl, one_nilf, one_nili, one_ifc, one_ptr, one_sl, one_clo, flat_d, flat_ptr, flat_sl, flat_clo, flat_agg, -decA, decA_int, decA_bool, decA_str, n1, n2, n3, hto]
      exact ⟨k + 1, A2, _, _, ⟨by omega, ⟨by omega, by omega⟩, by rw [hst2, eA2], pr3.trans pr5⟩, by omega, rfl, wm, by rw [wk]⟩
    · have hst2 : (List.range (k + 1)).foldl (raS to) (F0, 0) = (Tr.era A1, m1) := by rw [hst]; exact if_neg hto
      simp [-V.flat, -V.one, one_int, one_bool, one_str, one_nilp, one_rp, one_nilsl, one_ro, one_cl, one_nilf, one_nili, one_ifc, one_ptr, one_sl, one_clo, flat_d, flat_ptr, flat_sl, flat_clo, flat_agg, -decA, decA_int, decA_bool, decA_str, n1, n2, n3, hto]
      exact ⟨k + 1, A1, _, _, ⟨by omega, ⟨by omega, by omega⟩, by rw [hst2], pr3⟩, by omega, rfl, rfl, by rw [wk]⟩
end Go.Proofs.YtbmloeahcdneaaaGreat
