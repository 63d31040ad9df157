/- Both programs find the same source of a load and the same store that stores over: contracts of SourceOf and OverwrittenBy. No condition. -/
import Derived.Test.YtpakdkiceoknjaaS24
namespace Go.Proofs.Ytpakdkiceoknjaa
set_option maxRecDepth 100000
set_option linter.unusedSimpArgs false
set_option linter.unusedVariables false
theorem place_facts {F : Func} {n : Int} (h : goodF F = true) (h0 : 0 ≤ n) (h1 : n < many F) (hb : 0 ≤ bk (viewD F) n) (ha : 0 ≤ atV (viewD F) n) :
    blkAt (viewD F) n ∈ F.blocks_ ∧ bk (viewD F) n < F.blocks_.length ∧ atV (viewD F) n < (blkAt (viewD F) n).insts_.length ∧ IntKind.i64.wrap (n - atV (viewD F) n) = fsV (viewD F) (bk (viewD F) n) := by
  obtain ⟨hp, hl, hh, hm, hc, hs, _⟩ := goodF_spec h
  obtain ⟨e1, e2⟩ := inst_same h h0 h1 hb ha
  obtain ⟨r1, r2, r3⟩ := instS_ok (isVal_of h h0 h1) (by rw [e1]; exact hb)
  rw [e1] at r1 r3
  have hbm : blkAt (viewD F) n ∈ F.blocks_ := by
    show F.blocks_[(bk (viewD F) n).toNat]?.getD default ∈ F.blocks_
    rw [List.getElem?_eq_getElem (by omega)]; exact List.getElem_mem _
  refine ⟨hbm, r1, r3, ?_⟩
  obtain ⟨p0, p1, p2, e, x1, x2⟩ := headOk_sz (List.all_eq_true.1 hh _ hbm)
  have hf : (viewD F).first_[(bk (viewD F) n).toNat]?.getD 0 = cntB (F.blocks_.take (bk (viewD F) n).toNat) F.params_ := by
    show (firsts F.blocks_ F.params_)[(bk (viewD F) n).toNat]?.getD 0 = _
    rw [firsts_get _ _ _ (by omega)]; rfl
  have htk : (F.blocks_.take (bk (viewD F) n).toNat).all headOk = true := List.all_eq_true.2 fun x hx => List.all_eq_true.1 hh x (List.mem_of_mem_take hx)
  have hlen : (F.blocks_.take (bk (viewD F) n).toNat).length ≤ 8 := by rw [List.length_take]; omega
  obtain ⟨c1, c2, c3⟩ := cntB_sum (F.blocks_.take (bk (viewD F) n).toNat) F.params_ htk hp.1 (by omega)
  have ea : atV (viewD F) n = IntKind.i64.wrap (IntKind.i64.wrap (n - (viewD F).first_[(bk (viewD F) n).toNat]?.getD 0) - (blkAt (viewD F) n).params_) := rfl
  have ef : fsV (viewD F) (bk (viewD F) n) = IntKind.i64.wrap ((viewD F).first_[(bk (viewD F) n).toNat]?.getD 0 + (blkAt (viewD F) n).params_) := rfl
  rw [hf] at ea ef
  generalize cntB (F.blocks_.take (bk (viewD F) n).toNat) F.params_ = c at *
  rw [wrap_sub (a := n) (by omega) (by omega), wrap_sub (by omega) (by omega)] at ea
  rw [wrap_id (n := c + _) (by omega) (by omega)] at ef
  rw [ef, wrap_sub (by omega) (by omega)]
  omega
theorem okM_good {F : Func} {n : Int} (h : goodF F = true) (h0 : 0 ≤ n) (h1 : n < many F) : OkM (viewD F) n := by
  refine ⟨(view_spec h h0 h1).1, fun hb ha => ?_⟩
  obtain ⟨q1, q2, q3, _⟩ := place_facts h h0 h1 hb ha
  refine ⟨?_, q2, q3, (good_vals h q1).1, good_mem h q1⟩
  show bk (viewD F) n < ((firsts F.blocks_ F.params_).length : Int)
  rw [firsts_len]; exact q2
theorem isOp_same {F : Func} {n op : Int} (h : goodF F = true) (h0 : 0 ≤ n) (h1 : n < many F) : isOpV (viewD F) n op = isOpS F n op := by
  unfold isOpV isOpS
  rcases (view_spec h h0 h1).2 with ⟨q1, _, q2⟩ | ⟨q1, _, _, q3, _, q2⟩
  · rw [q1, q2]; rfl
  · by_cases ha : 0 ≤ atV (viewD F) n
    · obtain ⟨e1, e2⟩ := inst_same h h0 h1 q1 ha
      rw [e2, e1]
      simp [ha]
    · rw [if_neg ha] at q2
      rw [q2]
      simp [ha]
theorem srcR_congr {l : List Inst} {a : Int} {f g : Int → Int} (h : ∀ i, f i = g i) : ∀ i, srcR l a f i = srcR l a g i := by
  have : f = g := funext h
  intro i; rw [this]
theorem op_places {F : Func} {n op : Int} (h : goodF F = true) (h0 : 0 ≤ n) (h1 : n < many F) (ho : isOpV (viewD F) n op = true) :
    opPl F n op = atV (viewD F) n ∧ insL F n op = (blkAt (viewD F) n).insts_ ∧ arg0 F n op = (instI (viewD F) n).args_[0]?.getD 0 ∧ ∀ i, vfS F n op i = vfV (viewD F) n i := by
  have hs := isOp_same (op := op) h h0 h1
  rw [ho] at hs
  obtain ⟨b0, a0, _⟩ := isOpV_t ho
  obtain ⟨e1, e2⟩ := inst_same h h0 h1 b0 a0
  obtain ⟨q1, q2, q3, q4⟩ := place_facts h h0 h1 b0 a0
  have eb : opBl F n op = bk (viewD F) n := by unfold opBl; rw [if_pos hs.symm, e1]
  have ep : opPl F n op = atV (viewD F) n := by unfold opPl; rw [if_pos hs.symm, e1]
  have ei : insL F n op = (blkAt (viewD F) n).insts_ := by unfold insL; rw [eb]; rfl
  refine ⟨ep, ei, ?_, fun i => ?_⟩
  · unfold arg0; rw [ei, ep]; rfl
  · unfold vfS vfV; rw [ep, q4]
theorem src_same {F : Func} {n : Int} (h : goodF F = true) (h0 : 0 ≤ n) (h1 : n < many F) : srcV (viewD F) n = srcS F n := by
  have hs := isOp_same (op := 12) h h0 h1
  unfold srcV srcS
  cases ho : isOpV (viewD F) n 12 with
  | false => rw [ho] at hs; rw [← hs]; rfl
  | true =>
    obtain ⟨e1, e2, e3, e4⟩ := op_places h h0 h1 ho
    have ef : vfS F n 12 = vfV (viewD F) n := funext e4
    rw [ho] at hs
    rw [← hs, e1, e2, e3, ef]
theorem over_same {F : Func} {n : Int} (h : goodF F = true) (h0 : 0 ≤ n) (h1 : n < many F) : overV (viewD F) n = overS F n := by
  have hs := isOp_same (op := 13) h h0 h1
  unfold overV overS
  cases ho : isOpV (viewD F) n 13 with
  | false => rw [ho] at hs; rw [← hs]; rfl
  | true =>
    obtain ⟨e1, e2, e3, e4⟩ := op_places h h0 h1 ho
    have ef : vfS F n 13 = vfV (viewD F) n := funext e4
    rw [ho] at hs
    rw [← hs, e1, e2, e3, ef]
noncomputable def foundR (F : Func) (n k : Int) : V := if (askV F n && decide (0 ≤ k)) = true then .tup [.d (.int .i64 k), .d (.bool true)] else .tup [.d (.int .i64 0), .d (.bool false)]
theorem sourceS_c (F : Func) (n : Int) (hF : Enc.good F) : PureP Try.prog 36 [vFunc F, .d (.int .i64 n)] (· = foundR F n (srcS F n)) := by
  cases hs : soundF F with
  | false =>
    refine pure_of Try.func36 en_36 rfl rfl (W_run mixed ⟨[K_71, K_52, K_77], [K_71h, K_52h, K_77h], [], 24, 0, [0, 1, 2, 4, 5, 20], [9, 15, 20]⟩ (fun _ => []) (by kernel_rfl) ?_)
    simp only [Try.f36, stripX, stripOps, pickOps]
    simp [K_71_f, K_71_e, K_52_f, K_52_e, K_77_f, K_77_e, K_71h_f, K_71h_e, K_52h_f, K_52h_e, K_77h_f, K_77h_e, K_71h_g, K_52h_g, K_77h_g, hF, hs]
    simp [foundR, askV, hs]
  | true =>
    cases ha : isVal F n with
    | false =>
      refine pure_of Try.func36 en_36 rfl rfl (W_run mixed ⟨[K_71, K_52, K_77], [K_71h, K_52h, K_77h], [], 24, 0, [0, 1, 2, 4, 5, 20], [9, 15, 20]⟩ (fun _ => []) (by kernel_rfl) ?_)
      simp only [Try.f36, stripX, stripOps, pickOps]
      simp [K_71_f, K_71_e, K_52_f, K_52_e, K_77_f, K_77_e, K_71h_f, K_71h_e, K_52h_f, K_52h_e, K_77h_f, K_77h_e, K_71h_g, K_52h_g, K_77h_g, hF, hs, ha]
      simp [foundR, askV, hs, ha]
    | true =>
      refine pure_of Try.func36 en_36 rfl rfl (W_run mixed ⟨[K_71, K_52, K_77], [K_71h, K_52h, K_77h], [], 24, 0, [0, 1, 2, 4, 5, 20], [9, 15, 20]⟩ (fun _ => []) (by kernel_rfl) ?_)
      simp only [Try.f36, stripX, stripOps, pickOps]
      simp [K_71_f, K_71_e, K_52_f, K_52_e, K_77_f, K_77_e, K_71h_f, K_71h_e, K_52h_f, K_52h_e, K_77h_f, K_77h_e, K_71h_g, K_52h_g, K_77h_g, hF, hs, ha]
      refine ⟨fun q => ?_, fun q => ?_⟩ <;> simp [foundR, askV, hs, ha, q]
theorem overS_c (F : Func) (n : Int) (hF : Enc.good F) : PureP Try.prog 32 [vFunc F, .d (.int .i64 n)] (· = foundR F n (overS F n)) := by
  cases hs : soundF F with
  | false =>
    refine pure_of Try.func32 en_32 rfl rfl (W_run mixed ⟨[K_71, K_52, K_72], [K_71h, K_52h, K_72h], [], 24, 0, [0, 1, 2, 4, 5, 20], [9, 15, 20]⟩ (fun _ => []) (by kernel_rfl) ?_)
    simp only [Try.f32, stripX, stripOps, pickOps]
    simp [K_71_f, K_71_e, K_52_f, K_52_e, K_72_f, K_72_e, K_71h_f, K_71h_e, K_52h_f, K_52h_e, K_72h_f, K_72h_e, K_71h_g, K_52h_g, K_72h_g, hF, hs]
    simp [foundR, askV, hs]
  | true =>
    cases ha : isVal F n with
    | false =>
      refine pure_of Try.func32 en_32 rfl rfl (W_run mixed ⟨[K_71, K_52, K_72], [K_71h, K_52h, K_72h], [], 24, 0, [0, 1, 2, 4, 5, 20], [9, 15, 20]⟩ (fun _ => []) (by kernel_rfl) ?_)
      simp only [Try.f32, stripX, stripOps, pickOps]
      simp [K_71_f, K_71_e, K_52_f, K_52_e, K_72_f, K_72_e, K_71h_f, K_71h_e, K_52h_f, K_52h_e, K_72h_f, K_72h_e, K_71h_g, K_52h_g, K_72h_g, hF, hs, ha]
      simp [foundR, askV, hs, ha]
    | true =>
      refine pure_of Try.func32 en_32 rfl rfl (W_run mixed ⟨[K_71, K_52, K_72], [K_71h, K_52h, K_72h], [], 24, 0, [0, 1, 2, 4, 5, 20], [9, 15, 20]⟩ (fun _ => []) (by kernel_rfl) ?_)
      simp only [Try.f32, stripX, stripOps, pickOps]
      simp [K_71_f, K_71_e, K_52_f, K_52_e, K_72_f, K_72_e, K_71h_f, K_71h_e, K_52h_f, K_52h_e, K_72h_f, K_72h_e, K_71h_g, K_52h_g, K_72h_g, hF, hs, ha]
      refine ⟨fun q => ?_, fun q => ?_⟩ <;> simp [foundR, askV, hs, ha, q]
theorem sourceI_c (F : Func) (n : Int) (hF : Enc.good F) (h1 : Enc.good n) : PureP Try.prog 37 [vFunc F, .d (.int .i64 n)] (· = foundR F n (srcS F n)) := by
  have h3 : Enc.good [n] := ⟨by simp, fun x hx => by simp at hx; subst hx; exact h1⟩
  cases hs : soundF F with
  | false =>
    refine pure_of Try.func37 en_37 rfl rfl (W_run mixed ⟨[K_73, K_55, K_78], [K_73h, K_55h, K_78h], [], 28, 0, [0, 1, 2, 4, 5, 6, 7, 21, 26], [12, 21, 26]⟩ (fun _ => []) (by kernel_rfl) ?_)
    simp only [Try.f37, stripX, stripOps, pickOps]
    simp [K_73_f, K_73_e, K_55_f, K_55_e, K_78_f, K_78_e, K_73h_f, K_73h_e, K_55h_f, K_55h_e, K_78h_f, K_78h_e, K_73h_g, K_55h_g, K_78h_g, hF, sound_N hs]
    simp [foundR, askV, hs]
  | true =>
    have hg := sound_good hs
    have ev : allIn [n] 0 (IntKind.i64.wrap (many F - 1)) = isVal F n := by rw [allIn1, isVal_inR hg]
    cases ha : isVal F n with
    | false =>
      rw [ha] at ev
      refine pure_of Try.func37 en_37 rfl rfl (W_run mixed ⟨[K_73, K_55, K_78], [K_73h, K_55h, K_78h], [], 28, 0, [0, 1, 2, 4, 5, 6, 7, 21, 26], [12, 21, 26]⟩ (fun _ => []) (by kernel_rfl) ?_)
      simp only [Try.f37, stripX, stripOps, pickOps]
      simp [K_73_f, K_73_e, K_55_f, K_55_e, K_78_f, K_78_e, K_73h_f, K_73h_e, K_55h_f, K_55h_e, K_78h_f, K_78h_e, K_73h_g, K_55h_g, K_78h_g, hF, sound_V hs, h3, ways_view, viewD_total, ev]
      simp [foundR, askV, hs, ha]
    | true =>
      rw [ha] at ev
      obtain ⟨_, a0, a1⟩ := isVal_t ha
      have hok := okM_good hg a0 a1
      have he := src_same hg a0 a1
      refine pure_of Try.func37 en_37 rfl rfl (W_run mixed ⟨[K_73, K_55, K_78], [K_73h, K_55h, K_78h], [], 28, 0, [0, 1, 2, 4, 5, 6, 7, 21, 26], [12, 21, 26]⟩ (fun _ => []) (by kernel_rfl) ?_)
      simp only [Try.f37, stripX, stripOps, pickOps]
      simp [K_73_f, K_73_e, K_55_f, K_55_e, K_78_f, K_78_e, K_73h_f, K_73h_e, K_55h_f, K_55h_e, K_78h_f, K_78h_e, K_73h_g, K_55h_g, K_78h_g, hF, sound_V hs, h3, ways_view, viewD_total, ev, hok, he]
      refine ⟨fun q => ?_, fun q => ?_⟩ <;> simp [foundR, askV, hs, ha, q]
theorem overI_c (F : Func) (n : Int) (hF : Enc.good F) (h1 : Enc.good n) : PureP Try.prog 33 [vFunc F, .d (.int .i64 n)] (· = foundR F n (overS F n)) := by
  have h3 : Enc.good [n] := ⟨by simp, fun x hx => by simp at hx; subst hx; exact h1⟩
  cases hs : soundF F with
  | false =>
    refine pure_of Try.func33 en_33 rfl rfl (W_run mixed ⟨[K_73, K_55, K_74], [K_73h, K_55h, K_74h], [], 31, 0, [0, 1, 2, 4, 5, 6, 7, 21, 29], [12, 21, 29]⟩ (fun _ => []) (by kernel_rfl) ?_)
    simp only [Try.f33, stripX, stripOps, pickOps]
    simp [K_73_f, K_73_e, K_55_f, K_55_e, K_74_f, K_74_e, K_73h_f, K_73h_e, K_55h_f, K_55h_e, K_74h_f, K_74h_e, K_73h_g, K_55h_g, K_74h_g, hF, sound_N hs]
    simp [foundR, askV, hs]
  | true =>
    have hg := sound_good hs
    have ev : allIn [n] 0 (IntKind.i64.wrap (many F - 1)) = isVal F n := by rw [allIn1, isVal_inR hg]
    cases ha : isVal F n with
    | false =>
      rw [ha] at ev
      refine pure_of Try.func33 en_33 rfl rfl (W_run mixed ⟨[K_73, K_55, K_74], [K_73h, K_55h, K_74h], [], 31, 0, [0, 1, 2, 4, 5, 6, 7, 21, 29], [12, 21, 29]⟩ (fun _ => []) (by kernel_rfl) ?_)
      simp only [Try.f33, stripX, stripOps, pickOps]
      simp [K_73_f, K_73_e, K_55_f, K_55_e, K_74_f, K_74_e, K_73h_f, K_73h_e, K_55h_f, K_55h_e, K_74h_f, K_74h_e, K_73h_g, K_55h_g, K_74h_g, hF, sound_V hs, h3, ways_view, viewD_total, ev]
      simp [foundR, askV, hs, ha]
    | true =>
      rw [ha] at ev
      obtain ⟨_, a0, a1⟩ := isVal_t ha
      have hok := okM_good hg a0 a1
      have he := over_same hg a0 a1
      refine pure_of Try.func33 en_33 rfl rfl (W_run mixed ⟨[K_73, K_55, K_74], [K_73h, K_55h, K_74h], [], 31, 0, [0, 1, 2, 4, 5, 6, 7, 21, 29], [12, 21, 29]⟩ (fun _ => []) (by kernel_rfl) ?_)
      simp only [Try.f33, stripX, stripOps, pickOps]
      simp [K_73_f, K_73_e, K_55_f, K_55_e, K_74_f, K_74_e, K_73h_f, K_73h_e, K_55h_f, K_55h_e, K_74h_f, K_74h_e, K_73h_g, K_55h_g, K_74h_g, hF, sound_V hs, h3, ways_view, viewD_total, ev, hok, he]
      refine ⟨fun q => ?_, fun q => ?_⟩ <;> simp [foundR, askV, hs, ha, q]
noncomputable def K_36 : Ent Try.prog := Ent.p2 (α := Func) (β := Int) 36 (fun F n => Enc.good F) (fun F n => foundR F n (srcS F n)) (fun F n hc => sourceS_c F n hc)
theorem K_36_f : K_36.f = 36 := rfl
theorem K_36_e (F0 : Int) (F1 : List Block) (n : Int) : K_36.e [.agg [.d (.int .i64 F0), .d (dBlockS F1)], .d (.int .i64 n)] = some (Enc.good (Func.mk F0 F1), foundR (Func.mk F0 F1) n (srcS (Func.mk F0 F1) n), []) := by unfold K_36; exact Ent.p2_eq (α := Func) (β := Int) (Func.mk F0 F1) n
noncomputable def K_36h : EntH Try.prog := EntH.pk2 (α := Func) (β := Int) 36 (fun F n => Enc.good F) (fun F n => foundR F n (srcS F n)) (fun F n => []) (fun F n hc => PureP.ans (sourceS_c F n hc))
theorem K_36h_f : K_36h.f = 36 := rfl
theorem K_36h_g : K_36h.gro = true := rfl
theorem K_36h_e {x1 x2 : V} {H : Heap} : K_36h.e [x1, x2] H = guardR ((decA (α := Func) H x1).1 ∧ (decA (α := Int) H x2).1) (peekR (Enc.good (decA (α := Func) H x1).2) (foundR (decA (α := Func) H x1).2 (decA (α := Int) H x2).2 (srcS (decA (α := Func) H x1).2 (decA (α := Int) H x2).2)) ([]) H) := rfl
noncomputable def K_37 : Ent Try.prog := Ent.p2 (α := Func) (β := Int) 37 (fun F n => Enc.good F ∧ Enc.good n) (fun F n => foundR F n (srcS F n)) (fun F n hc => sourceI_c F n hc.1 hc.2)
theorem K_37_f : K_37.f = 37 := rfl
theorem K_37_e (F0 : Int) (F1 : List Block) (n : Int) : K_37.e [.agg [.d (.int .i64 F0), .d (dBlockS F1)], .d (.int .i64 n)] = some (Enc.good (Func.mk F0 F1) ∧ Enc.good n, foundR (Func.mk F0 F1) n (srcS (Func.mk F0 F1) n), []) := by unfold K_37; exact Ent.p2_eq (α := Func) (β := Int) (Func.mk F0 F1) n
noncomputable def K_37h : EntH Try.prog := EntH.pk2 (α := Func) (β := Int) 37 (fun F n => Enc.good F ∧ Enc.good n) (fun F n => foundR F n (srcS F n)) (fun F n => []) (fun F n hc => PureP.ans (sourceI_c F n hc.1 hc.2))
theorem K_37h_f : K_37h.f = 37 := rfl
theorem K_37h_g : K_37h.gro = true := rfl
theorem K_37h_e {x1 x2 : V} {H : Heap} : K_37h.e [x1, x2] H = guardR ((decA (α := Func) H x1).1 ∧ (decA (α := Int) H x2).1) (peekR (Enc.good (decA (α := Func) H x1).2 ∧ Enc.good (decA (α := Int) H x2).2) (foundR (decA (α := Func) H x1).2 (decA (α := Int) H x2).2 (srcS (decA (α := Func) H x1).2 (decA (α := Int) H x2).2)) ([]) H) := rfl
noncomputable def K_32 : Ent Try.prog := Ent.p2 (α := Func) (β := Int) 32 (fun F n => Enc.good F) (fun F n => foundR F n (overS F n)) (fun F n hc => overS_c F n hc)
theorem K_32_f : K_32.f = 32 := rfl
theorem K_32_e (F0 : Int) (F1 : List Block) (n : Int) : K_32.e [.agg [.d (.int .i64 F0), .d (dBlockS F1)], .d (.int .i64 n)] = some (Enc.good (Func.mk F0 F1), foundR (Func.mk F0 F1) n (overS (Func.mk F0 F1) n), []) := by unfold K_32; exact Ent.p2_eq (α := Func) (β := Int) (Func.mk F0 F1) n
noncomputable def K_32h : EntH Try.prog := EntH.pk2 (α := Func) (β := Int) 32 (fun F n => Enc.good F) (fun F n => foundR F n (overS F n)) (fun F n => []) (fun F n hc => PureP.ans (overS_c F n hc))
theorem K_32h_f : K_32h.f = 32 := rfl
theorem K_32h_g : K_32h.gro = true := rfl
theorem K_32h_e {x1 x2 : V} {H : Heap} : K_32h.e [x1, x2] H = guardR ((decA (α := Func) H x1).1 ∧ (decA (α := Int) H x2).1) (peekR (Enc.good (decA (α := Func) H x1).2) (foundR (decA (α := Func) H x1).2 (decA (α := Int) H x2).2 (overS (decA (α := Func) H x1).2 (decA (α := Int) H x2).2)) ([]) H) := rfl
noncomputable def K_33 : Ent Try.prog := Ent.p2 (α := Func) (β := Int) 33 (fun F n => Enc.good F ∧ Enc.good n) (fun F n => foundR F n (overS F n)) (fun F n hc => overI_c F n hc.1 hc.2)
theorem K_33_f : K_33.f = 33 := rfl
theorem K_33_e (F0 : Int) (F1 : List Block) (n : Int) : K_33.e [.agg [.d (.int .i64 F0), .d (dBlockS F1)], .d (.int .i64 n)] = some (Enc.good (Func.mk F0 F1) ∧ Enc.good n, foundR (Func.mk F0 F1) n (overS (Func.mk F0 F1) n), []) := by unfold K_33; exact Ent.p2_eq (α := Func) (β := Int) (Func.mk F0 F1) n
noncomputable def K_33h : EntH Try.prog := EntH.pk2 (α := Func) (β := Int) 33 (fun F n => Enc.good F ∧ Enc.good n) (fun F n => foundR F n (overS F n)) (fun F n => []) (fun F n hc => PureP.ans (overI_c F n hc.1 hc.2))
theorem K_33h_f : K_33h.f = 33 := rfl
theorem K_33h_g : K_33h.gro = true := rfl
theorem K_33h_e {x1 x2 : V} {H : Heap} : K_33h.e [x1, x2] H = guardR ((decA (α := Func) H x1).1 ∧ (decA (α := Int) H x2).1) (peekR (Enc.good (decA (α := Func) H x1).2 ∧ Enc.good (decA (α := Int) H x2).2) (foundR (decA (α := Func) H x1).2 (decA (α := Int) H x2).2 (overS (decA (α := Func) H x1).2 (decA (α := Int) H x2).2)) ([]) H) := rfl
end Go.Proofs.Ytpakdkiceoknjaa
