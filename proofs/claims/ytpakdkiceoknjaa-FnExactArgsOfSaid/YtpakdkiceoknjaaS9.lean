/- Contracts of IsPure of both programs, and that they are the same. No condition. -/
import Derived.Test.YtpakdkiceoknjaaS8
import Derived.Test.YtpakdkiceoknjaaRd
import Derived.Test.YtpakdkiceoknjaaRows
namespace Go.Proofs.Ytpakdkiceoknjaa
set_option maxRecDepth 100000
set_option linter.unusedSimpArgs false
set_option linter.unusedVariables false
theorem goodF_spec {F : Func} (h : goodF F = true) : (0 ≤ F.params_ ∧ F.params_ ≤ 4) ∧ (1 ≤ (F.blocks_.length : Int) ∧ F.blocks_.length ≤ 8) ∧ F.blocks_.all headOk = true ∧ many F ≤ 80 ∧ many F = F.params_ + sumI F.blocks_ ∧ 0 ≤ sumI F.blocks_ ∧ F.blocks_.all (bodyOk F.blocks_ (many F)) = true := by
  simp only [goodF, Bool.and_eq_true, decide_eq_true_eq] at h
  obtain ⟨h1, h2, h3, h4, h5, h6⟩ := h
  have h1' := inR_t.1 h1
  have h2' := inR_t.1 h2
  obtain ⟨c1, c2, c3⟩ := cntB_sum F.blocks_ F.params_ h4 h1'.1 (by omega)
  exact ⟨h1', ⟨h2'.1, by omega⟩, h4, h5, c1, c2, h6⟩
theorem view_spec {F : Func} {n : Int} (h : goodF F = true) (h0 : 0 ≤ n) (h1 : n < many F) : okV (viewD F) n ∧
    ((bk (viewD F) n = -1 ∧ n < F.params_ ∧ instS F n F.blocks_ 0 = (-1, -1)) ∨
     (0 ≤ bk (viewD F) n ∧ bk (viewD F) n < F.blocks_.length ∧ F.params_ ≤ n ∧ atV (viewD F) n < (blkAt (viewD F) n).insts_.length ∧ -4 ≤ atV (viewD F) n ∧ instS F n F.blocks_ 0 = if 0 ≤ atV (viewD F) n then (bk (viewD F) n, atV (viewD F) n) else (-1, -1))) := by
  obtain ⟨hp, hl, hh, hm, hc, hs, _⟩ := goodF_spec h
  have ec : cntB (F.blocks_.take 0) F.params_ = F.params_ := rfl
  by_cases hn : n < F.params_
  · have hg : (viewD F).block_[n.toNat]? = some (-1) := by
      show (List.replicate F.params_.toNat (-1) ++ blkOf F.blocks_ 0)[n.toNat]? = _
      rw [List.getElem?_append_left (by simp; omega), List.getElem?_replicate, if_pos (by omega)]
    have hb : bk (viewD F) n = -1 := by simp only [bk, hg, Option.getD_some]
    have hlt := (List.getElem?_eq_some_iff.1 hg).1
    refine ⟨⟨⟨h0, by omega⟩, fun q => by omega⟩, .inl ⟨hb, hn, ?_⟩⟩
    exact instS_none F n hh hp (by omega) (by omega) F.blocks_ 0 rfl (by rw [ec]; exact hn)
  · obtain ⟨k, q1, q2, q3, s, q4, q5, q6, q7, q8, q9⟩ := loc_spec n F.blocks_ 0 F.params_ hh hp.1 (by omega) (by omega) (by omega)
    have hg : (viewD F).block_[n.toNat]? = some ((0 + k : Nat) : Int) := by
      show (List.replicate F.params_.toNat (-1) ++ blkOf F.blocks_ 0)[n.toNat]? = _
      rw [List.getElem?_append_right (by simp; omega), List.length_replicate, show n.toNat - F.params_.toNat = (n - F.params_).toNat by omega]
      exact q3
    have hb : bk (viewD F) n = (k : Int) := by simp only [bk, hg, Option.getD_some]; omega
    have hblk : blkAt (viewD F) n = F.blocks_[k]?.getD default := by simp only [blkAt, hb, viewD_blocks]; rfl
    obtain ⟨p0, p1, p2, e, e1, e2⟩ := headOk_sz q8
    have hat : atV (viewD F) n = (loc n F.blocks_ 0 F.params_).2 := by
      have hf : (viewD F).first_[k]?.getD 0 = s := by show (firsts F.blocks_ F.params_)[k]?.getD 0 = s; rw [q4]; rfl
      simp only [atV, hblk, hb, Int.toNat_natCast]
      have w1 : IntKind.i64.wrap (n - s) = n - s := wrap_sub (by omega) (by omega)
      rw [hf, q7, w1, wrap_sub (by omega) (by omega)]
    have hlt := (List.getElem?_eq_some_iff.1 hg).1
    have hfl := (List.getElem?_eq_some_iff.1 q4).1
    have hbl : (viewD F).blocks_.length = F.blocks_.length := rfl
    have hff : (viewD F).first_ = firsts F.blocks_ F.params_ := rfl
    have hi := instS_loc F n hh hp (by omega) (by omega) F.blocks_ 0 rfl (by rw [ec]; omega) (by rw [ec]; omega)
    rw [ec] at hi
    refine ⟨⟨⟨h0, by omega⟩, fun _ => ⟨by rw [hb, hff]; omega, by rw [hb, hbl]; omega, fun _ => by rw [hat, hblk]; exact q9⟩⟩, .inr ⟨by omega, by omega, by omega, by rw [hat, hblk]; exact q9, by rw [hat, q7]; omega, ?_⟩⟩
    rw [hi, hat, hb, q2]
    simp
def opAt (F : Func) (p : Int × Int) : Int := ((F.blocks_[p.1.toNat]?.getD default).insts_[p.2.toNat]?.getD default).op_
def pureS (F : Func) (n : Int) : Bool := decide (0 ≤ (instS F n F.blocks_ 0).1) && pureOp (opAt F (instS F n F.blocks_ 0))
theorem pure_same {F : Func} {n : Int} (h : goodF F = true) (h0 : 0 ≤ n) (h1 : n < many F) : pureV (viewD F) n = pureS F n := by
  rcases (view_spec h h0 h1).2 with ⟨q1, _, q2⟩ | ⟨q1, _, _, q3, _, q2⟩
  · simp [pureV, pureS, q1, q2]
  · by_cases ha : 0 ≤ atV (viewD F) n
    · rw [if_pos ha] at q2
      simp only [pureV, pureS, q2, q1, ha, decide_true, Bool.true_and]
      rfl
    · rw [if_neg ha] at q2
      simp [pureV, pureS, q2, ha]
def isPureR (F : Func) (n : Int) : V := .tup [.d (.bool (isVal F n && pureS F n)), .d (.bool (isVal F n))]
theorem isVal_t {F : Func} {n : Int} (h : isVal F n = true) : goodF F = true ∧ 0 ≤ n ∧ n < many F := by
  simp only [isVal, Bool.and_eq_true] at h
  obtain ⟨hp, hl, hh, hm, hc, hs, _⟩ := goodF_spec h.1
  have := inR_t.1 h.2
  rw [wrap_sub (by omega) (by omega)] at this
  exact ⟨h.1, by omega, by omega⟩
theorem instS_ok {F : Func} {n : Int} (h : isVal F n = true) (h0 : 0 ≤ (instS F n F.blocks_ 0).1) :
    (instS F n F.blocks_ 0).1 < F.blocks_.length ∧ 0 ≤ (instS F n F.blocks_ 0).2 ∧ (instS F n F.blocks_ 0).2 < (F.blocks_[(instS F n F.blocks_ 0).1.toNat]?.getD default).insts_.length := by
  obtain ⟨hg, g0, g1⟩ := isVal_t h
  rcases (view_spec hg g0 g1).2 with ⟨q1, _, q2⟩ | ⟨q1, q4, _, q3, _, q2⟩
  · rw [q2] at h0; exact absurd h0 (by decide)
  · by_cases ha : 0 ≤ atV (viewD F) n
    · rw [if_pos ha] at q2
      rw [q2]
      exact ⟨q4, ha, q3⟩
    · rw [if_neg ha] at q2
      rw [q2] at h0; exact absurd h0 (by decide)
theorem isPureS_c (F : Func) (n : Int) (hF : Enc.good F) : PureP Try.prog 20 [vFunc F, .d (.int .i64 n)] (· = isPureR F n) := by
  cases hv : isVal F n with
  | false =>
    refine pure_of Try.func20 en_20 rfl rfl (W_run mixed ⟨[K_52, K_53, K_54], [K_52h, K_53h, K_54h], [], 33, 0, [0, 1, 2, 4, 5, 6, 7, 11], [11, 20]⟩ (fun _ => []) (by kernel_rfl) ?_)
    simp only [Try.f20, stripX, stripOps, pickOps]
    simp [K_52_f, K_52_e, K_53_f, K_53_e, K_54_f, K_54_e, K_52h_f, K_52h_e, K_53h_f, K_53h_e, K_54h_f, K_54h_e, K_52h_g, K_53h_g, K_54h_g, hF, hv]
    simp [isPureR, hv]
  | true =>
    have hok := instS_ok hv
    refine pure_of Try.func20 en_20 rfl rfl (W_run mixed ⟨[K_52, K_53, K_54], [K_52h, K_53h, K_54h], [], 33, 0, [0, 1, 2, 4, 5, 6, 7, 11], [11, 20]⟩ (fun _ => []) (by kernel_rfl) ?_)
    simp only [Try.f20, stripX, stripOps, pickOps]
    simp [K_52_f, K_52_e, K_53_f, K_53_e, K_54_f, K_54_e, K_52h_f, K_52h_e, K_53h_f, K_53h_e, K_54h_f, K_54h_e, K_52h_g, K_53h_g, K_54h_g, hF, hv]
    refine ⟨fun q => ⟨⟨q, (hok q).1⟩, (hok q).2, by simp [isPureR, hv, pureS, opAt, q]⟩, fun q => ?_⟩
    have : ¬ 0 ≤ (instS F n F.blocks_ 0).1 := by omega
    simp [isPureR, hv, pureS, this]
theorem isPureI_c (F : Func) (n : Int) (hF : Enc.good F) (hn : Enc.good n) : PureP Try.prog 21 [vFunc F, .d (.int .i64 n)] (· = isPureR F n) := by
  have h3 : Enc.good [n] := ⟨by simp, fun a ha => by simp at ha; subst ha; exact hn⟩
  cases hg : goodF F with
  | false =>
    refine pure_of Try.func21 en_21 rfl rfl (W_run mixed ⟨[K_48, K_55, K_56], [K_48h, K_55h, K_56h], [], 21, 0, [0, 1, 2, 4, 5, 6, 17], [11, 17]⟩ (fun _ => []) (by kernel_rfl) ?_)
    simp only [Try.f21, stripX, stripOps, pickOps]
    simp [K_48_f, K_48_e, K_55_f, K_55_e, K_56_f, K_56_e, K_48h_f, K_48h_e, K_55h_f, K_55h_e, K_56h_f, K_56h_e, K_48h_g, K_55h_g, K_56h_g, hF, viewV_f hg]
    simp [isPureR, isVal, hg]
  | true =>
    cases hv : inR n 0 (IntKind.i64.wrap (many F - 1)) with
    | false =>
      have ha : allIn [n] 0 (IntKind.i64.wrap (many F - 1)) = false := by simp [allIn, hv]
      refine pure_of Try.func21 en_21 rfl rfl (W_run mixed ⟨[K_48, K_55, K_56], [K_48h, K_55h, K_56h], [], 21, 0, [0, 1, 2, 4, 5, 6, 17], [11, 17]⟩ (fun _ => []) (by kernel_rfl) ?_)
      simp only [Try.f21, stripX, stripOps, pickOps]
      simp [K_48_f, K_48_e, K_55_f, K_55_e, K_56_f, K_56_e, K_48h_f, K_48h_e, K_55h_f, K_55h_e, K_56h_f, K_56h_e, K_48h_g, K_55h_g, K_56h_g, hF, viewV_t hg, h3, viewD_total, ha]
      simp [isPureR, isVal, hg, hv]
    | true =>
      have ha : allIn [n] 0 (IntKind.i64.wrap (many F - 1)) = true := by simp [allIn, hv]
      have hv' : isVal F n = true := by simp [isVal, hg, hv]
      obtain ⟨_, g0, g1⟩ := isVal_t hv'
      have hok : okV (viewD F) n := (view_spec hg g0 g1).1
      refine pure_of Try.func21 en_21 rfl rfl (W_run mixed ⟨[K_48, K_55, K_56], [K_48h, K_55h, K_56h], [], 21, 0, [0, 1, 2, 4, 5, 6, 17], [11, 17]⟩ (fun _ => []) (by kernel_rfl) ?_)
      simp only [Try.f21, stripX, stripOps, pickOps]
      simp [K_48_f, K_48_e, K_55_f, K_55_e, K_56_f, K_56_e, K_48h_f, K_48h_e, K_55h_f, K_55h_e, K_56h_f, K_56h_e, K_48h_g, K_55h_g, K_56h_g, hF, viewV_t hg, h3, viewD_total, ha, hok]
      simp [isPureR, hv', pure_same hg g0 g1]
noncomputable def K_20 : Ent Try.prog := Ent.p2 (α := Func) (β := Int) 20 (fun F n => Enc.good F) (fun F n => isPureR F n) (fun F n hc => isPureS_c F n hc)
theorem K_20_f : K_20.f = 20 := rfl
theorem K_20_e (F0 : Int) (F1 : List Block) (n : Int) : K_20.e [.agg [.d (.int .i64 F0), .d (dBlockS F1)], .d (.int .i64 n)] = some (Enc.good (Func.mk F0 F1), isPureR (Func.mk F0 F1) n, []) := by unfold K_20; exact Ent.p2_eq (α := Func) (β := Int) (Func.mk F0 F1) n
noncomputable def K_20h : EntH Try.prog := EntH.pk2 (α := Func) (β := Int) 20 (fun F n => Enc.good F) (fun F n => isPureR F n) (fun F n => []) (fun F n hc => PureP.ans (isPureS_c F n hc))
theorem K_20h_f : K_20h.f = 20 := rfl
theorem K_20h_g : K_20h.gro = true := rfl
theorem K_20h_e {x1 x2 : V} {H : Heap} : K_20h.e [x1, x2] H = guardR ((decA (α := Func) H x1).1 ∧ (decA (α := Int) H x2).1) (peekR (Enc.good (decA (α := Func) H x1).2) (isPureR (decA (α := Func) H x1).2 (decA (α := Int) H x2).2) ([]) H) := rfl
noncomputable def K_21 : Ent Try.prog := Ent.p2 (α := Func) (β := Int) 21 (fun F n => Enc.good F ∧ Enc.good n) (fun F n => isPureR F n) (fun F n hc => isPureI_c F n hc.1 hc.2)
theorem K_21_f : K_21.f = 21 := rfl
theorem K_21_e (F0 : Int) (F1 : List Block) (n : Int) : K_21.e [.agg [.d (.int .i64 F0), .d (dBlockS F1)], .d (.int .i64 n)] = some (Enc.good (Func.mk F0 F1) ∧ Enc.good n, isPureR (Func.mk F0 F1) n, []) := by unfold K_21; exact Ent.p2_eq (α := Func) (β := Int) (Func.mk F0 F1) n
noncomputable def K_21h : EntH Try.prog := EntH.pk2 (α := Func) (β := Int) 21 (fun F n => Enc.good F ∧ Enc.good n) (fun F n => isPureR F n) (fun F n => []) (fun F n hc => PureP.ans (isPureI_c F n hc.1 hc.2))
theorem K_21h_f : K_21h.f = 21 := rfl
theorem K_21h_g : K_21h.gro = true := rfl
theorem K_21h_e {x1 x2 : V} {H : Heap} : K_21h.e [x1, x2] H = guardR ((decA (α := Func) H x1).1 ∧ (decA (α := Int) H x2).1) (peekR (Enc.good (decA (α := Func) H x1).2 ∧ Enc.good (decA (α := Int) H x2).2) (isPureR (decA (α := Func) H x1).2 (decA (α := Int) H x2).2) ([]) H) := rfl
/-- A weight that is not too much: nothing is long. -/
theorem small_ints {l : List Int} (h : l.length ≤ 1048576) : Sm.sm l := ⟨h, fun _ _ => trivial⟩
theorem law_IsPure (F : Func) (n : Int) (hF : Enc.good F) (hn : Enc.good n) : PureP Try.prog 5 [vFunc F, .d (.int .i64 n)] (· = .d (.bool true)) := by
  by_cases hw : szFunc F 1048576 < 0
  · refine pure_of Try.func5 en_5 rfl rfl (W_run mixed ⟨[K_15, K_17, K_20, K_21, K_19], [K_15h, K_17h, K_20h, K_21h, K_19h], [], 44, 0, [0, 1, 2, 4, 5, 6, 7, 8, 9, 10, 15, 38, 43], [15, 34, 38, 43]⟩ (fun | 10 => [0, 1, 2, 3, 4] | _ => []) (by kernel_rfl) ?_)
    simp only [Try.f5, stripX, stripOps, pickOps]
    simp [K_15_f, K_15_e, K_17_f, K_17_e, K_20_f, K_20_e, K_21_f, K_21_e, K_19_f, K_19_e, K_15h_f, K_15h_e, K_17h_f, K_17h_e, K_20h_f, K_20h_e, K_21h_f, K_21h_e, K_19h_f, K_19h_e, K_15h_g, K_17h_g, K_20h_g, K_21h_g, K_19h_g, hF, hn, hw]
  have hs : Sm.sm F := (szok_Func F 1048576 hF (by decide) (by decide) (by omega)).1
  refine pure_of Try.func5 en_5 rfl rfl (W_run mixed ⟨[K_15, K_17, K_20, K_21, K_19], [K_15h, K_17h, K_20h, K_21h, K_19h], [], 44, 0, [0, 1, 2, 4, 5, 6, 7, 8, 9, 10, 15, 38, 43], [15, 34, 38, 43]⟩ (fun | 10 => [0, 1, 2, 3, 4] | _ => []) (by kernel_rfl) ?_)
  simp only [Try.f5, stripX, stripOps, pickOps]
  simp [K_15_f, K_15_e, K_17_f, K_17_e, K_20_f, K_20_e, K_21_f, K_21_e, K_19_f, K_19_e, K_15h_f, K_15h_e, K_17h_f, K_17h_e, K_20h_f, K_20h_e, K_21h_f, K_21h_e, K_19h_f, K_19h_e, K_15h_g, K_17h_g, K_20h_g, K_21h_g, K_19h_g, hF, hn, hs, hw, isPureR]
namespace fnExactIsPure
open Go.ChangeShapes Go.WideShapes Go.RowKit
theorem own : ownKnob Try.prog.godebug = none := by kernel_rfl
theorem lifted (os : Os) (started : os.Started) (H : Type) (enc : TypeId × Value → H) :
    ReturnsInHanded {} Try.checked os 5 .any (Rows.fnExactIsPureSpec.pre6 enc Try.prog Try.f5 Rows.fnExactIsPureRow.domain false) (Rows.fnExactIsPureSpec.post enc Try.prog Try.f5 false true false false) := by
  refine returnsInHanded_of_change (C := Try.checked) own started (by kernel_rfl) Try.func5
    (ChangeSpec.witness6 (enc := enc) (C := Try.checked) false ⟨#[], #[.agg #[.int .i64 0, .slice none 0 0], .int .i64 0], []⟩ 8 (by kernel_rfl) (by kernel_rfl) (by kernel_rfl) (by kernel_rfl)) ?_
  intro W base args ds gs before hval hW hcnd _
  have hW' := hW
  obtain ⟨p, q, hA, hV, _, _, _⟩ := hW
  rw [Try.params5] at hA hval
  obtain ⟨v0, vs0, d0, ds0, p0, q0, hargs, rfl, rfl, h0, r0⟩ := trodAll_cons hA
  obtain ⟨v1, vs1, d1, ds1, p1, q1, rfl, rfl, rfl, h1, r1⟩ := trodAll_cons r0
  obtain ⟨rfl, rfl, rfl⟩ := trodAll_nil r1
  obtain rfl : args = #[v0, v1] := by cases args; simp_all
  obtain ⟨F, hF, hv0⟩ := arg_of rd_Func (hval 0 27 v0 rfl rfl) h0
  obtain ⟨n, hn, hv1⟩ := arg_of rd_int (hval 1 3 v1 rfl rfl) h1
  obtain ⟨rfl, rfl⟩ := trodVars_none hV
  exact row_end (by kernel_rfl) (by kernel_rfl) (by kernel_rfl) Try.underlying4 hW' rfl rfl rfl rfl (vs := [argV F, argV n]) (by exact ⟨v0, _, rfl, hv0, ⟨v1, _, rfl, hv1, rfl⟩⟩) (law_IsPure F n hF hn)
theorem over : Rows.fnExactIsPureRow.holds Try.pinned (OpenSpec.ofChange Rows.fnExactIsPureSpec) :=
  OpenClaim.holds_of_wide 5 Try.f5 rfl rfl rfl rfl rfl rfl rfl ⟨rfl, rfl, rfl, rfl, rfl⟩ rfl rfl rfl rfl rfl (by kernel_rfl) Try.func5 (by kernel_rfl)
    (of_decide_eq_true (by kernel_rfl)) (by unfold Func.isWrapper; first | (rw [if_pos (by decide +kernel)]; kernel_rfl) | (rw [if_neg (by decide +kernel)]; exact ⟨rfl, rfl⟩))
    (fun os started H enc _ => lifted os started H enc)
end fnExactIsPure
/-- The row. -/
theorem fnExactIsPure_holds : Rows.FnExactIsPureSaid := fnExactIsPure.over
end Go.Proofs.Ytpakdkiceoknjaa
