/- Both programs find the same earlier value: contracts of EarlierOf. No condition. -/
import Derived.Test.YtpakdkiceoknjaaS23
namespace Go.Proofs.Ytpakdkiceoknjaa
set_option maxRecDepth 100000
set_option linter.unusedSimpArgs false
set_option linter.unusedVariables false
theorem many_small {F : Func} (h : goodF F = true) : 0 ≤ many F ∧ many F ≤ 80 := by
  obtain ⟨hp, hl, hh, hm, hc, hs, _⟩ := goodF_spec h
  omega
theorem pure_place {F : Func} {n : Int} (h : goodF F = true) (h0 : 0 ≤ n) (h1 : n < many F) (hp : pureV (viewD F) n = true) : (0 ≤ bk (viewD F) n ∧ bk (viewD F) n < F.blocks_.length) ∧ 0 ≤ atV (viewD F) n ∧ instS F n F.blocks_ 0 = (bk (viewD F) n, atV (viewD F) n) := by
  simp only [pureV, Bool.and_eq_true, decide_eq_true_eq] at hp
  obtain ⟨e1, e2⟩ := inst_same h h0 h1 hp.1 hp.2.1
  have := (instS_ok (isVal_of h h0 h1) (by rw [e1]; exact hp.1)).1
  rw [e1] at this
  exact ⟨⟨hp.1, this⟩, hp.2.1, e1⟩
theorem okE_good {F : Func} {n : Int} (h : goodF F = true) (h0 : 0 ≤ n) (h1 : n < many F) : OkE (waysV (viewD F)) n := by
  have hm := many_small h
  refine ⟨⟨h0, h1⟩, hm.2, fun k k0 k1 => ⟨(view_spec h k0 k1).1, pureV_args h k0 k1, fun hp => ?_⟩, fun hp => ?_⟩
  · obtain ⟨⟨q0, q1⟩, _⟩ := pure_place h h0 h1 hp
    exact okW_good h k0 k1 q0 q1
  · obtain ⟨⟨q0, q1⟩, _⟩ := pure_place h h0 h1 hp
    show bk (viewD F) n < ((rchB (nextL F.blocks_) 0 (-1)).length : Int)
    simpa [rchB, nextL] using q1
theorem allS_ne {F : Func} {b : Nat} (hb : b < F.blocks_.length) : (allS F)[b]?.getD default = [] ↔ hasL (allR F) b = false := by
  have key := allS_get (F := F) hb hb
  constructor
  · intro e
    cases hr : hasL (allR F) b with
    | false => rfl
    | true =>
      rw [← all_same hb, rchB_get (by simpa [nextL] using hb)] at hr
      have := key.2 ⟨hr, hr, fun q => q.ne rfl⟩
      rw [e] at this
      simp [hasL] at this
  · intro e
    have e' : ¬ (b : Int) ∈ allR F := fun q => by rw [hasL_iff.2 q] at e; cases e
    simp [allS, hb, e']
theorem ear_same {F : Func} {n : Int} (h : goodF F = true) (h0 : 0 ≤ n) (h1 : n < many F) : earW (waysV (viewD F)) n = earS F n := by
  have hp := pure_same h h0 h1
  have ev : (waysV (viewD F)).view_.v = viewD F := rfl
  unfold earW
  rw [ev]
  cases hq : pureV (viewD F) n with
  | false =>
    rw [if_neg (by decide)]
    rw [hq] at hp
    have hno : ∀ (k i : Nat), firstP (earP F n) i k = -1 := by
      intro k
      induction k with
      | zero => intro i; rfl
      | succ k ih =>
        intro i
        have : earP F n i = false := by simp [earP, sameS, ← hp]
        simp only [firstP]
        rw [if_neg (by rw [this]; decide), ih]
    unfold earS
    rw [hno]
    split
    · rfl
    · split <;> rfl
  | true =>
    obtain ⟨⟨q0, q1⟩, q2, q3⟩ := pure_place h h0 h1 hq
    have hm := many_small h
    have ea : (waysV (viewD F)).all_ = rchB (nextL F.blocks_) 0 (-1) := rfl
    have e3 : (((bk (viewD F) n).toNat : Nat) : Int) = bk (viewD F) n := by omega
    have hal := all_same (F := F) (b := (bk (viewD F) n).toNat) (by omega)
    have hne := allS_ne (F := F) (b := (bk (viewD F) n).toNat) (by omega)
    rw [if_pos rfl, ea, hal]
    have eS : earS F n = if (allS F)[(bk (viewD F) n).toNat]?.getD default = [] then -1 else firstP (earP F n) 0 (many F).toNat := by
      unfold earS
      rw [q3]
      exact if_neg (by show ¬ bk (viewD F) n < 0; omega)
    rw [eS]
    cases hr : hasL (allR F) ((bk (viewD F) n).toNat : Nat) with
    | false => rw [if_neg (by decide), if_pos (hne.2 hr)]
    | true =>
      rw [if_pos rfl, if_neg (fun e => by rw [hne.1 e] at hr; cases hr)]
      refine firstP_congr _ _ fun j hj1 hj2 => ?_
      have j1 : (j : Int) < many F := by
        have : (viewD F).total_ = many F := rfl
        rw [this] at hj2; omega
      unfold earQ earP
      rw [ev, q3, same_same h (by omega) j1 h0 h1, there_same h (by omega) j1 q0 q1]
noncomputable def earR (F : Func) (n : Int) : V := if (askV F n && decide (0 ≤ earS F n)) = true then .tup [.d (.int .i64 (earS F n)), .d (.bool true)] else .tup [.d (.int .i64 0), .d (.bool false)]
theorem earlierS_c (F : Func) (n : Int) (hF : Enc.good F) : PureP Try.prog 38 [vFunc F, .d (.int .i64 n)] (· = earR F n) := by
  cases hs : soundF F with
  | false =>
    refine pure_of Try.func38 en_38 rfl rfl (W_run mixed ⟨[K_71, K_52, K_79], [K_71h, K_52h, K_79h], [], 24, 0, [0, 1, 2, 4, 5, 20], [9, 15, 20]⟩ (fun _ => []) (by kernel_rfl) ?_)
    simp only [Try.f38, stripX, stripOps, pickOps]
    simp [K_71_f, K_71_e, K_52_f, K_52_e, K_79_f, K_79_e, K_71h_f, K_71h_e, K_52h_f, K_52h_e, K_79h_f, K_79h_e, K_71h_g, K_52h_g, K_79h_g, hF, hs]
    simp [earR, askV, hs]
  | true =>
    cases ha : isVal F n with
    | false =>
      refine pure_of Try.func38 en_38 rfl rfl (W_run mixed ⟨[K_71, K_52, K_79], [K_71h, K_52h, K_79h], [], 24, 0, [0, 1, 2, 4, 5, 20], [9, 15, 20]⟩ (fun _ => []) (by kernel_rfl) ?_)
      simp only [Try.f38, stripX, stripOps, pickOps]
      simp [K_71_f, K_71_e, K_52_f, K_52_e, K_79_f, K_79_e, K_71h_f, K_71h_e, K_52h_f, K_52h_e, K_79h_f, K_79h_e, K_71h_g, K_52h_g, K_79h_g, hF, hs, ha]
      simp [earR, askV, hs, ha]
    | true =>
      refine pure_of Try.func38 en_38 rfl rfl (W_run mixed ⟨[K_71, K_52, K_79], [K_71h, K_52h, K_79h], [], 24, 0, [0, 1, 2, 4, 5, 20], [9, 15, 20]⟩ (fun _ => []) (by kernel_rfl) ?_)
      simp only [Try.f38, stripX, stripOps, pickOps]
      simp [K_71_f, K_71_e, K_52_f, K_52_e, K_79_f, K_79_e, K_71h_f, K_71h_e, K_52h_f, K_52h_e, K_79h_f, K_79h_e, K_71h_g, K_52h_g, K_79h_g, hF, hs, ha]
      refine ⟨fun q => ?_, fun q => ?_⟩ <;> simp [earR, askV, hs, ha, q]
theorem earlierI_c (F : Func) (n : Int) (hF : Enc.good F) (h1 : Enc.good n) : PureP Try.prog 39 [vFunc F, .d (.int .i64 n)] (· = earR F n) := by
  have h3 : Enc.good [n] := ⟨by simp, fun x hx => by simp at hx; subst hx; exact h1⟩
  cases hs : soundF F with
  | false =>
    refine pure_of Try.func39 en_39 rfl rfl (W_run mixed ⟨[K_73, K_55, K_80], [K_73h, K_55h, K_80h], [], 28, 0, [0, 1, 2, 4, 5, 6, 7, 21, 26], [12, 21, 26]⟩ (fun _ => []) (by kernel_rfl) ?_)
    simp only [Try.f39, stripX, stripOps, pickOps]
    simp [K_73_f, K_73_e, K_55_f, K_55_e, K_80_f, K_80_e, K_73h_f, K_73h_e, K_55h_f, K_55h_e, K_80h_f, K_80h_e, K_73h_g, K_55h_g, K_80h_g, hF, sound_N hs]
    simp [earR, askV, hs]
  | true =>
    have hg := sound_good hs
    have ev : allIn [n] 0 (IntKind.i64.wrap (many F - 1)) = isVal F n := by rw [allIn1, isVal_inR hg]
    cases ha : isVal F n with
    | false =>
      rw [ha] at ev
      refine pure_of Try.func39 en_39 rfl rfl (W_run mixed ⟨[K_73, K_55, K_80], [K_73h, K_55h, K_80h], [], 28, 0, [0, 1, 2, 4, 5, 6, 7, 21, 26], [12, 21, 26]⟩ (fun _ => []) (by kernel_rfl) ?_)
      simp only [Try.f39, stripX, stripOps, pickOps]
      simp [K_73_f, K_73_e, K_55_f, K_55_e, K_80_f, K_80_e, K_73h_f, K_73h_e, K_55h_f, K_55h_e, K_80h_f, K_80h_e, K_73h_g, K_55h_g, K_80h_g, hF, sound_V hs, h3, ways_view, viewD_total, ev]
      simp [earR, askV, hs, ha]
    | true =>
      rw [ha] at ev
      obtain ⟨_, a0, a1⟩ := isVal_t ha
      have hok := okE_good hg a0 a1
      have he := ear_same hg a0 a1
      refine pure_of Try.func39 en_39 rfl rfl (W_run mixed ⟨[K_73, K_55, K_80], [K_73h, K_55h, K_80h], [], 28, 0, [0, 1, 2, 4, 5, 6, 7, 21, 26], [12, 21, 26]⟩ (fun _ => []) (by kernel_rfl) ?_)
      simp only [Try.f39, stripX, stripOps, pickOps]
      simp [K_73_f, K_73_e, K_55_f, K_55_e, K_80_f, K_80_e, K_73h_f, K_73h_e, K_55h_f, K_55h_e, K_80h_f, K_80h_e, K_73h_g, K_55h_g, K_80h_g, hF, sound_V hs, h3, ways_view, viewD_total, ev, hok, he]
      refine ⟨fun q => ?_, fun q => ?_⟩ <;> simp [earR, askV, hs, ha, q]
noncomputable def K_38 : Ent Try.prog := Ent.p2 (α := Func) (β := Int) 38 (fun F n => Enc.good F) (fun F n => earR F n) (fun F n hc => earlierS_c F n hc)
theorem K_38_f : K_38.f = 38 := rfl
theorem K_38_e (F0 : Int) (F1 : List Block) (n : Int) : K_38.e [.agg [.d (.int .i64 F0), .d (dBlockS F1)], .d (.int .i64 n)] = some (Enc.good (Func.mk F0 F1), earR (Func.mk F0 F1) n, []) := by unfold K_38; exact Ent.p2_eq (α := Func) (β := Int) (Func.mk F0 F1) n
noncomputable def K_38h : EntH Try.prog := EntH.pk2 (α := Func) (β := Int) 38 (fun F n => Enc.good F) (fun F n => earR F n) (fun F n => []) (fun F n hc => PureP.ans (earlierS_c F n hc))
theorem K_38h_f : K_38h.f = 38 := rfl
theorem K_38h_g : K_38h.gro = true := rfl
theorem K_38h_e {x1 x2 : V} {H : Heap} : K_38h.e [x1, x2] H = guardR ((decA (α := Func) H x1).1 ∧ (decA (α := Int) H x2).1) (peekR (Enc.good (decA (α := Func) H x1).2) (earR (decA (α := Func) H x1).2 (decA (α := Int) H x2).2) ([]) H) := rfl
noncomputable def K_39 : Ent Try.prog := Ent.p2 (α := Func) (β := Int) 39 (fun F n => Enc.good F ∧ Enc.good n) (fun F n => earR F n) (fun F n hc => earlierI_c F n hc.1 hc.2)
theorem K_39_f : K_39.f = 39 := rfl
theorem K_39_e (F0 : Int) (F1 : List Block) (n : Int) : K_39.e [.agg [.d (.int .i64 F0), .d (dBlockS F1)], .d (.int .i64 n)] = some (Enc.good (Func.mk F0 F1) ∧ Enc.good n, earR (Func.mk F0 F1) n, []) := by unfold K_39; exact Ent.p2_eq (α := Func) (β := Int) (Func.mk F0 F1) n
noncomputable def K_39h : EntH Try.prog := EntH.pk2 (α := Func) (β := Int) 39 (fun F n => Enc.good F ∧ Enc.good n) (fun F n => earR F n) (fun F n => []) (fun F n hc => PureP.ans (earlierI_c F n hc.1 hc.2))
theorem K_39h_f : K_39h.f = 39 := rfl
theorem K_39h_g : K_39h.gro = true := rfl
theorem K_39h_e {x1 x2 : V} {H : Heap} : K_39h.e [x1, x2] H = guardR ((decA (α := Func) H x1).1 ∧ (decA (α := Int) H x2).1) (peekR (Enc.good (decA (α := Func) H x1).2 ∧ Enc.good (decA (α := Int) H x2).2) (earR (decA (α := Func) H x1).2 (decA (α := Int) H x2).2) ([]) H) := rfl
end Go.Proofs.Ytpakdkiceoknjaa
