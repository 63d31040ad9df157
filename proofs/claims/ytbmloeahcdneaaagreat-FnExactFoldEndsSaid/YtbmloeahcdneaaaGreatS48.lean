/- Values that are known to be numbers, of both programs. No condition. -/
import Derived.Test.YtbmloeahcdneaaaGreatS47
import Derived.Test.YtbmloeahcdneaaaGreatS23
namespace Go.Proofs.YtbmloeahcdneaaaGreat
set_option maxRecDepth 100000
set_option linter.unusedSimpArgs false
set_option linter.unusedVariables false
/-- Is a view's value a number? Which one? -/
def knB (v : View) (n : Int) : Bool := decide (0 ≤ bk v n) && (decide (0 ≤ atV v n) && decide ((instI v n).op_ = 1))
def knN (v : View) (n : Int) : Int := if knB v n = true then (instI v n).n_ else 0
theorem known_c (v : View) (n : Int) (h : okV v n) : PureP Tryz.prog 100 [.d (.rp 5 (dView v)), .d (.int .i64 n)] (· = .tup [.d (.int .i64 (knN v n)), .d (.bool (knB v n))]) := by
  by_cases b0 : bk v n < 0
  · have h1 : knB v n = false := by simp only [knB]; rw [decide_eq_false (by omega)]; rfl
    refine pure_of Tryz.func100 en_100 rfl rfl (W_run mixed ⟨[K_153], [K_153h], [], 29, 0, [0, 1, 4, 5, 6, 24], [18, 24]⟩ (fun _ => []) (by kernel_rfl) ?_)
    simp only [Tryz.f100, stripX, stripOps, pickOps]
    simp [K_153_f, K_153_e, K_153h_f, K_153h_e, K_153h_g, h, instV, b0]
    simp [h1, knN]
  by_cases a0 : atV v n < 0
  · have h1 : knB v n = false := by simp only [knB]; rw [decide_eq_false (p := 0 ≤ atV v n) (by omega)]; simp
    refine pure_of Tryz.func100 en_100 rfl rfl (W_run mixed ⟨[K_153], [K_153h], [], 29, 0, [0, 1, 4, 5, 6, 24], [18, 24]⟩ (fun _ => []) (by kernel_rfl) ?_)
    simp only [Tryz.f100, stripX, stripOps, pickOps]
    simp [K_153_f, K_153_e, K_153h_f, K_153h_e, K_153h_g, h, instV, b0, a0]
    simp [h1, knN]
  · have ei : instV v n = .tup [.d (.rp 3 (dInst (instI v n))), .d (.int .i64 (bk v n)), .d (.int .i64 (atV v n))] := by unfold instV; rw [if_neg b0, if_neg a0]
    have h1 : knB v n = decide ((instI v n).op_ = 1) := by simp only [knB]; rw [decide_eq_true (show 0 ≤ bk v n by omega), decide_eq_true (show 0 ≤ atV v n by omega)]; rfl
    refine pure_of Tryz.func100 en_100 rfl rfl (W_run mixed ⟨[K_153], [K_153h], [], 29, 0, [0, 1, 4, 5, 6, 24], [18, 24]⟩ (fun _ => []) (by kernel_rfl) ?_)
    simp only [Tryz.f100, stripX, stripOps, pickOps]
    simp [K_153_f, K_153_e, K_153h_f, K_153h_e, K_153h_g, h, ei]
    refine ⟨fun q => ?_, fun q => ?_⟩ <;> simp [h1, knN, q]
noncomputable def K_100 : Ent Tryz.prog := Ent.p2 (α := Ptr View) (β := Int) 100 (fun v n => okV v.v n) (fun v n => .tup [.d (.int .i64 (knN v.v n)), .d (.bool (knB v.v n))]) (fun v n hc => known_c v.v n hc)
theorem K_100_f : K_100.f = 100 := rfl
theorem K_100_e (v : View) (n : Int) : K_100.e [.d (.rp 5 (dView v)), .d (.int .i64 n)] = some (okV v n, .tup [.d (.int .i64 (knN v n)), .d (.bool (knB v n))], []) := by unfold K_100; exact Ent.p2_eq (α := Ptr View) (β := Int) (Ptr.mk v) n
noncomputable def K_100h : EntH Tryz.prog := EntH.pk2 (α := Ptr View) (β := Int) 100 (fun v n => okV v.v n) (fun v n => .tup [.d (.int .i64 (knN v.v n)), .d (.bool (knB v.v n))]) (fun v n => []) (fun v n hc => PureP.ans (known_c v.v n hc))
theorem K_100h_f : K_100h.f = 100 := rfl
theorem K_100h_g : K_100h.gro = true := rfl
theorem K_100h_e {x1 x2 : V} {H : Heap} : K_100h.e [x1, x2] H = guardR ((decA (α := Ptr View) H x1).1 ∧ (decA (α := Int) H x2).1) (peekR (okV (decA (α := Ptr View) H x1).2.v (decA (α := Int) H x2).2) (.tup [.d (.int .i64 (knN (decA (α := Ptr View) H x1).2.v (decA (α := Int) H x2).2)), .d (.bool (knB (decA (α := Ptr View) H x1).2.v (decA (α := Int) H x2).2))]) ([]) H) := rfl
/-- The same of the reference. -/
def okI (F : Func) (n : Int) : Prop := 0 ≤ (instS F n F.blocks_ 0).1 → (instS F n F.blocks_ 0).1 < F.blocks_.length ∧ 0 ≤ (instS F n F.blocks_ 0).2 ∧ (instS F n F.blocks_ 0).2 < (F.blocks_[(instS F n F.blocks_ 0).1.toNat]?.getD default).insts_.length
def nuB (F : Func) (n : Int) : Bool := decide (0 ≤ (instS F n F.blocks_ 0).1) && decide ((insAt F n).op_ = 1)
def nuN (F : Func) (n : Int) : Int := if nuB F n = true then (insAt F n).n_ else 0
theorem l15Num_c (F : Func) (n : Int) (hF : Enc.good F) (h : okI F n) : PureP Tryz.prog 99 [vFunc F, .d (.int .i64 n)] (· = .tup [.d (.int .i64 (nuN F n)), .d (.bool (nuB F n))]) := by
  by_cases b0 : (instS F n F.blocks_ 0).1 < 0
  · have h1 : nuB F n = false := by simp only [nuB]; rw [decide_eq_false (by omega)]; rfl
    refine pure_of Tryz.func99 en_99 rfl rfl (W_run mixed ⟨[K_111], [K_111h], [], 39, 0, [0, 1, 2, 4, 5, 6, 7, 28], [16, 28]⟩ (fun _ => []) (by kernel_rfl) ?_)
    simp only [Tryz.f99, stripX, stripOps, pickOps]
    simp [K_111_f, K_111_e, K_111h_f, K_111h_e, K_111h_g, hF, b0]
    simp [h1, nuN]
  · have q := h (by omega)
    have h1 : nuB F n = decide ((insAt F n).op_ = 1) := by simp only [nuB]; rw [decide_eq_true (show 0 ≤ (instS F n F.blocks_ 0).1 by omega)]; rfl
    have e1 : ((F.blocks_[(instS F n F.blocks_ 0).1.toNat]?.getD default).insts_[(instS F n F.blocks_ 0).2.toNat]?.getD default) = insAt F n := rfl
    refine pure_of Tryz.func99 en_99 rfl rfl (W_run mixed ⟨[K_111], [K_111h], [], 39, 0, [0, 1, 2, 4, 5, 6, 7, 28], [16, 28]⟩ (fun _ => []) (by kernel_rfl) ?_)
    simp only [Tryz.f99, stripX, stripOps, pickOps]
    simp [K_111_f, K_111_e, K_111h_f, K_111h_e, K_111h_g, hF, b0, e1]
    have i0 : 0 ≤ (instS F n F.blocks_ 0).1 := by omega
    exact ⟨⟨i0, q.1⟩, q.2, fun z => by simp [h1, nuN, z], fun z => ⟨⟨i0, q.1⟩, q.2, by simp [nuN, h1, z], by simp [h1, z]⟩⟩
/-- Both tell the same. -/
theorem kn_nu {F : Func} {n : Int} (h : goodF F = true) (h0 : 0 ≤ n) (h1 : n < many F) : okV (viewD F) n ∧ okI F n ∧ knB (viewD F) n = nuB F n ∧ knN (viewD F) n = nuN F n := by
  obtain ⟨hok, hvs⟩ := view_spec h h0 h1
  have hv := isVal_of h h0 h1
  refine ⟨hok, fun q => ?_, ?_⟩
  · have := instS_ok hv q
    exact ⟨this.1, this.2.1, this.2.2⟩
  by_cases hb : 0 ≤ bk (viewD F) n ∧ 0 ≤ atV (viewD F) n
  · obtain ⟨e1, e2⟩ := inst_same h h0 h1 hb.1 hb.2
    have hB : knB (viewD F) n = nuB F n := by
      simp only [knB, nuB, e1, e2]
      rw [decide_eq_true hb.1, decide_eq_true hb.2]; rfl
    exact ⟨hB, by simp only [knN, nuN, hB, e2]⟩
  · have hk : knB (viewD F) n = false := by
      simp only [knB]
      by_cases q : 0 ≤ bk (viewD F) n
      · rw [decide_eq_false (p := 0 ≤ atV (viewD F) n) (by omega)]; simp
      · rw [decide_eq_false q]; rfl
    have hn : nuB F n = false := by
      have : ¬ 0 ≤ (instS F n F.blocks_ 0).1 := by
        rcases hvs with ⟨_, _, e⟩ | ⟨_, _, _, _, _, e⟩
        · rw [e]; decide
        · rw [if_neg (by omega)] at e; rw [e]; decide
      simp only [nuB]; rw [decide_eq_false this]; rfl
    exact ⟨hk.trans hn.symm, by simp only [knN, nuN, hk, hn]; rfl⟩
noncomputable def K_99 : Ent Tryz.prog := Ent.p2 (α := Func) (β := Int) 99 (fun F n => Enc.good F ∧ okI F n) (fun F n => .tup [.d (.int .i64 (nuN F n)), .d (.bool (nuB F n))]) (fun F n hc => l15Num_c F n hc.1 hc.2)
theorem K_99_f : K_99.f = 99 := rfl
theorem K_99_e (F0 : Int) (F1 : List Block) (n : Int) : K_99.e [.agg [.d (.int .i64 F0), .d (dBlockS F1)], .d (.int .i64 n)] = some (Enc.good (Func.mk F0 F1) ∧ okI (Func.mk F0 F1) n, .tup [.d (.int .i64 (nuN (Func.mk F0 F1) n)), .d (.bool (nuB (Func.mk F0 F1) n))], []) := by unfold K_99; exact Ent.p2_eq (α := Func) (β := Int) (Func.mk F0 F1) n
noncomputable def K_99h : EntH Tryz.prog := EntH.pk2 (α := Func) (β := Int) 99 (fun F n => Enc.good F ∧ okI F n) (fun F n => .tup [.d (.int .i64 (nuN F n)), .d (.bool (nuB F n))]) (fun F n => []) (fun F n hc => PureP.ans (l15Num_c F n hc.1 hc.2))
theorem K_99h_f : K_99h.f = 99 := rfl
theorem K_99h_g : K_99h.gro = true := rfl
theorem K_99h_e {x1 x2 : V} {H : Heap} : K_99h.e [x1, x2] H = guardR ((decA (α := Func) H x1).1 ∧ (decA (α := Int) H x2).1) (peekR (Enc.good (decA (α := Func) H x1).2 ∧ okI (decA (α := Func) H x1).2 (decA (α := Int) H x2).2) (.tup [.d (.int .i64 (nuN (decA (α := Func) H x1).2 (decA (α := Int) H x2).2)), .d (.bool (nuB (decA (α := Func) H x1).2 (decA (α := Int) H x2).2))]) ([]) H) := rfl
end Go.Proofs.YtbmloeahcdneaaaGreat
