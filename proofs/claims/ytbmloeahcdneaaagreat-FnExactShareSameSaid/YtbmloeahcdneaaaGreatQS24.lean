/- Contracts of both programs' look at what a load loads and at what a store is overwritten by, and the laws SourceOf and OverwrittenBy. No condition. -/
import Derived.Test.YtbmloeahcdneaaaGreatQS23
namespace Go.Proofs.YtbmloeahcdneaaaGreat
set_option maxRecDepth 100000
set_option linter.unusedSimpArgs false
set_option linter.unusedVariables false
def isOpS (F : Func) (n op : Int) : Bool := decide (0 ≤ (instS F n F.blocks_ 0).1) && decide ((insAt F n).op_ = op)
def opBl (F : Func) (n op : Int) : Int := if isOpS F n op = true then (instS F n F.blocks_ 0).1 else 0
def opPl (F : Func) (n op : Int) : Int := if isOpS F n op = true then (instS F n F.blocks_ 0).2 else 0
theorem l17Op_c (F : Func) (n op : Int) (hF : Enc.good F) (hv : isVal F n = true) : PureP Tryz.prog 161 [vFunc F, .d (.int .i64 n), .d (.int .i64 op)] (· = .tup [.d (.int .i64 (opBl F n op)), .d (.int .i64 (opPl F n op)), .d (.bool (isOpS F n op))]) := by
  have hok := instS_ok hv
  by_cases hb : (instS F n F.blocks_ 0).1 < 0
  · have hp : isOpS F n op = false := by simp [isOpS]; omega
    refine pure_of Tryz.func161 en_161 rfl rfl (W_run mixed ⟨[K_111], [K_111h], [], 35, 0, [0, 1, 2, 3, 6, 7, 8, 9, 10, 32], [19, 32]⟩ (fun _ => []) (by kernel_rfl) ?_)
    simp only [Tryz.f161, stripX, stripOps, pickOps]
    simp [K_111_f, K_111_e, K_111h_f, K_111h_e, K_111h_g, hF, hb, opBl, opPl, hp]
  · have q : 0 ≤ (instS F n F.blocks_ 0).1 := by omega
    have hq := hok q
    refine pure_of Tryz.func161 en_161 rfl rfl (W_run mixed ⟨[K_111], [K_111h], [], 35, 0, [0, 1, 2, 3, 6, 7, 8, 9, 10, 32], [19, 32]⟩ (fun _ => []) (by kernel_rfl) ?_)
    simp only [Tryz.f161, stripX, stripOps, pickOps]
    simp [K_111_f, K_111_e, K_111h_f, K_111h_e, K_111h_g, hF, hb]
    refine ⟨⟨q, hq.1⟩, hq.2, fun e => ?_, fun e => ?_⟩
    · have hp : isOpS F n op = false := by simp [isOpS, q]; exact e
      simp [opBl, opPl, hp]
    · have hp : isOpS F n op = true := by simp [isOpS, q]; exact e
      simp [opBl, opPl, hp]
noncomputable def K_161 : Ent Tryz.prog := Ent.p3 (α := Func) (β := Int) (γ := Int) 161 (fun F n op => Enc.good F ∧ isVal F n = true) (fun F n op => .tup [.d (.int .i64 (opBl F n op)), .d (.int .i64 (opPl F n op)), .d (.bool (isOpS F n op))]) (fun F n op hc => l17Op_c F n op hc.1 hc.2)
theorem K_161_f : K_161.f = 161 := rfl
theorem K_161_e (F0 : Int) (F1 : List Block) (n : Int) (op : Int) : K_161.e [.agg [.d (.int .i64 F0), .d (dBlockS F1)], .d (.int .i64 n), .d (.int .i64 op)] = some (Enc.good (Func.mk F0 F1) ∧ isVal (Func.mk F0 F1) n = true, .tup [.d (.int .i64 (opBl (Func.mk F0 F1) n op)), .d (.int .i64 (opPl (Func.mk F0 F1) n op)), .d (.bool (isOpS (Func.mk F0 F1) n op))], []) := by unfold K_161; exact Ent.p3_eq (α := Func) (β := Int) (γ := Int) (Func.mk F0 F1) n op
noncomputable def K_161h : EntH Tryz.prog := EntH.pk3 (α := Func) (β := Int) (γ := Int) 161 (fun F n op => Enc.good F ∧ isVal F n = true) (fun F n op => .tup [.d (.int .i64 (opBl F n op)), .d (.int .i64 (opPl F n op)), .d (.bool (isOpS F n op))]) (fun F n op => []) (fun F n op hc => PureP.ans (l17Op_c F n op hc.1 hc.2))
theorem K_161h_f : K_161h.f = 161 := rfl
theorem K_161h_g : K_161h.gro = true := rfl
theorem K_161h_e {x1 x2 x3 : V} {H : Heap} : K_161h.e [x1, x2, x3] H = guardR ((decA (α := Func) H x1).1 ∧ (decA (α := Int) H x2).1 ∧ (decA (α := Int) H x3).1) (peekR (Enc.good (decA (α := Func) H x1).2 ∧ isVal (decA (α := Func) H x1).2 (decA (α := Int) H x2).2 = true) (.tup [.d (.int .i64 (opBl (decA (α := Func) H x1).2 (decA (α := Int) H x2).2 (decA (α := Int) H x3).2)), .d (.int .i64 (opPl (decA (α := Func) H x1).2 (decA (α := Int) H x2).2 (decA (α := Int) H x3).2)), .d (.bool (isOpS (decA (α := Func) H x1).2 (decA (α := Int) H x2).2 (decA (α := Int) H x3).2))]) ([]) H) := rfl
def srcR (l : List Inst) (a0 : Int) (vf : Int → Int) : Nat → Int
  | 0 => -1
  | i + 1 => if (l[i]?.getD default).op_ = 12 ∨ (l[i]?.getD default).op_ = 13 then
      (if (l[i]?.getD default).args_[0]?.getD 0 = a0 then (if (l[i]?.getD default).op_ = 13 then (l[i]?.getD default).args_[1]?.getD 0 else vf i) else if (l[i]?.getD default).op_ = 13 then -1 else srcR l a0 vf i)
    else srcR l a0 vf i
def memOk (l : List Inst) : Prop := ∀ x ∈ l, (x.op_ = 12 → 1 ≤ x.args_.length) ∧ (x.op_ = 13 → 2 ≤ x.args_.length)
theorem memOk_get {l : List Inst} (h : memOk l) {i : Nat} (hi : i < l.length) : ((l[i]?.getD default).op_ = 12 → 1 ≤ (l[i]?.getD default).args_.length) ∧ ((l[i]?.getD default).op_ = 13 → 2 ≤ (l[i]?.getD default).args_.length) :=
  h _ (by rw [List.getElem?_eq_getElem hi]; exact List.getElem_mem hi)
theorem good_mem {F : Func} (h : goodF F = true) {b : Block} (hb : b ∈ F.blocks_) : memOk b.insts_ := by
  obtain ⟨hp, hl, hh, hm, hc, hs, hbo⟩ := goodF_spec h
  have h1 := List.all_eq_true.1 hbo b hb
  simp only [bodyOk, Bool.and_eq_true] at h1
  intro x hx
  have q := List.all_eq_true.1 h1.1 x hx
  simp only [instOk, Bool.and_eq_true, decide_eq_true_eq] at q
  have q2 := q.2.1
  refine ⟨fun e => ?_, fun e => ?_⟩
  · rw [e] at q2; simp [arity] at q2; omega
  · rw [e] at q2; simp [arity] at q2; omega
def vfS (F : Func) (n op i : Int) : Int := IntKind.i64.wrap (IntKind.i64.wrap (n - opPl F n op) + i)
def insL (F : Func) (n op : Int) : List Inst := (F.blocks_[(opBl F n op).toNat]?.getD default).insts_
def arg0 (F : Func) (n op : Int) : Int := ((insL F n op)[(opPl F n op).toNat]?.getD default).args_[0]?.getD 0
def srcS (F : Func) (n : Int) : Int := if isOpS F n 12 = true then srcR (insL F n 12) (arg0 F n 12) (vfS F n 12) (opPl F n 12).toNat else -1
theorem op_ok {F : Func} {n op : Int} (hv : isVal F n = true) (h : isOpS F n op = true) : (0 ≤ opBl F n op ∧ opBl F n op < F.blocks_.length) ∧ (0 ≤ opPl F n op ∧ opPl F n op < (insL F n op).length) ∧ memOk (insL F n op) ∧ ((insL F n op)[(opPl F n op).toNat]?.getD default).op_ = op ∧ (insL F n op).length ≤ 80 := by
  have h' := h
  simp only [isOpS, Bool.and_eq_true, decide_eq_true_eq] at h
  obtain ⟨q1, q2, q3⟩ := instS_ok hv h.1
  have hb : F.blocks_[(instS F n F.blocks_ 0).1.toNat]?.getD default ∈ F.blocks_ := by rw [List.getElem?_eq_getElem (by omega)]; exact List.getElem_mem _
  have e1 : opBl F n op = (instS F n F.blocks_ 0).1 := by simp [opBl, h']
  have e2 : opPl F n op = (instS F n F.blocks_ 0).2 := by simp [opPl, h']
  have hg := (isVal_t hv).1
  have g := (good_vals hg hb).1
  unfold insL
  rw [e1, e2]
  exact ⟨⟨h.1, q1⟩, ⟨q2, q3⟩, good_mem hg hb, h.2, g⟩
theorem l17Source_c (F : Func) (n : Int) (hF : Enc.good F) (hv : isVal F n = true) : PureP Tryz.prog 121 [vFunc F, .d (.int .i64 n)] (· = .d (.int .i64 (srcS F n))) := by
  cases ho : isOpS F n 12 with
  | false =>
    refine pure_of Tryz.func121 en_121 rfl rfl (W_run mixed ⟨[K_161], [K_161h], [], 71, 0, [0, 1, 2, 4, 5, 6, 7, 8, 9, 10, 19, 29, 43, 55, 58, 70], [19, 29, 39, 43, 55, 58, 70]⟩ (fun | 10 => [0, 4, 5, 6, 7, 1, 2, 3, 8, 9, 10, 11] | _ => []) (by kernel_rfl) ?_)
    simp only [Tryz.f121, stripX, stripOps, pickOps]
    simp [K_161_f, K_161_e, K_161h_f, K_161h_e, K_161h_g, hF, hv, ho]
    simp [srcS, ho]
  | true =>
    obtain ⟨p1, p2, p3, p4, p5⟩ := op_ok hv ho
    have hT0 : srcS F n = srcR (insL F n 12) (arg0 F n 12) (vfS F n 12) (opPl F n 12).toNat := by simp [srcS, ho]
    have hvf : ∀ i : Int, vfS F n 12 i = IntKind.i64.wrap (IntKind.i64.wrap (n - opPl F n 12) + i) := fun i => rfl
    have h0 : arg0 F n 12 = ((insL F n 12)[(opPl F n 12).toNat]?.getD default).args_[0]?.getD 0 := rfl
    have hI : (F.blocks_[(opBl F n 12).toNat]?.getD default).insts_ = insL F n 12 := rfl
    refine pure_of Tryz.func121 en_121 rfl rfl (W_run mixed ⟨[K_161], [K_161h], [], 71, 0, [0, 1, 2, 4, 5, 6, 7, 8, 9, 10, 19, 29, 43, 55, 58, 70], [19, 29, 39, 43, 55, 58, 70]⟩ (fun | 10 => [0, 4, 5, 6, 7, 1, 2, 3, 8, 9, 10, 11] | _ => []) (by kernel_rfl) ?_)
    simp only [Tryz.f121, stripX, stripOps, pickOps]
    simp [K_161_f, K_161_e, K_161h_f, K_161h_e, K_161h_g, hF, hv, ho, hI]
    refine ⟨p1, ?_⟩
    have w1 : IntKind.i64.wrap (opPl F n 12 - 1) = opPl F n 12 - 1 := wrap_sub (by omega) (by omega)
    have m0 := (memOk_get p3 (i := (opPl F n 12).toNat) (by omega)).1 p4
    generalize hA : opPl F n 12 = A at *
    generalize insL F n 12 = L at *
    rw [w1]
    refine W_loopA (fun i : Nat => [(1, .d (.int .i64 n)), (2, .ptr 0 2 0 0), (6, .d (.int .i64 A)), (8, .d (dInstS L)), (9, .d (.int .i64 ((i : Int) - 1)))]) (fun _ => [.row 2 [[.d (.int .i64 F.params_), .d (dBlockS F.blocks_)]]])
      (fun i => i ≤ L.length ∧ srcR L (arg0 F n 12) (vfS F n 12) i = srcS F n) (fun i => i) A.toNat ?_ ?_ ?_
    · simp; omega
    · exact ⟨by omega, hT0.symm⟩
    rintro i ⟨hi, hT⟩
    refine W_run mixed ⟨[K_161], [K_161h], [], 71, 0, [0, 1, 2, 4, 5, 6, 7, 8, 9, 10, 19, 29, 43, 55, 58, 70], [19, 29, 39, 43, 55, 58, 70]⟩ (fun | 10 => [0, 4, 5, 6, 7, 1, 2, 3, 8, 9, 10, 11] | _ => []) (by kernel_rfl) ?_
    simp only [stripX, stripOps, pickOps]
    simp [K_161_f, K_161_e, K_161h_f, K_161h_e, K_161h_g, hF]
    refine ⟨fun h => ?_, fun h => ?_⟩
    · obtain ⟨j, rfl⟩ : ∃ j, i = j + 1 := ⟨i - 1, by omega⟩
      have mo := memOk_get p3 (i := j) (by omega)
      have ej : ((j + 1 : Nat) : Int) - 1 = (j : Int) := by omega
      have nx : srcR L (arg0 F n 12) (vfS F n 12) j = srcS F n → ∃ b : Nat, (b ≤ L.length ∧ srcR L (arg0 F n 12) (vfS F n 12) b = srcS F n) ∧ b < j + 1 ∧ IntKind.i64.wrap ((j : Int) - 1) = (b : Int) - 1 := fun q => ⟨j, ⟨by omega, q⟩, by omega, wrap_sub (by omega) (by omega)⟩
      simp only [srcR, hvf, h0] at hT
      simp only [Nat.add_sub_cancel, ej]
      have A1 : A < L.length := p2.2
      have A0 : 0 ≤ A := p2.1
      have jl : (j : Int) < L.length := by omega
      generalize L[j]?.getD default = x at hT mo ⊢
      generalize (L[A.toNat]?.getD default).args_ = ya at hT m0 h0 ⊢
      generalize x.args_ = xa at hT mo ⊢
      refine ⟨⟨by omega, jl⟩, ?_⟩
      by_cases c1 : x.op_ = 12
      · have c3 : ¬ x.op_ = 13 := by omega
        have := mo.1 c1
        refine ⟨fun q => absurd c1 q, fun _ => ⟨⟨A0, A1⟩, by omega, by omega, fun q => ⟨fun q2 => absurd q2 c3, fun _ => ?_⟩, fun q => ⟨fun q2 => absurd q2 c3, fun _ => nx ?_⟩⟩⟩
        · rw [if_pos (.inl c1), if_pos q, if_neg c3] at hT; exact hT
        · rw [if_pos (.inl c1), if_neg q, if_neg c3] at hT; rw [h0]; exact hT
      · refine ⟨fun _ => ⟨fun c2 => nx ?_, fun c2 => ?_⟩, fun q => absurd q c1⟩
        · rw [if_neg (fun q => q.elim c1 c2)] at hT; rw [h0]; exact hT
        · have := mo.2 c2
          refine ⟨⟨A0, A1⟩, by omega, by omega, fun q => ⟨fun _ => ⟨by omega, ?_⟩, fun q2 => absurd c2 q2⟩, fun q => ⟨fun _ => ?_, fun q2 => absurd c2 q2⟩⟩
          · rw [if_pos (.inr c2), if_pos q, if_pos c2] at hT; exact hT
          · rw [if_pos (.inr c2), if_neg q, if_pos c2] at hT; exact hT
    · have : i = 0 := by omega
      subst this
      exact hT
noncomputable def K_121 : Ent Tryz.prog := Ent.p2 (α := Func) (β := Int) 121 (fun F n => Enc.good F ∧ isVal F n = true) (fun F n => .d (.int .i64 (srcS F n))) (fun F n hc => l17Source_c F n hc.1 hc.2)
theorem K_121_f : K_121.f = 121 := rfl
theorem K_121_e (F0 : Int) (F1 : List Block) (n : Int) : K_121.e [.agg [.d (.int .i64 F0), .d (dBlockS F1)], .d (.int .i64 n)] = some (Enc.good (Func.mk F0 F1) ∧ isVal (Func.mk F0 F1) n = true, .d (.int .i64 (srcS (Func.mk F0 F1) n)), []) := by unfold K_121; exact Ent.p2_eq (α := Func) (β := Int) (Func.mk F0 F1) n
noncomputable def K_121h : EntH Tryz.prog := EntH.pk2 (α := Func) (β := Int) 121 (fun F n => Enc.good F ∧ isVal F n = true) (fun F n => .d (.int .i64 (srcS F n))) (fun F n => []) (fun F n hc => PureP.ans (l17Source_c F n hc.1 hc.2))
theorem K_121h_f : K_121h.f = 121 := rfl
theorem K_121h_g : K_121h.gro = true := rfl
theorem K_121h_e {x1 x2 : V} {H : Heap} : K_121h.e [x1, x2] H = guardR ((decA (α := Func) H x1).1 ∧ (decA (α := Int) H x2).1) (peekR (Enc.good (decA (α := Func) H x1).2 ∧ isVal (decA (α := Func) H x1).2 (decA (α := Int) H x2).2 = true) (.d (.int .i64 (srcS (decA (α := Func) H x1).2 (decA (α := Int) H x2).2))) ([]) H) := rfl
structure OkM (v : View) (n : Int) : Prop where
  ok : okV v n
  b : 0 ≤ bk v n → 0 ≤ atV v n → bk v n < v.first_.length ∧ bk v n < v.blocks_.length ∧ atV v n < (blkAt v n).insts_.length ∧ (blkAt v n).insts_.length ≤ 80 ∧ memOk (blkAt v n).insts_
def isOpV (v : View) (n op : Int) : Bool := decide (0 ≤ bk v n) && (decide (0 ≤ atV v n) && decide ((instI v n).op_ = op))
def vfV (v : View) (n i : Int) : Int := IntKind.i64.wrap (fsV v (bk v n) + i)
def srcV (v : View) (n : Int) : Int := if isOpV v n 12 = true then srcR (blkAt v n).insts_ ((instI v n).args_[0]?.getD 0) (vfV v n) (atV v n).toNat else -1
theorem isOpV_t {v : View} {n op : Int} (h : isOpV v n op = true) : 0 ≤ bk v n ∧ 0 ≤ atV v n ∧ (instI v n).op_ = op := by
  simp only [isOpV, Bool.and_eq_true, decide_eq_true_eq] at h; exact h
theorem instV_of {v : View} {n : Int} (h0 : 0 ≤ bk v n) (h1 : 0 ≤ atV v n) : instV v n = .tup [.d (.rp 3 (dInst (instI v n))), .d (.int .i64 (bk v n)), .d (.int .i64 (atV v n))] := by
  unfold instV; rw [if_neg (by omega), if_neg (by omega)]
theorem source_c (w : Ways) (n : Int) (h : OkM w.view_.v n) : PureP Tryz.prog 122 [.d (.rp 3 (dWays w)), .d (.int .i64 n)] (· = .d (.int .i64 (srcV w.view_.v n))) := by
  have ho := h.ok
  by_cases b0 : bk w.view_.v n < 0
  · have e : isOpV w.view_.v n 12 = false := by simp [isOpV]; omega
    refine pure_of Tryz.func122 en_122 rfl rfl (W_run mixed ⟨[K_153, K_145], [K_153h, K_145h], [], 103, 0, [0, 1, 4, 5, 6, 7, 8, 9, 28, 32, 50, 59, 83, 99], [22, 28, 32, 50, 54, 59, 71, 83, 99]⟩ (fun | 9 => [0, 4, 5, 6, 1, 2, 3, 7, 8, 9, 10, 11, 12, 13, 14, 15, 16] | 11 => [0, 4, 5, 6, 1, 2, 3, 7, 8, 9, 10, 11] | _ => []) (by kernel_rfl) ?_)
    simp only [Tryz.f122, stripX, stripOps, pickOps]
    simp [K_153_f, K_153_e, K_145_f, K_145_e, K_153h_f, K_153h_e, K_145h_f, K_145h_e, K_153h_g, K_145h_g, ho, instV, b0]
    simp [srcV, e]
  by_cases a0 : atV w.view_.v n < 0
  · have e : isOpV w.view_.v n 12 = false := by simp [isOpV]; omega
    refine pure_of Tryz.func122 en_122 rfl rfl (W_run mixed ⟨[K_153, K_145], [K_153h, K_145h], [], 103, 0, [0, 1, 4, 5, 6, 7, 8, 9, 28, 32, 50, 59, 83, 99], [22, 28, 32, 50, 54, 59, 71, 83, 99]⟩ (fun | 9 => [0, 4, 5, 6, 1, 2, 3, 7, 8, 9, 10, 11, 12, 13, 14, 15, 16] | 11 => [0, 4, 5, 6, 1, 2, 3, 7, 8, 9, 10, 11] | _ => []) (by kernel_rfl) ?_)
    simp only [Tryz.f122, stripX, stripOps, pickOps]
    simp [K_153_f, K_153_e, K_145_f, K_145_e, K_153h_f, K_153h_e, K_145h_f, K_145h_e, K_153h_g, K_145h_g, ho, instV, b0, a0]
    simp [srcV, e]
  have ei := instV_of (v := w.view_.v) (n := n) (by omega) (by omega)
  by_cases o12 : (instI w.view_.v n).op_ = 12
  · obtain ⟨q1, q2, q3, q4, q5⟩ := h.b (by omega) (by omega)
    have e : isOpV w.view_.v n 12 = true := by simp [isOpV, o12]; omega
    have hT0 : srcV w.view_.v n = srcR (blkAt w.view_.v n).insts_ ((instI w.view_.v n).args_[0]?.getD 0) (vfV w.view_.v n) (atV w.view_.v n).toNat := by simp [srcV, e]
    have hvf : ∀ i : Int, vfV w.view_.v n i = IntKind.i64.wrap (fsV w.view_.v (bk w.view_.v n) + i) := fun i => rfl
    have hI : w.view_.v.blocks_[(bk w.view_.v n).toNat]?.getD default = blkAt w.view_.v n := rfl
    have m0 := (memOk_get q5 (i := (atV w.view_.v n).toNat) (by omega)).1 o12
    have w1 : IntKind.i64.wrap (atV w.view_.v n - 1) = atV w.view_.v n - 1 := wrap_sub (by omega) (by omega)
    refine pure_of Tryz.func122 en_122 rfl rfl (W_run mixed ⟨[K_153, K_145], [K_153h, K_145h], [], 103, 0, [0, 1, 4, 5, 6, 7, 8, 9, 28, 32, 50, 59, 83, 99], [22, 28, 32, 50, 54, 59, 71, 83, 99]⟩ (fun | 9 => [0, 4, 5, 6, 1, 2, 3, 7, 8, 9, 10, 11, 12, 13, 14, 15, 16] | 11 => [0, 4, 5, 6, 1, 2, 3, 7, 8, 9, 10, 11] | _ => []) (by kernel_rfl) ?_)
    simp only [Tryz.f122, stripX, stripOps, pickOps]
    simp [K_153_f, K_153_e, K_145_f, K_145_e, K_153h_f, K_153h_e, K_145h_f, K_145h_e, K_153h_g, K_145h_g, ho, ei, o12]
    rw [w1]
    have m1 : 1 ≤ (instI w.view_.v n).args_.length := m0
    refine W_loopA (fun i : Nat => [(0, .d (.rp 3 (dWays w))), (5, .d (.rp 3 (dInst (instI w.view_.v n)))), (6, .d (.int .i64 (bk w.view_.v n))), (8, .d (.int .i64 ((i : Int) - 1)))]) (fun _ => [])
      (fun i => i ≤ (blkAt w.view_.v n).insts_.length ∧ srcR (blkAt w.view_.v n).insts_ ((instI w.view_.v n).args_[0]?.getD 0) (vfV w.view_.v n) i = srcV w.view_.v n) (fun i => i) (atV w.view_.v n).toNat ?_ ?_ ?_
    · simp; omega
    · exact ⟨by omega, hT0.symm⟩
    rintro i ⟨hi, hT⟩
    refine W_run mixed ⟨[K_153, K_145], [K_153h, K_145h], [], 103, 0, [0, 1, 4, 5, 6, 7, 8, 9, 28, 32, 50, 59, 83, 99], [22, 28, 32, 50, 54, 59, 71, 83, 99]⟩ (fun | 9 => [0, 4, 5, 6, 1, 2, 3, 7, 8, 9, 10, 11, 12, 13, 14, 15, 16] | 11 => [0, 4, 5, 6, 1, 2, 3, 7, 8, 9, 10, 11] | _ => []) (by kernel_rfl) ?_
    simp only [stripX, stripOps, pickOps]
    simp [K_153_f, K_153_e, K_145_f, K_145_e, K_153h_f, K_153h_e, K_145h_f, K_145h_e, K_153h_g, K_145h_g, hI]
    refine ⟨fun h => ?_, fun h => ?_⟩
    · obtain ⟨j, rfl⟩ : ∃ j, i = j + 1 := ⟨i - 1, by omega⟩
      have mo := memOk_get q5 (i := j) (by omega)
      have ej : ((j + 1 : Nat) : Int) - 1 = (j : Int) := by omega
      have nx : srcR (blkAt w.view_.v n).insts_ ((instI w.view_.v n).args_[0]?.getD 0) (vfV w.view_.v n) j = srcV w.view_.v n → ∃ b : Nat, (b ≤ (blkAt w.view_.v n).insts_.length ∧ srcR (blkAt w.view_.v n).insts_ ((instI w.view_.v n).args_[0]?.getD 0) (vfV w.view_.v n) b = srcV w.view_.v n) ∧ b < j + 1 ∧ IntKind.i64.wrap ((j : Int) - 1) = (b : Int) - 1 := fun q => ⟨j, ⟨by omega, q⟩, by omega, wrap_sub (by omega) (by omega)⟩
      simp only [srcR, hvf] at hT
      simp only [Nat.add_sub_cancel, ej]
      have B0 : 0 ≤ bk w.view_.v n := by omega
      have jl : (j : Int) < (blkAt w.view_.v n).insts_.length := by omega
      generalize (blkAt w.view_.v n).insts_[j]?.getD default = x at hT mo ⊢
      generalize srcR (blkAt w.view_.v n).insts_ ((instI w.view_.v n).args_[0]?.getD 0) (vfV w.view_.v n) j = sj at hT nx
      refine ⟨⟨B0, q2⟩, ⟨by omega, jl⟩, ?_⟩
      clear h hi hT0 hvf hI m0 w1 q5 ei e ho jl q3 q4 b0 a0 o12 ej
      repeat' first | apply And.intro | intro _
      all_goals first
        | omega
        | (have := mo.2 ‹_›; omega)
        | (have := mo.1 ‹_›; omega)
        | (refine nx ?_; simp_all; done)
        | (simp_all; done)
    · have : i = 0 := by omega
      subst this
      exact hT
  · have e : isOpV w.view_.v n 12 = false := by simp [isOpV, o12]
    refine pure_of Tryz.func122 en_122 rfl rfl (W_run mixed ⟨[K_153, K_145], [K_153h, K_145h], [], 103, 0, [0, 1, 4, 5, 6, 7, 8, 9, 28, 32, 50, 59, 83, 99], [22, 28, 32, 50, 54, 59, 71, 83, 99]⟩ (fun | 9 => [0, 4, 5, 6, 1, 2, 3, 7, 8, 9, 10, 11, 12, 13, 14, 15, 16] | 11 => [0, 4, 5, 6, 1, 2, 3, 7, 8, 9, 10, 11] | _ => []) (by kernel_rfl) ?_)
    simp only [Tryz.f122, stripX, stripOps, pickOps]
    simp [K_153_f, K_153_e, K_145_f, K_145_e, K_153h_f, K_153h_e, K_145h_f, K_145h_e, K_153h_g, K_145h_g, ho, ei, o12]
    simp [srcV, e]
noncomputable def K_122 : Ent Tryz.prog := Ent.p2 (α := Ptr Ways) (β := Int) 122 (fun w n => OkM w.v.view_.v n) (fun w n => .d (.int .i64 (srcV w.v.view_.v n))) (fun w n hc => source_c w.v n hc)
theorem K_122_f : K_122.f = 122 := rfl
theorem K_122_e (w : Ways) (n : Int) : K_122.e [.d (.rp 3 (dWays w)), .d (.int .i64 n)] = some (OkM w.view_.v n, .d (.int .i64 (srcV w.view_.v n)), []) := by unfold K_122; exact Ent.p2_eq (α := Ptr Ways) (β := Int) (Ptr.mk w) n
noncomputable def K_122h : EntH Tryz.prog := EntH.pk2 (α := Ptr Ways) (β := Int) 122 (fun w n => OkM w.v.view_.v n) (fun w n => .d (.int .i64 (srcV w.v.view_.v n))) (fun w n => []) (fun w n hc => PureP.ans (source_c w.v n hc))
theorem K_122h_f : K_122h.f = 122 := rfl
theorem K_122h_g : K_122h.gro = true := rfl
theorem K_122h_e {x1 x2 : V} {H : Heap} : K_122h.e [x1, x2] H = guardR ((decA (α := Ptr Ways) H x1).1 ∧ (decA (α := Int) H x2).1) (peekR (OkM (decA (α := Ptr Ways) H x1).2.v.view_.v (decA (α := Int) H x2).2) (.d (.int .i64 (srcV (decA (α := Ptr Ways) H x1).2.v.view_.v (decA (α := Int) H x2).2))) ([]) H) := rfl
end Go.Proofs.YtbmloeahcdneaaaGreat
