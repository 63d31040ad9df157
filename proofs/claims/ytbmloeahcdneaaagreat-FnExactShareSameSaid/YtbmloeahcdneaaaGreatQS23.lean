/- Contracts of both programs' look for instructions that do the same, and the laws SameInsts and EarlierOf. No condition. -/
import Derived.Test.YtbmloeahcdneaaaGreatQS31
namespace Go.Proofs.YtbmloeahcdneaaaGreat
set_option maxRecDepth 100000
set_option linter.unusedSimpArgs false
set_option linter.unusedVariables false
theorem take_eq_step {l m : List Int} {i : Nat} (hl : l.length = m.length) (hi : i < l.length) (h : l.take i = m.take i) (e : l[i]?.getD 0 = m[i]?.getD 0) : l.take (i + 1) = m.take (i + 1) := by
  have hm : i < m.length := by omega
  rw [List.getElem?_eq_getElem hi, List.getElem?_eq_getElem hm] at e
  rw [List.take_succ_eq_append_getElem hi, List.take_succ_eq_append_getElem hm, h]
  simp only [Option.getD_some] at e
  rw [e]
theorem equalInts_c (l m : List Int) (hl : l.length ≤ 1000) : PureP Tryz.prog 187 [.d (dIntS l), .d (dIntS m)] (· = .d (.bool (decide (l = m)))) := by
  refine pure_of Tryz.func187 en_187 rfl rfl (W_run mixed ⟨[], [], [], 26, 0, [0, 1, 4, 5, 10, 12, 13, 14, 24], [10, 14, 24]⟩ (fun | 6 => [0, 1, 2, 4, 5, 6, 3, 7, 8] | _ => []) (by kernel_rfl) ?_)
  simp only [Tryz.f187, stripX, stripOps, pickOps]
  simp []
  refine ⟨fun h => ?_, fun h => ?_⟩
  · have : ¬ l = m := fun e => h (by rw [e])
    simp [this]
  have hlm : l.length = m.length := by omega
  refine W_loopA (fun i : Nat => [(0, .d (dIntS l)), (1, .d (dIntS m)), (12, .d (.int .i64 l.length)), (13, .d (.int .i64 i))]) (fun _ => []) (fun i => i ≤ l.length ∧ l.take i = m.take i) (fun i => l.length - i) 0 ?_ ?_ ?_
  · simp
  · simp
  rintro i ⟨hi, hT⟩
  refine W_run mixed ⟨[], [], [], 26, 0, [0, 1, 4, 5, 10, 12, 13, 14, 24], [10, 14, 24]⟩ (fun | 6 => [0, 1, 2, 4, 5, 6, 3, 7, 8] | _ => []) (by kernel_rfl) ?_
  simp only [stripX, stripOps, pickOps]
  simp []
  refine ⟨fun q => ⟨q, by omega, fun e => ?_, fun e => ⟨i + 1, ⟨by omega, take_eq_step hlm q hT e⟩, by omega, by rw [wrap_id] <;> omega⟩⟩, fun q => ?_⟩
  · have : ¬ l = m := fun h => e (by rw [h])
    simp [this]
  · rw [List.take_of_length_le q, List.take_of_length_le (by omega)] at hT
    simp [hT]
noncomputable def K_187 : Ent Tryz.prog := Ent.p2 (α := List Int) (β := List Int) 187 (fun l m => l.length ≤ 1000) (fun l m => .d (.bool (decide (l = m)))) (fun l m hc => equalInts_c l m hc)
theorem K_187_f : K_187.f = 187 := rfl
theorem K_187_e (l : List Int) (m : List Int) : K_187.e [.d (dIntS l), .d (dIntS m)] = some (l.length ≤ 1000, .d (.bool (decide (l = m))), []) := by unfold K_187; exact Ent.p2_eq (α := List Int) (β := List Int) l m
noncomputable def K_187h : EntH Tryz.prog := EntH.pk2 (α := List Int) (β := List Int) 187 (fun l m => l.length ≤ 1000) (fun l m => .d (.bool (decide (l = m)))) (fun l m => []) (fun l m hc => PureP.ans (equalInts_c l m hc))
theorem K_187h_f : K_187h.f = 187 := rfl
theorem K_187h_g : K_187h.gro = true := rfl
theorem K_187h_e {x1 x2 : V} {H : Heap} : K_187h.e [x1, x2] H = guardR ((decA (α := List Int) H x1).1 ∧ (decA (α := List Int) H x2).1) (peekR ((decA (α := List Int) H x1).2.length ≤ 1000) (.d (.bool (decide ((decA (α := List Int) H x1).2 = (decA (α := List Int) H x2).2)))) ([]) H) := rfl
theorem l1Same_c (l m : List Int) (hl : l.length ≤ 1000) : PureP Tryz.prog 186 [.d (dIntS l), .d (dIntS m)] (· = .d (.bool (decide (l = m)))) := by
  refine pure_of Tryz.func186 en_186 rfl rfl (W_run mixed ⟨[], [], [], 26, 0, [0, 1, 4, 5, 10, 12, 13, 14, 24], [10, 14, 24]⟩ (fun | 6 => [0, 1, 2, 4, 5, 6, 3, 7, 8] | _ => []) (by kernel_rfl) ?_)
  simp only [Tryz.f186, stripX, stripOps, pickOps]
  simp []
  refine ⟨fun h => ?_, fun h => ?_⟩
  · have : ¬ l = m := fun e => h (by rw [e])
    simp [this]
  have hlm : l.length = m.length := by omega
  refine W_loopA (fun i : Nat => [(0, .d (dIntS l)), (1, .d (dIntS m)), (12, .d (.int .i64 l.length)), (13, .d (.int .i64 i))]) (fun _ => []) (fun i => i ≤ l.length ∧ l.take i = m.take i) (fun i => l.length - i) 0 ?_ ?_ ?_
  · simp
  · simp
  rintro i ⟨hi, hT⟩
  refine W_run mixed ⟨[], [], [], 26, 0, [0, 1, 4, 5, 10, 12, 13, 14, 24], [10, 14, 24]⟩ (fun | 6 => [0, 1, 2, 4, 5, 6, 3, 7, 8] | _ => []) (by kernel_rfl) ?_
  simp only [stripX, stripOps, pickOps]
  simp []
  refine ⟨fun q => ⟨q, by omega, fun e => ?_, fun e => ⟨i + 1, ⟨by omega, take_eq_step hlm q hT e⟩, by omega, by rw [wrap_id] <;> omega⟩⟩, fun q => ?_⟩
  · have : ¬ l = m := fun h => e (by rw [h])
    simp [this]
  · rw [List.take_of_length_le q, List.take_of_length_le (by omega)] at hT
    simp [hT]
noncomputable def K_186 : Ent Tryz.prog := Ent.p2 (α := List Int) (β := List Int) 186 (fun l m => l.length ≤ 1000) (fun l m => .d (.bool (decide (l = m)))) (fun l m hc => l1Same_c l m hc)
theorem K_186_f : K_186.f = 186 := rfl
theorem K_186_e (l : List Int) (m : List Int) : K_186.e [.d (dIntS l), .d (dIntS m)] = some (l.length ≤ 1000, .d (.bool (decide (l = m))), []) := by unfold K_186; exact Ent.p2_eq (α := List Int) (β := List Int) l m
noncomputable def K_186h : EntH Tryz.prog := EntH.pk2 (α := List Int) (β := List Int) 186 (fun l m => l.length ≤ 1000) (fun l m => .d (.bool (decide (l = m)))) (fun l m => []) (fun l m hc => PureP.ans (l1Same_c l m hc))
theorem K_186h_f : K_186h.f = 186 := rfl
theorem K_186h_g : K_186h.gro = true := rfl
theorem K_186h_e {x1 x2 : V} {H : Heap} : K_186h.e [x1, x2] H = guardR ((decA (α := List Int) H x1).1 ∧ (decA (α := List Int) H x2).1) (peekR ((decA (α := List Int) H x1).2.length ≤ 1000) (.d (.bool (decide ((decA (α := List Int) H x1).2 = (decA (α := List Int) H x2).2)))) ([]) H) := rfl
def insAt (F : Func) (n : Int) : Inst := (F.blocks_[(instS F n F.blocks_ 0).1.toNat]?.getD default).insts_[(instS F n F.blocks_ 0).2.toNat]?.getD default
def insP (F : Func) (n : Int) : Inst := if pureS F n = true then insAt F n else ⟨0, 0, []⟩
def sameI (x y : Inst) : Bool := decide (x.op_ = y.op_) && (decide (x.n_ = y.n_) && decide (x.args_ = y.args_))
def sameS (F : Func) (a b : Int) : Bool := pureS F a && (pureS F b && sameI (insP F a) (insP F b))
def sameV (v : View) (a b : Int) : Bool := pureV v a && (pureV v b && sameI (instI v a) (instI v b))
theorem inst_same {F : Func} {n : Int} (h : goodF F = true) (h0 : 0 ≤ n) (h1 : n < many F) (hb : 0 ≤ bk (viewD F) n) (ha : 0 ≤ atV (viewD F) n) : instS F n F.blocks_ 0 = (bk (viewD F) n, atV (viewD F) n) ∧ instI (viewD F) n = insAt F n := by
  rcases (view_spec h h0 h1).2 with ⟨q1, _, q2⟩ | ⟨q1, _, _, q3, _, q2⟩
  · omega
  · rw [if_pos ha] at q2
    refine ⟨q2, ?_⟩
    unfold insAt
    rw [q2]; rfl
theorem same_same {F : Func} {a b : Int} (h : goodF F = true) (a0 : 0 ≤ a) (a1 : a < many F) (b0 : 0 ≤ b) (b1 : b < many F) : sameV (viewD F) a b = sameS F a b := by
  unfold sameV sameS
  rw [pure_same h a0 a1, pure_same h b0 b1]
  cases ha : pureS F a with
  | false => rfl
  | true =>
    cases hb : pureS F b with
    | false => rfl
    | true =>
      have ia : insP F a = insAt F a := by simp [insP, ha]
      have ib : insP F b = insAt F b := by simp [insP, hb]
      have pa := pure_same h a0 a1
      have pb := pure_same h b0 b1
      rw [ha] at pa; rw [hb] at pb
      simp only [pureV, Bool.and_eq_true, decide_eq_true_eq] at pa pb
      rw [ia, ib, (inst_same h a0 a1 pa.1 pa.2.1).2, (inst_same h b0 b1 pb.1 pb.2.1).2]
theorem good_insts {F : Func} {n : Int} (h : goodF F = true) (h0 : 0 ≤ n) (h1 : n < many F) (hb : 0 ≤ (instS F n F.blocks_ 0).1) : insAt F n ∈ (F.blocks_[(instS F n F.blocks_ 0).1.toNat]?.getD default).insts_ ∧ F.blocks_[(instS F n F.blocks_ 0).1.toNat]?.getD default ∈ F.blocks_ := by
  have hv : isVal F n = true := by
    obtain ⟨hp, hl, hh, hm, hc, hs, _⟩ := goodF_spec h
    simp only [isVal, h, Bool.true_and]
    exact inR_t.2 ⟨h0, by rw [wrap_sub (by omega) (by omega)]; omega⟩
  obtain ⟨q1, q2, q3⟩ := instS_ok hv hb
  refine ⟨?_, ?_⟩
  · unfold insAt
    generalize (F.blocks_[(instS F n F.blocks_ 0).1.toNat]?.getD default).insts_ = l at q3 ⊢
    rw [List.getElem?_eq_getElem (by omega)]; exact List.getElem_mem _
  · rw [List.getElem?_eq_getElem (by omega)]; exact List.getElem_mem _
theorem pureS_args {F : Func} {n : Int} (h : goodF F = true) (h0 : 0 ≤ n) (h1 : n < many F) : (insP F n).args_.length ≤ 1000 := by
  unfold insP
  split
  · rename_i q
    simp only [pureS, Bool.and_eq_true, decide_eq_true_eq] at q
    obtain ⟨q1, q2⟩ := good_insts h h0 h1 q.1
    exact ((good_vals h q2).2.1 _ q1).1
  · simp
theorem l16Pure_c (F : Func) (n : Int) (hF : Enc.good F) (hv : isVal F n = true) : PureP Tryz.prog 185 [vFunc F, .d (.int .i64 n)] (· = .tup [vInst (insP F n), .d (.bool (pureS F n))]) := by
  have hok := instS_ok hv
  by_cases hb : (instS F n F.blocks_ 0).1 < 0
  · have hp : pureS F n = false := by simp [pureS]; omega
    have hi : insP F n = ⟨0, 0, []⟩ := by simp [insP, hp]
    refine PureP.le (pure_of Tryz.func185 en_185 rfl rfl (W_run mixed ⟨[K_111, K_112], [K_111h, K_112h], [], 40, 0, [0, 1, 2, 4, 5, 6, 7, 29], [16, 29]⟩ (fun _ => []) (by kernel_rfl) ?_))
    simp only [Tryz.f185, stripX, stripOps, pickOps]
    simp [K_111_f, K_111_e, K_112_f, K_112_e, K_111h_f, K_111h_e, K_112h_f, K_112h_e, K_111h_g, K_112h_g, hF, hb]
    simp [hp, hi, VLe, VLes, DLe]
  · have q : 0 ≤ (instS F n F.blocks_ 0).1 := by omega
    have e1 : ((F.blocks_[(instS F n F.blocks_ 0).1.toNat]?.getD default).insts_[(instS F n F.blocks_ 0).2.toNat]?.getD default) = insAt F n := rfl
    have e2 : pureS F n = pureOp (insAt F n).op_ := by simp [pureS, q, opAt, insAt]
    have hq := hok q
    refine PureP.le (pure_of Tryz.func185 en_185 rfl rfl (W_run mixed ⟨[K_111, K_112], [K_111h, K_112h], [], 40, 0, [0, 1, 2, 4, 5, 6, 7, 29], [16, 29]⟩ (fun _ => []) (by kernel_rfl) ?_))
    simp only [Tryz.f185, stripX, stripOps, pickOps]
    simp [K_111_f, K_111_e, K_112_f, K_112_e, K_111h_f, K_111h_e, K_112h_f, K_112h_e, K_111h_g, K_112h_g, hF, hb, e1]
    refine ⟨⟨q, hq.1⟩, hq.2, fun e => ?_, fun e => ?_⟩
    · have hp : pureS F n = false := by rw [e2]; exact e
      have hi : insP F n = ⟨0, 0, []⟩ := by simp [insP, hp]
      simp [hp, hi, VLe, VLes, DLe]
    · have hp : pureS F n = true := by rw [e2]; exact e
      have hi : insP F n = insAt F n := by simp [insP, hp]
      simp [hp, hi, VLe, VLes, DLe]
      exact ⟨⟨q, hq.1⟩, hq.2⟩
noncomputable def K_185 : Ent Tryz.prog := Ent.p2 (α := Func) (β := Int) 185 (fun F n => Enc.good F ∧ isVal F n = true) (fun F n => .tup [vInst (insP F n), .d (.bool (pureS F n))]) (fun F n hc => l16Pure_c F n hc.1 hc.2)
theorem K_185_f : K_185.f = 185 := rfl
theorem K_185_e (F0 : Int) (F1 : List Block) (n : Int) : K_185.e [.agg [.d (.int .i64 F0), .d (dBlockS F1)], .d (.int .i64 n)] = some (Enc.good (Func.mk F0 F1) ∧ isVal (Func.mk F0 F1) n = true, .tup [vInst (insP (Func.mk F0 F1) n), .d (.bool (pureS (Func.mk F0 F1) n))], []) := by unfold K_185; exact Ent.p2_eq (α := Func) (β := Int) (Func.mk F0 F1) n
noncomputable def K_185h : EntH Tryz.prog := EntH.pk2 (α := Func) (β := Int) 185 (fun F n => Enc.good F ∧ isVal F n = true) (fun F n => .tup [vInst (insP F n), .d (.bool (pureS F n))]) (fun F n => []) (fun F n hc => PureP.ans (l16Pure_c F n hc.1 hc.2))
theorem K_185h_f : K_185h.f = 185 := rfl
theorem K_185h_g : K_185h.gro = true := rfl
theorem K_185h_e {x1 x2 : V} {H : Heap} : K_185h.e [x1, x2] H = guardR ((decA (α := Func) H x1).1 ∧ (decA (α := Int) H x2).1) (peekR (Enc.good (decA (α := Func) H x1).2 ∧ isVal (decA (α := Func) H x1).2 (decA (α := Int) H x2).2 = true) (.tup [vInst (insP (decA (α := Func) H x1).2 (decA (α := Int) H x2).2), .d (.bool (pureS (decA (α := Func) H x1).2 (decA (α := Int) H x2).2))]) ([]) H) := rfl
theorem l16Same_c (F : Func) (a b : Int) (hF : Enc.good F) (ha : isVal F a = true) (hb : isVal F b = true) : PureP Tryz.prog 162 [vFunc F, .d (.int .i64 a), .d (.int .i64 b)] (· = .d (.bool (sameS F a b))) := by
  obtain ⟨hg, a0, a1⟩ := isVal_t ha
  have hl := pureS_args hg a0 a1
  refine pure_of Tryz.func162 en_162 rfl rfl (W_run mixed ⟨[K_185, K_186], [K_185h, K_186h], [], 48, 0, [0, 1, 2, 3, 6, 7, 8, 9, 10], [24, 27, 34, 41]⟩ (fun _ => []) (by kernel_rfl) ?_)
  simp only [Tryz.f162, stripX, stripOps, pickOps]
  simp [K_185_f, K_185_e, K_186_f, K_186_e, K_185h_f, K_185h_e, K_186h_f, K_186h_e, K_185h_g, K_186h_g, hF, ha, hb]
  repeat' first | apply And.intro | intro _
  all_goals simp [sameS, sameI, *]
noncomputable def K_162 : Ent Tryz.prog := Ent.p3 (α := Func) (β := Int) (γ := Int) 162 (fun F a b => Enc.good F ∧ isVal F a = true ∧ isVal F b = true) (fun F a b => .d (.bool (sameS F a b))) (fun F a b hc => l16Same_c F a b hc.1 hc.2.1 hc.2.2)
theorem K_162_f : K_162.f = 162 := rfl
theorem K_162_e (F0 : Int) (F1 : List Block) (a : Int) (b : Int) : K_162.e [.agg [.d (.int .i64 F0), .d (dBlockS F1)], .d (.int .i64 a), .d (.int .i64 b)] = some (Enc.good (Func.mk F0 F1) ∧ isVal (Func.mk F0 F1) a = true ∧ isVal (Func.mk F0 F1) b = true, .d (.bool (sameS (Func.mk F0 F1) a b)), []) := by unfold K_162; exact Ent.p3_eq (α := Func) (β := Int) (γ := Int) (Func.mk F0 F1) a b
noncomputable def K_162h : EntH Tryz.prog := EntH.pk3 (α := Func) (β := Int) (γ := Int) 162 (fun F a b => Enc.good F ∧ isVal F a = true ∧ isVal F b = true) (fun F a b => .d (.bool (sameS F a b))) (fun F a b => []) (fun F a b hc => PureP.ans (l16Same_c F a b hc.1 hc.2.1 hc.2.2))
theorem K_162h_f : K_162h.f = 162 := rfl
theorem K_162h_g : K_162h.gro = true := rfl
theorem K_162h_e {x1 x2 x3 : V} {H : Heap} : K_162h.e [x1, x2, x3] H = guardR ((decA (α := Func) H x1).1 ∧ (decA (α := Int) H x2).1 ∧ (decA (α := Int) H x3).1) (peekR (Enc.good (decA (α := Func) H x1).2 ∧ isVal (decA (α := Func) H x1).2 (decA (α := Int) H x2).2 = true ∧ isVal (decA (α := Func) H x1).2 (decA (α := Int) H x3).2 = true) (.d (.bool (sameS (decA (α := Func) H x1).2 (decA (α := Int) H x2).2 (decA (α := Int) H x3).2))) ([]) H) := rfl
theorem sameInsts_c (v : View) (a b : Int) (ha : okV v a) (hb : okV v b) (hl : pureV v a = true → (instI v a).args_.length ≤ 1000) : PureP Tryz.prog 163 [.d (.rp 5 (dView v)), .d (.int .i64 a), .d (.int .i64 b)] (· = .d (.bool (sameV v a b))) := by
  cases pa : pureV v a with
  | false =>
    refine pure_of Tryz.func163 en_163 rfl rfl (W_run mixed ⟨[K_116, K_153, K_187], [K_116h, K_153h, K_187h], [], 68, 0, [0, 1, 2, 6, 7, 10, 22], [17, 22, 46, 57]⟩ (fun | 5 => [0, 1, 2, 4, 5, 6, 3, 7, 8, 9, 10, 11, 12, 14, 15, 16, 13, 17, 18, 19, 20, 21, 22, 23, 25, 26, 27, 24, 28, 29, 30, 31] | _ => []) (by kernel_rfl) ?_)
    simp only [Tryz.f163, stripX, stripOps, pickOps]
    simp [K_116_f, K_116_e, K_153_f, K_153_e, K_187_f, K_187_e, K_116h_f, K_116h_e, K_153h_f, K_153h_e, K_187h_f, K_187h_e, K_116h_g, K_153h_g, K_187h_g, ha, hb, pa]
    simp [sameV, pa]
  | true =>
    cases pb : pureV v b with
    | false =>
      refine pure_of Tryz.func163 en_163 rfl rfl (W_run mixed ⟨[K_116, K_153, K_187], [K_116h, K_153h, K_187h], [], 68, 0, [0, 1, 2, 6, 7, 10, 22], [17, 22, 46, 57]⟩ (fun | 5 => [0, 1, 2, 4, 5, 6, 3, 7, 8, 9, 10, 11, 12, 14, 15, 16, 13, 17, 18, 19, 20, 21, 22, 23, 25, 26, 27, 24, 28, 29, 30, 31] | _ => []) (by kernel_rfl) ?_)
      simp only [Tryz.f163, stripX, stripOps, pickOps]
      simp [K_116_f, K_116_e, K_153_f, K_153_e, K_187_f, K_187_e, K_116h_f, K_116h_e, K_153h_f, K_153h_e, K_187h_f, K_187h_e, K_116h_g, K_153h_g, K_187h_g, ha, hb, pa, pb]
      simp [sameV, pa, pb]
    | true =>
      have hl' := hl pa
      have qa := pa
      have qb := pb
      simp only [pureV, Bool.and_eq_true, decide_eq_true_eq] at qa qb
      have ea : instV v a = .tup [.d (.rp 3 (dInst (instI v a))), .d (.int .i64 (bk v a)), .d (.int .i64 (atV v a))] := by unfold instV; rw [if_neg (by omega), if_neg (by omega)]
      have eb : instV v b = .tup [.d (.rp 3 (dInst (instI v b))), .d (.int .i64 (bk v b)), .d (.int .i64 (atV v b))] := by unfold instV; rw [if_neg (by omega), if_neg (by omega)]
      refine pure_of Tryz.func163 en_163 rfl rfl (W_run mixed ⟨[K_116, K_153, K_187], [K_116h, K_153h, K_187h], [], 68, 0, [0, 1, 2, 6, 7, 10, 22], [17, 22, 46, 57]⟩ (fun | 5 => [0, 1, 2, 4, 5, 6, 3, 7, 8, 9, 10, 11, 12, 14, 15, 16, 13, 17, 18, 19, 20, 21, 22, 23, 25, 26, 27, 24, 28, 29, 30, 31] | _ => []) (by kernel_rfl) ?_)
      simp only [Tryz.f163, stripX, stripOps, pickOps]
      simp [K_116_f, K_116_e, K_153_f, K_153_e, K_187_f, K_187_e, K_116h_f, K_116h_e, K_153h_f, K_153h_e, K_187h_f, K_187h_e, K_116h_g, K_153h_g, K_187h_g, ha, hb, pa, pb, ea, eb]
      repeat' first | apply And.intro | intro _
      all_goals simp [sameV, sameI, *]
noncomputable def K_163 : Ent Tryz.prog := Ent.p3 (α := Ptr View) (β := Int) (γ := Int) 163 (fun v a b => okV v.v a ∧ okV v.v b ∧ (pureV v.v a = true → (instI v.v a).args_.length ≤ 1000)) (fun v a b => .d (.bool (sameV v.v a b))) (fun v a b hc => sameInsts_c v.v a b hc.1 hc.2.1 hc.2.2)
theorem K_163_f : K_163.f = 163 := rfl
theorem K_163_e (v : View) (a : Int) (b : Int) : K_163.e [.d (.rp 5 (dView v)), .d (.int .i64 a), .d (.int .i64 b)] = some (okV v a ∧ okV v b ∧ (pureV v a = true → (instI v a).args_.length ≤ 1000), .d (.bool (sameV v a b)), []) := by unfold K_163; exact Ent.p3_eq (α := Ptr View) (β := Int) (γ := Int) (Ptr.mk v) a b
noncomputable def K_163h : EntH Tryz.prog := EntH.pk3 (α := Ptr View) (β := Int) (γ := Int) 163 (fun v a b => okV v.v a ∧ okV v.v b ∧ (pureV v.v a = true → (instI v.v a).args_.length ≤ 1000)) (fun v a b => .d (.bool (sameV v.v a b))) (fun v a b => []) (fun v a b hc => PureP.ans (sameInsts_c v.v a b hc.1 hc.2.1 hc.2.2))
theorem K_163h_f : K_163h.f = 163 := rfl
theorem K_163h_g : K_163h.gro = true := rfl
theorem K_163h_e {x1 x2 x3 : V} {H : Heap} : K_163h.e [x1, x2, x3] H = guardR ((decA (α := Ptr View) H x1).1 ∧ (decA (α := Int) H x2).1 ∧ (decA (α := Int) H x3).1) (peekR (okV (decA (α := Ptr View) H x1).2.v (decA (α := Int) H x2).2 ∧ okV (decA (α := Ptr View) H x1).2.v (decA (α := Int) H x3).2 ∧ (pureV (decA (α := Ptr View) H x1).2.v (decA (α := Int) H x2).2 = true → (instI (decA (α := Ptr View) H x1).2.v (decA (α := Int) H x2).2).args_.length ≤ 1000)) (.d (.bool (sameV (decA (α := Ptr View) H x1).2.v (decA (α := Int) H x2).2 (decA (α := Int) H x3).2))) ([]) H) := rfl
theorem isVal_of {F : Func} {n : Int} (h : goodF F = true) (h0 : 0 ≤ n) (h1 : n < many F) : isVal F n = true := by
  obtain ⟨hp, hl, hh, hm, hc, hs, _⟩ := goodF_spec h
  simp only [isVal, h, Bool.true_and]
  exact inR_t.2 ⟨h0, by rw [wrap_sub (by omega) (by omega)]; omega⟩
theorem pureV_args {F : Func} {n : Int} (h : goodF F = true) (h0 : 0 ≤ n) (h1 : n < many F) : pureV (viewD F) n = true → (instI (viewD F) n).args_.length ≤ 1000 := by
  intro q
  have q' := q
  simp only [pureV, Bool.and_eq_true, decide_eq_true_eq] at q'
  obtain ⟨e1, e2⟩ := inst_same h h0 h1 q'.1 q'.2.1
  rw [e2]
  obtain ⟨q1, q2⟩ := good_insts h h0 h1 (by rw [e1]; exact q'.1)
  exact ((good_vals h q2).2.1 _ q1).1
theorem sound_good {F : Func} (h : soundF F = true) : goodF F = true := by
  simp only [soundF, Bool.and_eq_true] at h; exact h.1
theorem sound_V {F : Func} (h : soundF F = true) : soundV F = .rp 3 (dWays (waysV (viewD F))) := if_pos h
theorem sound_N {F : Func} (h : soundF F = false) : soundV F = .nilp := if_neg (by rw [h]; decide)
def firstP (p : Int → Bool) : Nat → Nat → Int
  | _, 0 => -1
  | i, k + 1 => if p i = true then i else firstP p (i + 1) k
theorem firstP_congr {p q : Int → Bool} : ∀ (k i : Nat), (∀ j : Nat, i ≤ j → j < i + k → p j = q j) → firstP p i k = firstP q i k
  | 0, i, _ => rfl
  | k + 1, i, h => by
    simp only [firstP]
    rw [h i (Nat.le_refl _) (by omega), firstP_congr k (i + 1) fun j h1 h2 => h j (by omega) (by omega)]
noncomputable def earP (F : Func) (n : Int) (v : Int) : Bool := decide (v ≠ n) && (sameS F v n && thereS F (allS F) v (instS F n F.blocks_ 0).1 (instS F n F.blocks_ 0).2)
noncomputable def earS (F : Func) (n : Int) : Int := if (instS F n F.blocks_ 0).1 < 0 then -1 else if (allS F)[(instS F n F.blocks_ 0).1.toNat]?.getD default = [] then -1 else firstP (earP F n) 0 (many F).toNat
theorem l16Earlier_c (F : Func) (n : Int) (hF : Enc.good F) (hv : isVal F n = true) : PureP Tryz.prog 123 [vFunc F, .d (.int .i64 n)] (· = .d (.int .i64 (earS F n))) := by
  obtain ⟨hg, n0, n1⟩ := isVal_t hv
  have hok := instS_ok hv
  have hf := good_flow hg
  obtain ⟨a1, a2⟩ := allS_ok hf
  obtain ⟨hp, hl, hh, hm, hc, hs, _⟩ := goodF_spec hg
  have hmany : cntB F.blocks_ F.params_ = many F := rfl
  by_cases hb : (instS F n F.blocks_ 0).1 < 0
  · refine pure_of Tryz.func123 en_123 rfl rfl (W_run mixed ⟨[K_111, K_132, K_80, K_162, K_133], [K_111h, K_132h, K_80h, K_162h, K_133h], [], 51, 0, [0, 1, 2, 4, 5, 6, 7, 8, 26, 30, 49], [19, 26, 30, 36, 42, 49]⟩ (fun _ => []) (by kernel_rfl) ?_)
    simp only [Tryz.f123, stripX, stripOps, pickOps]
    simp [K_111_f, K_111_e, K_132_f, K_132_e, K_80_f, K_80_e, K_162_f, K_162_e, K_133_f, K_133_e, K_111h_f, K_111h_e, K_132h_f, K_132h_e, K_80h_f, K_80h_e, K_162h_f, K_162h_e, K_133h_f, K_133h_e, K_111h_g, K_132h_g, K_80h_g, K_162h_g, K_133h_g, hF, hb, hf]
    simp [earS, hb]
  · have q : 0 ≤ (instS F n F.blocks_ 0).1 := by omega
    have hq := hok q
    refine pure_of Tryz.func123 en_123 rfl rfl (W_run mixed ⟨[K_111, K_132, K_80, K_162, K_133], [K_111h, K_132h, K_80h, K_162h, K_133h], [], 51, 0, [0, 1, 2, 4, 5, 6, 7, 8, 26, 30, 49], [19, 26, 30, 36, 42, 49]⟩ (fun _ => []) (by kernel_rfl) ?_)
    simp only [Tryz.f123, stripX, stripOps, pickOps]
    simp [K_111_f, K_111_e, K_132_f, K_132_e, K_80_f, K_80_e, K_162_f, K_162_e, K_133_f, K_133_e, K_111h_f, K_111h_e, K_132h_f, K_132h_e, K_80h_f, K_80h_e, K_162h_f, K_162h_e, K_133h_f, K_133h_e, K_111h_g, K_132h_g, K_80h_g, K_162h_g, K_133h_g, hF, hb, hf]
    refine ⟨⟨q, by omega⟩, fun e => by simp [earS, hb, e], fun e => ?_⟩
    have hT0 : earS F n = firstP (earP F n) 0 (many F).toNat := by unfold earS; rw [if_neg hb, if_neg e]
    have hP : ∀ v, earP F n v = (decide (v ≠ n) && (sameS F v n && thereS F (allS F) v (instS F n F.blocks_ 0).1 (instS F n F.blocks_ 0).2)) := fun v => rfl
    generalize (instS F n F.blocks_ 0).2 = p2 at hP
    generalize (instS F n F.blocks_ 0).1 = p1 at hP q hq
    refine W_loopA (fun i : Nat => [(1, .d (.int .i64 n)), (2, .ptr 0 2 0 0), (5, .d (.int .i64 p1)), (6, .d (.int .i64 p2)), (7, .d (dIntSS (allS F))), (8, .d (.int .i64 i))]) (fun _ => [.row 2 [[.d (.int .i64 F.params_), .d (dBlockS F.blocks_)]]])
      (fun i => (i : Int) ≤ many F ∧ firstP (earP F n) i ((many F).toNat - i) = earS F n) (fun i => (many F).toNat - i) 0 ?_ ?_ ?_
    · simp
    · exact ⟨by omega, hT0.symm⟩
    rintro i ⟨hi, hT⟩
    have hiv : (i : Int) < many F → isVal F i = true := fun h => isVal_of hg (by omega) h
    have wi : (i : Int) < many F → IntKind.i64.wrap ((i : Int) + 1) = ((i + 1 : Nat) : Int) := fun h => by rw [wrap_id] <;> omega
    have step : (i : Int) < many F → firstP (earP F n) i ((many F).toNat - i) = if earP F n i = true then (i : Int) else firstP (earP F n) (i + 1) ((many F).toNat - (i + 1)) := fun h => by
      obtain ⟨k, hk⟩ : ∃ k, (many F).toNat - i = k + 1 := ⟨(many F).toNat - i - 1, by omega⟩
      rw [hk, show (many F).toNat - (i + 1) = k by omega]; rfl
    have next : (i : Int) < many F → earP F n i = false → ∃ b : Nat, ((b : Int) ≤ many F ∧ firstP (earP F n) b ((many F).toNat - b) = earS F n) ∧ (many F).toNat - b < (many F).toNat - i ∧ IntKind.i64.wrap ((i : Int) + 1) = (b : Int) := fun h e => by
      have := step h
      rw [if_neg (by rw [e]; decide)] at this
      exact ⟨i + 1, ⟨by omega, by rw [← this]; exact hT⟩, by omega, wi h⟩
    refine W_run mixed ⟨[K_111, K_132, K_80, K_162, K_133], [K_111h, K_132h, K_80h, K_162h, K_133h], [], 51, 0, [0, 1, 2, 4, 5, 6, 7, 8, 26, 30, 49], [19, 26, 30, 36, 42, 49]⟩ (fun _ => []) (by kernel_rfl) ?_
    simp only [stripX, stripOps, pickOps]
    simp [K_111_f, K_111_e, K_132_f, K_132_e, K_80_f, K_80_e, K_162_f, K_162_e, K_133_f, K_133_e, K_111h_f, K_111h_e, K_132h_f, K_132h_e, K_80h_f, K_80h_e, K_162h_f, K_162h_e, K_133h_f, K_133h_e, K_111h_g, K_132h_g, K_80h_g, K_162h_g, K_133h_g, hF, hf, hmany]
    refine ⟨fun h => ⟨fun h2 => ⟨⟨hiv h, hv⟩, fun h3 => ⟨⟨q, hq.1, a1, a2⟩, fun h4 => ?_, fun h4 => next h (by simp [hP, h4])⟩, fun h3 => next h (by simp [hP, h3])⟩, fun h2 => next h (by simp [hP, h2])⟩, fun h => ?_⟩
    · have e2 : earP F n i = true := by simp [hP, h2, h3, h4]
      rw [← hT, step h, if_pos e2]
    · rw [show (many F).toNat - i = 0 by omega] at hT
      exact hT
noncomputable def K_123 : Ent Tryz.prog := Ent.p2 (α := Func) (β := Int) 123 (fun F n => Enc.good F ∧ isVal F n = true) (fun F n => .d (.int .i64 (earS F n))) (fun F n hc => l16Earlier_c F n hc.1 hc.2)
theorem K_123_f : K_123.f = 123 := rfl
theorem K_123_e (F0 : Int) (F1 : List Block) (n : Int) : K_123.e [.agg [.d (.int .i64 F0), .d (dBlockS F1)], .d (.int .i64 n)] = some (Enc.good (Func.mk F0 F1) ∧ isVal (Func.mk F0 F1) n = true, .d (.int .i64 (earS (Func.mk F0 F1) n)), []) := by unfold K_123; exact Ent.p2_eq (α := Func) (β := Int) (Func.mk F0 F1) n
noncomputable def K_123h : EntH Tryz.prog := EntH.pk2 (α := Func) (β := Int) 123 (fun F n => Enc.good F ∧ isVal F n = true) (fun F n => .d (.int .i64 (earS F n))) (fun F n => []) (fun F n hc => PureP.ans (l16Earlier_c F n hc.1 hc.2))
theorem K_123h_f : K_123h.f = 123 := rfl
theorem K_123h_g : K_123h.gro = true := rfl
theorem K_123h_e {x1 x2 : V} {H : Heap} : K_123h.e [x1, x2] H = guardR ((decA (α := Func) H x1).1 ∧ (decA (α := Int) H x2).1) (peekR (Enc.good (decA (α := Func) H x1).2 ∧ isVal (decA (α := Func) H x1).2 (decA (α := Int) H x2).2 = true) (.d (.int .i64 (earS (decA (α := Func) H x1).2 (decA (α := Int) H x2).2))) ([]) H) := rfl
noncomputable def earQ (w : Ways) (n v : Int) : Bool := decide (v ≠ n) && (sameV w.view_.v v n && thereW w v (bk w.view_.v n) (atV w.view_.v n))
noncomputable def earW (w : Ways) (n : Int) : Int := if pureV w.view_.v n = true then (if w.all_[(bk w.view_.v n).toNat]?.getD false = true then firstP (earQ w n) 0 w.view_.v.total_.toNat else -1) else -1
structure OkE (w : Ways) (n : Int) : Prop where
  n0 : 0 ≤ n ∧ n < w.view_.v.total_
  tot : w.view_.v.total_ ≤ 80
  ok : ∀ k, 0 ≤ k → k < w.view_.v.total_ → okV w.view_.v k ∧ (pureV w.view_.v k = true → (instI w.view_.v k).args_.length ≤ 1000) ∧ (pureV w.view_.v n = true → okW w k (bk w.view_.v n))
  all : pureV w.view_.v n = true → bk w.view_.v n < w.all_.length
theorem earlier_c (w : Ways) (n : Int) (h : OkE w n) : PureP Tryz.prog 124 [.d (.rp 3 (dWays w)), .d (.int .i64 n)] (· = .d (.int .i64 (earW w n))) := by
  obtain ⟨⟨n0, n1⟩, ht, hk, ha⟩ := h
  obtain ⟨on, pn, _⟩ := hk n n0 n1
  cases hp : pureV w.view_.v n with
  | false =>
    refine pure_of Tryz.func124 en_124 rfl rfl (W_run mixed ⟨[K_116, K_153, K_163, K_144], [K_116h, K_153h, K_163h, K_144h], [], 65, 0, [0, 1, 4, 6, 7, 8, 15, 33, 40, 41, 42, 62], [15, 33, 42, 47, 56, 62]⟩ (fun _ => []) (by kernel_rfl) ?_)
    simp only [Tryz.f124, stripX, stripOps, pickOps]
    simp [K_116_f, K_116_e, K_153_f, K_153_e, K_163_f, K_163_e, K_144_f, K_144_e, K_116h_f, K_116h_e, K_153h_f, K_153h_e, K_163h_f, K_163h_e, K_144h_f, K_144h_e, K_116h_g, K_153h_g, K_163h_g, K_144h_g, on, hp]
    simp [earW, hp]
  | true =>
    have ha' := ha hp
    have q := hp
    simp only [pureV, Bool.and_eq_true, decide_eq_true_eq] at q
    have ei : instV w.view_.v n = .tup [.d (.rp 3 (dInst (instI w.view_.v n))), .d (.int .i64 (bk w.view_.v n)), .d (.int .i64 (atV w.view_.v n))] := by unfold instV; rw [if_neg (by omega), if_neg (by omega)]
    refine pure_of Tryz.func124 en_124 rfl rfl (W_run mixed ⟨[K_116, K_153, K_163, K_144], [K_116h, K_153h, K_163h, K_144h], [], 65, 0, [0, 1, 4, 6, 7, 8, 15, 33, 40, 41, 42, 62], [15, 33, 42, 47, 56, 62]⟩ (fun _ => []) (by kernel_rfl) ?_)
    simp only [Tryz.f124, stripX, stripOps, pickOps]
    simp [K_116_f, K_116_e, K_153_f, K_153_e, K_163_f, K_163_e, K_144_f, K_144_e, K_116h_f, K_116h_e, K_153h_f, K_153h_e, K_163h_f, K_163h_e, K_144h_f, K_144h_e, K_116h_g, K_153h_g, K_163h_g, K_144h_g, on, hp, ei]
    refine ⟨⟨q.1, ha'⟩, fun e => by simp [earW, hp, e], fun e => ?_⟩
    have hT0 : earW w n = firstP (earQ w n) 0 w.view_.v.total_.toNat := by unfold earW; rw [if_pos hp, if_pos e]
    have hP : ∀ v, earQ w n v = (decide (v ≠ n) && (sameV w.view_.v v n && thereW w v (bk w.view_.v n) (atV w.view_.v n))) := fun v => rfl
    generalize hM : w.view_.v.total_ = M at *
    refine W_loopA (fun i : Nat => [(0, .d (.rp 3 (dWays w))), (1, .d (.int .i64 n)), (6, .d (.int .i64 (bk w.view_.v n))), (7, .d (.int .i64 (atV w.view_.v n))), (40, .d (.int .i64 M)), (41, .d (.int .i64 i))]) (fun _ => [])
      (fun i => (i : Int) ≤ M ∧ firstP (earQ w n) i (M.toNat - i) = earW w n) (fun i => M.toNat - i) 0 ?_ ?_ ?_
    · simp
    · exact ⟨by omega, hT0.symm⟩
    rintro i ⟨hi, hT⟩
    have wi : (i : Int) < M → IntKind.i64.wrap ((i : Int) + 1) = ((i + 1 : Nat) : Int) := fun h => by rw [wrap_id] <;> omega
    have step : (i : Int) < M → firstP (earQ w n) i (M.toNat - i) = if earQ w n i = true then (i : Int) else firstP (earQ w n) (i + 1) (M.toNat - (i + 1)) := fun h => by
      obtain ⟨k, hk⟩ : ∃ k, M.toNat - i = k + 1 := ⟨M.toNat - i - 1, by omega⟩
      rw [hk, show M.toNat - (i + 1) = k by omega]; rfl
    have next : (i : Int) < M → earQ w n i = false → ∃ b : Nat, ((b : Int) ≤ M ∧ firstP (earQ w n) b (M.toNat - b) = earW w n) ∧ M.toNat - b < M.toNat - i ∧ IntKind.i64.wrap ((i : Int) + 1) = (b : Int) := fun h e => by
      have := step h
      rw [if_neg (by rw [e]; decide)] at this
      exact ⟨i + 1, ⟨by omega, by rw [← this]; exact hT⟩, by omega, wi h⟩
    refine W_run mixed ⟨[K_116, K_153, K_163, K_144], [K_116h, K_153h, K_163h, K_144h], [], 65, 0, [0, 1, 4, 6, 7, 8, 15, 33, 40, 41, 42, 62], [15, 33, 42, 47, 56, 62]⟩ (fun _ => []) (by kernel_rfl) ?_
    simp only [stripX, stripOps, pickOps]
    simp [K_116_f, K_116_e, K_153_f, K_153_e, K_163_f, K_163_e, K_144_f, K_144_e, K_116h_f, K_116h_e, K_153h_f, K_153h_e, K_163h_f, K_163h_e, K_144h_f, K_144h_e, K_116h_g, K_153h_g, K_163h_g, K_144h_g]
    refine ⟨fun h => ⟨fun h2 => ⟨?_, fun h3 => ⟨?_, fun h4 => ?_, fun h4 => next h (by simp [hP, h4])⟩, fun h3 => next h (by simp [hP, h3])⟩, fun h2 => next h (by simp [hP, h2])⟩, fun h => ?_⟩
    · obtain ⟨o1, o2, o3⟩ := hk i (by omega) h
      exact ⟨o1, on, o2⟩
    · obtain ⟨o1, o2, o3⟩ := hk i (by omega) h
      exact o3 hp
    · have e2 : earQ w n i = true := by simp [hP, h2, h3, h4]
      rw [← hT, step h, if_pos e2]
    · rw [show M.toNat - i = 0 by omega] at hT
      exact hT
noncomputable def K_124 : Ent Tryz.prog := Ent.p2 (α := Ptr Ways) (β := Int) 124 (fun w n => OkE w.v n) (fun w n => .d (.int .i64 (earW w.v n))) (fun w n hc => earlier_c w.v n hc)
theorem K_124_f : K_124.f = 124 := rfl
theorem K_124_e (w : Ways) (n : Int) : K_124.e [.d (.rp 3 (dWays w)), .d (.int .i64 n)] = some (OkE w n, .d (.int .i64 (earW w n)), []) := by unfold K_124; exact Ent.p2_eq (α := Ptr Ways) (β := Int) (Ptr.mk w) n
noncomputable def K_124h : EntH Tryz.prog := EntH.pk2 (α := Ptr Ways) (β := Int) 124 (fun w n => OkE w.v n) (fun w n => .d (.int .i64 (earW w.v n))) (fun w n => []) (fun w n hc => PureP.ans (earlier_c w.v n hc))
theorem K_124h_f : K_124h.f = 124 := rfl
theorem K_124h_g : K_124h.gro = true := rfl
theorem K_124h_e {x1 x2 : V} {H : Heap} : K_124h.e [x1, x2] H = guardR ((decA (α := Ptr Ways) H x1).1 ∧ (decA (α := Int) H x2).1) (peekR (OkE (decA (α := Ptr Ways) H x1).2.v (decA (α := Int) H x2).2) (.d (.int .i64 (earW (decA (α := Ptr Ways) H x1).2.v (decA (α := Int) H x2).2))) ([]) H) := rfl
end Go.Proofs.YtbmloeahcdneaaaGreat
