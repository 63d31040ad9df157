/- Contracts of both programs' look at a value's instruction, and of IsPure. No condition. -/
import Derived.Test.YtpakdkiceoknjaaS6
namespace Go.Proofs.Ytpakdkiceoknjaa
set_option maxRecDepth 100000
set_option linter.unusedSimpArgs false
set_option linter.unusedVariables false
theorem hasBlock_c (v : View) (k : Int) : PureP Try.prog 49 [.d (.rp 5 (dView v)), .d (.int .i64 k)] (· = .d (.bool (inR k 0 (IntKind.i64.wrap (v.blocks_.length - 1))))) := by
  refine pure_of Try.func49 en_49 rfl rfl (W_run mixed ⟨[K_41], [K_41h], [], 14, 0, [0, 1, 4], []⟩ (fun _ => []) (by kernel_rfl) ?_)
  simp only [Try.f49, stripX, stripOps, pickOps]
  simp [K_41_f, K_41_e, K_41h_f, K_41h_e, K_41h_g]
noncomputable def K_49 : Ent Try.prog := Ent.p2 (α := Ptr View) (β := Int) 49 (fun v k => True) (fun v k => .d (.bool (inR k 0 (IntKind.i64.wrap (v.v.blocks_.length - 1))))) (fun v k hc => hasBlock_c v.v k)
theorem K_49_f : K_49.f = 49 := rfl
theorem K_49_e (v : View) (k : Int) : K_49.e [.d (.rp 5 (dView v)), .d (.int .i64 k)] = some (True, .d (.bool (inR k 0 (IntKind.i64.wrap (v.blocks_.length - 1)))), []) := by unfold K_49; exact Ent.p2_eq (α := Ptr View) (β := Int) (Ptr.mk v) k
noncomputable def K_49h : EntH Try.prog := EntH.pk2 (α := Ptr View) (β := Int) 49 (fun v k => True) (fun v k => .d (.bool (inR k 0 (IntKind.i64.wrap (v.v.blocks_.length - 1))))) (fun v k => []) (fun v k hc => PureP.ans (hasBlock_c v.v k))
theorem K_49h_f : K_49h.f = 49 := rfl
theorem K_49h_g : K_49h.gro = true := rfl
theorem K_49h_e {x1 x2 : V} {H : Heap} : K_49h.e [x1, x2] H = guardR ((decA (α := Ptr View) H x1).1 ∧ (decA (α := Int) H x2).1) (peekR (True) (.d (.bool (inR (decA (α := Int) H x2).2 0 (IntKind.i64.wrap ((decA (α := Ptr View) H x1).2.v.blocks_.length - 1))))) ([]) H) := rfl
def bk (v : View) (n : Int) : Int := v.block_[n.toNat]?.getD 0
def blkAt (v : View) (n : Int) : Block := v.blocks_[(bk v n).toNat]?.getD default
def atV (v : View) (n : Int) : Int := IntKind.i64.wrap (IntKind.i64.wrap (n - (v.first_[(bk v n).toNat]?.getD 0)) - (blkAt v n).params_)
def instI (v : View) (n : Int) : Inst := (blkAt v n).insts_[(atV v n).toNat]?.getD default
def okV (v : View) (n : Int) : Prop := (0 ≤ n ∧ n < v.block_.length) ∧ (0 ≤ bk v n → bk v n < v.first_.length ∧ bk v n < v.blocks_.length ∧ (0 ≤ atV v n → atV v n < (blkAt v n).insts_.length))
def instV (v : View) (n : Int) : V :=
  if bk v n < 0 then .tup [.d .nilp, .d (.int .i64 (-1)), .d (.int .i64 (-1))] else if atV v n < 0 then .tup [.d .nilp, .d (.int .i64 (bk v n)), .d (.int .i64 (atV v n))]
  else .tup [.d (.rp 3 (dInst (instI v n))), .d (.int .i64 (bk v n)), .d (.int .i64 (atV v n))]
theorem inst_c (v : View) (n : Int) (h : okV v n) : PureP Try.prog 60 [.d (.rp 5 (dView v)), .d (.int .i64 n)] (· = instV v n) := by
  obtain ⟨h1, h2⟩ := h
  have e1 : v.block_[n.toNat]?.getD 0 = bk v n := rfl
  have e2 : v.blocks_[(bk v n).toNat]?.getD default = blkAt v n := rfl
  have e3 : IntKind.i64.wrap (IntKind.i64.wrap (n - (v.first_[(bk v n).toNat]?.getD 0)) - (blkAt v n).params_) = atV v n := rfl
  have e4 : (blkAt v n).insts_[(atV v n).toNat]?.getD default = instI v n := rfl
  refine pure_of Try.func60 en_60 rfl rfl (W_run mixed ⟨[], [], [], 54, 0, [0, 1, 4, 5, 6, 7, 8, 17, 38], [17, 38]⟩ (fun | 4 => [0, 1, 2, 3, 5, 9, 10, 11, 12, 14, 4, 6, 7, 8, 13, 15, 16, 17, 18, 19] | _ => []) (by kernel_rfl) ?_)
  simp only [Try.f60, stripX, stripOps, pickOps]
  simp [e1, e2, e3, e4]
  refine ⟨h1, fun q => by simp [instV, q], fun q => ?_⟩
  obtain ⟨h3, h4, h5⟩ := h2 q
  refine ⟨⟨q, h3⟩, ⟨q, h4⟩, fun q2 => ?_, fun q2 => ⟨⟨q, h4⟩, ⟨q2, h5 q2⟩, ?_⟩⟩
  · have : ¬ bk v n < 0 := by omega
    simp [instV, this, q2]
  · have q3 : ¬ bk v n < 0 := by omega
    have q4 : ¬ atV v n < 0 := by omega
    simp [instV, q3, q4]
noncomputable def K_60 : Ent Try.prog := Ent.p2 (α := Ptr View) (β := Int) 60 (fun v n => okV v.v n) (fun v n => instV v.v n) (fun v n hc => inst_c v.v n hc)
theorem K_60_f : K_60.f = 60 := rfl
theorem K_60_e (v : View) (n : Int) : K_60.e [.d (.rp 5 (dView v)), .d (.int .i64 n)] = some (okV v n, instV v n, []) := by unfold K_60; exact Ent.p2_eq (α := Ptr View) (β := Int) (Ptr.mk v) n
noncomputable def K_60h : EntH Try.prog := EntH.pk2 (α := Ptr View) (β := Int) 60 (fun v n => okV v.v n) (fun v n => instV v.v n) (fun v n => []) (fun v n hc => PureP.ans (inst_c v.v n hc))
theorem K_60h_f : K_60h.f = 60 := rfl
theorem K_60h_g : K_60h.gro = true := rfl
theorem K_60h_e {x1 x2 : V} {H : Heap} : K_60h.e [x1, x2] H = guardR ((decA (α := Ptr View) H x1).1 ∧ (decA (α := Int) H x2).1) (peekR (okV (decA (α := Ptr View) H x1).2.v (decA (α := Int) H x2).2) (instV (decA (α := Ptr View) H x1).2.v (decA (α := Int) H x2).2) ([]) H) := rfl
def pureOp (op : Int) : Bool := !decide (op = 8) && (!decide (op = 12) && !decide (op = 13))
def pureV (v : View) (n : Int) : Bool := decide (0 ≤ bk v n) && (decide (0 ≤ atV v n) && pureOp (instI v n).op_)
theorem pureV_c (v : View) (n : Int) (h : okV v n) : PureP Try.prog 56 [.d (.rp 5 (dView v)), .d (.int .i64 n)] (· = .d (.bool (pureV v n))) := by
  by_cases q : bk v n < 0
  · have q' : ¬ 0 ≤ bk v n := by omega
    refine pure_of Try.func56 en_56 rfl rfl (W_run mixed ⟨[K_60], [K_60h], [], 38, 0, [0, 1, 4, 5], [17, 24, 31]⟩ (fun _ => []) (by kernel_rfl) ?_)
    simp only [Try.f56, stripX, stripOps, pickOps]
    simp [K_60_f, K_60_e, K_60h_f, K_60h_e, K_60h_g, h, instV, q]
    simp [pureV, q']
  have q' : 0 ≤ bk v n := by omega
  by_cases q2 : atV v n < 0
  · have q2' : ¬ 0 ≤ atV v n := by omega
    refine pure_of Try.func56 en_56 rfl rfl (W_run mixed ⟨[K_60], [K_60h], [], 38, 0, [0, 1, 4, 5], [17, 24, 31]⟩ (fun _ => []) (by kernel_rfl) ?_)
    simp only [Try.f56, stripX, stripOps, pickOps]
    simp [K_60_f, K_60_e, K_60h_f, K_60h_e, K_60h_g, h, instV, q, q2]
    simp [pureV, q2']
  · have q2' : 0 ≤ atV v n := by omega
    refine pure_of Try.func56 en_56 rfl rfl (W_run mixed ⟨[K_60], [K_60h], [], 38, 0, [0, 1, 4, 5], [17, 24, 31]⟩ (fun _ => []) (by kernel_rfl) ?_)
    simp only [Try.f56, stripX, stripOps, pickOps]
    simp [K_60_f, K_60_e, K_60h_f, K_60h_e, K_60h_g, h, instV, q, q2]
    repeat' first | apply And.intro | intro _
    all_goals simp [pureV, pureOp, *]
noncomputable def K_56 : Ent Try.prog := Ent.p2 (α := Ptr View) (β := Int) 56 (fun v n => okV v.v n) (fun v n => .d (.bool (pureV v.v n))) (fun v n hc => pureV_c v.v n hc)
theorem K_56_f : K_56.f = 56 := rfl
theorem K_56_e (v : View) (n : Int) : K_56.e [.d (.rp 5 (dView v)), .d (.int .i64 n)] = some (okV v n, .d (.bool (pureV v n)), []) := by unfold K_56; exact Ent.p2_eq (α := Ptr View) (β := Int) (Ptr.mk v) n
noncomputable def K_56h : EntH Try.prog := EntH.pk2 (α := Ptr View) (β := Int) 56 (fun v n => okV v.v n) (fun v n => .d (.bool (pureV v.v n))) (fun v n => []) (fun v n hc => PureP.ans (pureV_c v.v n hc))
theorem K_56h_f : K_56h.f = 56 := rfl
theorem K_56h_g : K_56h.gro = true := rfl
theorem K_56h_e {x1 x2 : V} {H : Heap} : K_56h.e [x1, x2] H = guardR ((decA (α := Ptr View) H x1).1 ∧ (decA (α := Int) H x2).1) (peekR (okV (decA (α := Ptr View) H x1).2.v (decA (α := Int) H x2).2) (.d (.bool (pureV (decA (α := Ptr View) H x1).2.v (decA (α := Int) H x2).2))) ([]) H) := rfl
theorem l14Pure_c (op : Int) : PureP Try.prog 54 [.d (.int .i64 op)] (· = .d (.bool (pureOp op))) := by
  refine pure_of Try.func54 en_54 rfl rfl (W_run mixed ⟨[], [], [], 13, 0, [0, 2], [5, 9]⟩ (fun _ => []) (by kernel_rfl) ?_)
  simp only [Try.f54, stripX, stripOps, pickOps]
  simp []
  repeat' first | apply And.intro | intro _
  all_goals simp [pureOp, *]
noncomputable def K_54 : Ent Try.prog := Ent.p1 (α := Int) 54 (fun op => True) (fun op => .d (.bool (pureOp op))) (fun op hc => l14Pure_c op)
theorem K_54_f : K_54.f = 54 := rfl
theorem K_54_e (op : Int) : K_54.e [.d (.int .i64 op)] = some (True, .d (.bool (pureOp op)), []) := by unfold K_54; exact Ent.p1_eq (α := Int) op
noncomputable def K_54h : EntH Try.prog := EntH.pk1 (α := Int) 54 (fun op => True) (fun op => .d (.bool (pureOp op))) (fun op => []) (fun op hc => PureP.ans (l14Pure_c op))
theorem K_54h_f : K_54h.f = 54 := rfl
theorem K_54h_g : K_54h.gro = true := rfl
theorem K_54h_e {x1 : V} {H : Heap} : K_54h.e [x1] H = guardR ((decA (α := Int) H x1).1) (peekR (True) (.d (.bool (pureOp (decA (α := Int) H x1).2))) ([]) H) := rfl
def isVal (F : Func) (n : Int) : Bool := goodF F && inR n 0 (IntKind.i64.wrap (many F - 1))
theorem l14Is_c (F : Func) (n : Int) (hF : Enc.good F) : PureP Try.prog 52 [vFunc F, .d (.int .i64 n)] (· = .d (.bool (isVal F n))) := by
  refine pure_of Try.func52 en_52 rfl rfl (W_run mixed ⟨[K_57, K_58, K_45], [K_57h, K_58h, K_45h], [], 14, 0, [0, 1, 2, 4], [7]⟩ (fun _ => []) (by kernel_rfl) ?_)
  simp only [Try.f52, stripX, stripOps, pickOps]
  simp [K_57_f, K_57_e, K_58_f, K_58_e, K_45_f, K_45_e, K_57h_f, K_57h_e, K_58h_f, K_58h_e, K_45h_f, K_45h_e, K_57h_g, K_58h_g, K_45h_g, hF]
  repeat' first | apply And.intro | intro _
  all_goals simp [isVal, many, *]
noncomputable def K_52 : Ent Try.prog := Ent.p2 (α := Func) (β := Int) 52 (fun F n => Enc.good F) (fun F n => .d (.bool (isVal F n))) (fun F n hc => l14Is_c F n hc)
theorem K_52_f : K_52.f = 52 := rfl
theorem K_52_e (F0 : Int) (F1 : List Block) (n : Int) : K_52.e [.agg [.d (.int .i64 F0), .d (dBlockS F1)], .d (.int .i64 n)] = some (Enc.good (Func.mk F0 F1), .d (.bool (isVal (Func.mk F0 F1) n)), []) := by unfold K_52; exact Ent.p2_eq (α := Func) (β := Int) (Func.mk F0 F1) n
noncomputable def K_52h : EntH Try.prog := EntH.pk2 (α := Func) (β := Int) 52 (fun F n => Enc.good F) (fun F n => .d (.bool (isVal F n))) (fun F n => []) (fun F n hc => PureP.ans (l14Is_c F n hc))
theorem K_52h_f : K_52h.f = 52 := rfl
theorem K_52h_g : K_52h.gro = true := rfl
theorem K_52h_e {x1 x2 : V} {H : Heap} : K_52h.e [x1, x2] H = guardR ((decA (α := Func) H x1).1 ∧ (decA (α := Int) H x2).1) (peekR (Enc.good (decA (α := Func) H x1).2) (.d (.bool (isVal (decA (α := Func) H x1).2 (decA (α := Int) H x2).2))) ([]) H) := rfl
/-- The block and the place of an instruction's value, from block i on. -/
def instS (F : Func) (n : Int) : List Block → Nat → Int × Int
  | [], _ => (-1, -1)
  | b :: bs, i =>
    let a := IntKind.i64.wrap (IntKind.i64.wrap (n - cntB (F.blocks_.take i) F.params_) - b.params_)
    if inR a 0 (IntKind.i64.wrap (b.insts_.length - 1)) = true then (i, a) else instS F n bs (i + 1)
theorem l12Inst_c (F : Func) (n : Int) (hF : Enc.good F) : PureP Try.prog 53 [vFunc F, .d (.int .i64 n)] (· = .tup [.d (.int .i64 (instS F n F.blocks_ 0).1), .d (.int .i64 (instS F n F.blocks_ 0).2)]) := by
  have hbs : Enc.good F.blocks_ := hF.2
  have hlb := good_len hbs
  refine pure_of Try.func53 en_53 rfl rfl (W_run mixed ⟨[K_88, K_45], [K_88h, K_45h], [], 34, 0, [0, 1, 2, 4, 5, 6, 7, 8, 10, 11, 12, 13, 30], [13, 30]⟩ (fun | 4 => [0, 2, 5, 1, 3, 4, 6, 7, 8] | _ => []) (by kernel_rfl) ?_)
  simp only [Try.f53, stripX, stripOps, pickOps]
  simp [K_88_f, K_88_e, K_45_f, K_45_e, K_88h_f, K_88h_e, K_45h_f, K_45h_e, K_88h_g, K_45h_g, hF]
  refine W_loopA (fun i : Nat => [(1, .d (.int .i64 n)), (2, .ptr 0 2 0 0), (10, .d (dBlockS F.blocks_)), (11, .d (.int .i64 F.blocks_.length)), (12, .d (.int .i64 i))]) (fun _ => [.row 2 [[.d (.int .i64 F.params_), .d (dBlockS F.blocks_)]]]) (fun i => i ≤ F.blocks_.length ∧ instS F n (F.blocks_.drop i) i = instS F n F.blocks_ 0) (fun i => F.blocks_.length - i) 0 ?_ ?_ ?_
  · simp
  · simp
  rintro i ⟨hi, hm⟩
  refine W_run mixed ⟨[K_88, K_45], [K_88h, K_45h], [], 34, 0, [0, 1, 2, 4, 5, 6, 7, 8, 10, 11, 12, 13, 30], [13, 30]⟩ (fun | 4 => [0, 2, 5, 1, 3, 4, 6, 7, 8] | _ => []) (by kernel_rfl) ?_
  simp only [stripX, stripOps, pickOps]
  simp [K_88_f, K_88_e, K_45_f, K_45_e, K_88h_f, K_88h_e, K_45h_f, K_45h_e, K_88h_g, K_45h_g, hF]
  refine ⟨fun h => ?_, fun h => ?_⟩
  · rw [drop_cons h] at hm
    simp only [instS] at hm
    refine ⟨h, by omega, fun q => ?_, fun q => ⟨i + 1, ⟨by omega, ?_⟩, by omega, by rw [wrap_id] <;> omega⟩⟩
    · rw [if_pos q] at hm; rw [← hm]; exact ⟨rfl, rfl⟩
    · rw [if_neg (by rw [q]; decide)] at hm; exact hm
  · rw [List.drop_eq_nil_of_le h] at hm
    simp [← hm, instS]
noncomputable def K_53 : Ent Try.prog := Ent.p2 (α := Func) (β := Int) 53 (fun F n => Enc.good F) (fun F n => .tup [.d (.int .i64 (instS F n F.blocks_ 0).1), .d (.int .i64 (instS F n F.blocks_ 0).2)]) (fun F n hc => l12Inst_c F n hc)
theorem K_53_f : K_53.f = 53 := rfl
theorem K_53_e (F0 : Int) (F1 : List Block) (n : Int) : K_53.e [.agg [.d (.int .i64 F0), .d (dBlockS F1)], .d (.int .i64 n)] = some (Enc.good (Func.mk F0 F1), .tup [.d (.int .i64 (instS (Func.mk F0 F1) n (Func.mk F0 F1).blocks_ 0).1), .d (.int .i64 (instS (Func.mk F0 F1) n (Func.mk F0 F1).blocks_ 0).2)], []) := by unfold K_53; exact Ent.p2_eq (α := Func) (β := Int) (Func.mk F0 F1) n
noncomputable def K_53h : EntH Try.prog := EntH.pk2 (α := Func) (β := Int) 53 (fun F n => Enc.good F) (fun F n => .tup [.d (.int .i64 (instS F n F.blocks_ 0).1), .d (.int .i64 (instS F n F.blocks_ 0).2)]) (fun F n => []) (fun F n hc => PureP.ans (l12Inst_c F n hc))
theorem K_53h_f : K_53h.f = 53 := rfl
theorem K_53h_g : K_53h.gro = true := rfl
theorem K_53h_e {x1 x2 : V} {H : Heap} : K_53h.e [x1, x2] H = guardR ((decA (α := Func) H x1).1 ∧ (decA (α := Int) H x2).1) (peekR (Enc.good (decA (α := Func) H x1).2) (.tup [.d (.int .i64 (instS (decA (α := Func) H x1).2 (decA (α := Int) H x2).2 (decA (α := Func) H x1).2.blocks_ 0).1), .d (.int .i64 (instS (decA (α := Func) H x1).2 (decA (α := Int) H x2).2 (decA (α := Func) H x1).2.blocks_ 0).2)]) ([]) H) := rfl
end Go.Proofs.Ytpakdkiceoknjaa
