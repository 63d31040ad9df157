/- Contracts of LineOf of both programs, and that they are the same. No condition. -/
import Derived.Test.YtpakdkiceoknjaaS7
import Derived.Test.YtpakdkiceoknjaaRd
import Derived.Test.YtpakdkiceoknjaaRows
namespace Go.Proofs.Ytpakdkiceoknjaa
set_option maxRecDepth 100000
set_option linter.unusedSimpArgs false
set_option linter.unusedVariables false
def isBlk (F : Func) (k : Int) : Bool := goodF F && inR k 0 (IntKind.i64.wrap (F.blocks_.length - 1))
theorem l13Is_c (F : Func) (k : Int) (hF : Enc.good F) : PureP Try.prog 44 [vFunc F, .d (.int .i64 k)] (· = .d (.bool (isBlk F k))) := by
  refine pure_of Try.func44 en_44 rfl rfl (W_run mixed ⟨[K_57, K_45], [K_57h, K_45h], [], 15, 0, [0, 1, 2, 4], [7]⟩ (fun _ => []) (by kernel_rfl) ?_)
  simp only [Try.f44, stripX, stripOps, pickOps]
  simp [K_57_f, K_57_e, K_45_f, K_45_e, K_57h_f, K_57h_e, K_45h_f, K_45h_e, K_57h_g, K_45h_g, hF]
  repeat' first | apply And.intro | intro _
  all_goals simp [isBlk, *]
noncomputable def K_44 : Ent Try.prog := Ent.p2 (α := Func) (β := Int) 44 (fun F k => Enc.good F) (fun F k => .d (.bool (isBlk F k))) (fun F k hc => l13Is_c F k hc)
theorem K_44_f : K_44.f = 44 := rfl
theorem K_44_e (F0 : Int) (F1 : List Block) (k : Int) : K_44.e [.agg [.d (.int .i64 F0), .d (dBlockS F1)], .d (.int .i64 k)] = some (Enc.good (Func.mk F0 F1), .d (.bool (isBlk (Func.mk F0 F1) k)), []) := by unfold K_44; exact Ent.p2_eq (α := Func) (β := Int) (Func.mk F0 F1) k
noncomputable def K_44h : EntH Try.prog := EntH.pk2 (α := Func) (β := Int) 44 (fun F k => Enc.good F) (fun F k => .d (.bool (isBlk F k))) (fun F k => []) (fun F k hc => PureP.ans (l13Is_c F k hc))
theorem K_44h_f : K_44h.f = 44 := rfl
theorem K_44h_g : K_44h.gro = true := rfl
theorem K_44h_e {x1 x2 : V} {H : Heap} : K_44h.e [x1, x2] H = guardR ((decA (α := Func) H x1).1 ∧ (decA (α := Int) H x2).1) (peekR (Enc.good (decA (α := Func) H x1).2) (.d (.bool (isBlk (decA (α := Func) H x1).2 (decA (α := Int) H x2).2))) ([]) H) := rfl
theorem isBlk_t {F : Func} {k : Int} (hF : Enc.good F) (h : isBlk F k = true) : goodF F = true ∧ 0 ≤ k ∧ k < F.blocks_.length := by
  simp only [isBlk, Bool.and_eq_true] at h
  have := inR_index (good_len hF.2) h.2
  exact ⟨h.1, this.1, by omega⟩
def linB (bs : List Block) (n : Int) : Int := bs.foldl (fun n b => IntKind.i64.wrap (n + IntKind.i64.wrap (b.insts_.length + 2))) n
theorem linB_cons (b : Block) (bs : List Block) (n : Int) : linB (b :: bs) n = linB bs (IntKind.i64.wrap (n + IntKind.i64.wrap (b.insts_.length + 2))) := rfl
def lineN (F : Func) (k at_ : Int) : Int := IntKind.i64.wrap (IntKind.i64.wrap (linB (F.blocks_.take k.toNat) 2 + 1) + at_)
theorem lineOfI_c (F : Func) (k a : Int) (hF : Enc.good F) (h0 : 0 ≤ k) (hk : k.toNat ≤ F.blocks_.length) : PureP Try.prog 50 [vFunc F, .d (.int .i64 k), .d (.int .i64 a)] (· = .d (.int .i64 (lineN F k a))) := by
  have hl := good_len hF.2
  refine pure_of Try.func50 en_50 rfl rfl (W_run mixed ⟨[], [], [], 30, 0, [0, 1, 2, 3, 6, 7, 9, 13, 14, 15, 16], [16]⟩ (fun _ => []) (by kernel_rfl) ?_)
  simp only [Try.f50, stripX, stripOps, pickOps]
  simp [h0, hk]
  have hlen : (F.blocks_.take k.toNat).length = k.toNat := by rw [List.length_take]; omega
  refine W_loopA (fun b : Nat × Int => [(2, .d (.int .i64 a)), (7, .d (.int .i64 b.2)), (13, .d (.ro 5 k.toNat fun i j => dBlock (F.blocks_[i]?.getD default) j)), (14, .d (.int .i64 k.toNat)), (15, .d (.int .i64 b.1))]) (fun _ => []) (fun b => b.1 ≤ k.toNat ∧ linB ((F.blocks_.take k.toNat).drop b.1) b.2 = linB (F.blocks_.take k.toNat) 2) (fun b => k.toNat - b.1) (0, 2) ?_ ?_ ?_
  · simp [h0]
  · simp
  · rintro ⟨i, m⟩ ⟨hi, hm⟩
    refine W_run mixed ⟨[], [], [], 30, 0, [0, 1, 2, 3, 6, 7, 9, 13, 14, 15, 16], [16]⟩ (fun _ => []) (by kernel_rfl) ?_
    simp only [stripX, stripOps, pickOps]
    simp []
    simp only [] at hi hm
    refine ⟨fun h => ?_, fun h => ?_⟩
    · have hi' : i < (F.blocks_.take k.toNat).length := by omega
      rw [drop_cons hi', linB_cons, List.getElem?_take, if_pos (by omega)] at hm
      exact ⟨by omega, i + 1, _, ⟨by omega, hm⟩, by omega, rfl, by rw [wrap_id] <;> omega⟩
    · rw [List.drop_eq_nil_of_le (by omega)] at hm
      have hm' : m = linB (F.blocks_.take k.toNat) 2 := hm
      rw [hm']; rfl
noncomputable def K_50 : Ent Try.prog := Ent.p3 (α := Func) (β := Int) (γ := Int) 50 (fun F k a => Enc.good F ∧ 0 ≤ k ∧ k.toNat ≤ F.blocks_.length) (fun F k a => .d (.int .i64 (lineN F k a))) (fun F k a hc => lineOfI_c F k a hc.1 hc.2.1 hc.2.2)
theorem K_50_f : K_50.f = 50 := rfl
theorem K_50_e (F0 : Int) (F1 : List Block) (k : Int) (a : Int) : K_50.e [.agg [.d (.int .i64 F0), .d (dBlockS F1)], .d (.int .i64 k), .d (.int .i64 a)] = some (Enc.good (Func.mk F0 F1) ∧ 0 ≤ k ∧ k.toNat ≤ (Func.mk F0 F1).blocks_.length, .d (.int .i64 (lineN (Func.mk F0 F1) k a)), []) := by unfold K_50; exact Ent.p3_eq (α := Func) (β := Int) (γ := Int) (Func.mk F0 F1) k a
noncomputable def K_50h : EntH Try.prog := EntH.pk3 (α := Func) (β := Int) (γ := Int) 50 (fun F k a => Enc.good F ∧ 0 ≤ k ∧ k.toNat ≤ F.blocks_.length) (fun F k a => .d (.int .i64 (lineN F k a))) (fun F k a => []) (fun F k a hc => PureP.ans (lineOfI_c F k a hc.1 hc.2.1 hc.2.2))
theorem K_50h_f : K_50h.f = 50 := rfl
theorem K_50h_g : K_50h.gro = true := rfl
theorem K_50h_e {x1 x2 x3 : V} {H : Heap} : K_50h.e [x1, x2, x3] H = guardR ((decA (α := Func) H x1).1 ∧ (decA (α := Int) H x2).1 ∧ (decA (α := Int) H x3).1) (peekR (Enc.good (decA (α := Func) H x1).2 ∧ 0 ≤ (decA (α := Int) H x2).2 ∧ (decA (α := Int) H x2).2.toNat ≤ (decA (α := Func) H x1).2.blocks_.length) (.d (.int .i64 (lineN (decA (α := Func) H x1).2 (decA (α := Int) H x2).2 (decA (α := Int) H x3).2))) ([]) H) := rfl
theorem l20Line_c (F : Func) (k a : Int) (hF : Enc.good F) (h0 : 0 ≤ k) (hk : k.toNat ≤ F.blocks_.length) : PureP Try.prog 46 [vFunc F, .d (.int .i64 k), .d (.int .i64 a)] (· = .d (.int .i64 (lineN F k a))) := by
  have hl := good_len hF.2
  refine pure_of Try.func46 en_46 rfl rfl (W_run mixed ⟨[], [], [], 30, 0, [0, 1, 2, 3, 6, 7, 9, 13, 14, 15, 16], [16]⟩ (fun _ => []) (by kernel_rfl) ?_)
  simp only [Try.f46, stripX, stripOps, pickOps]
  simp [h0, hk]
  have hlen : (F.blocks_.take k.toNat).length = k.toNat := by rw [List.length_take]; omega
  refine W_loopA (fun b : Nat × Int => [(2, .d (.int .i64 a)), (7, .d (.int .i64 b.2)), (13, .d (.ro 5 k.toNat fun i j => dBlock (F.blocks_[i]?.getD default) j)), (14, .d (.int .i64 k.toNat)), (15, .d (.int .i64 b.1))]) (fun _ => []) (fun b => b.1 ≤ k.toNat ∧ linB ((F.blocks_.take k.toNat).drop b.1) b.2 = linB (F.blocks_.take k.toNat) 2) (fun b => k.toNat - b.1) (0, 2) ?_ ?_ ?_
  · simp [h0]
  · simp
  · rintro ⟨i, m⟩ ⟨hi, hm⟩
    refine W_run mixed ⟨[], [], [], 30, 0, [0, 1, 2, 3, 6, 7, 9, 13, 14, 15, 16], [16]⟩ (fun _ => []) (by kernel_rfl) ?_
    simp only [stripX, stripOps, pickOps]
    simp [Int.add_comm 2]
    simp only [] at hi hm
    refine ⟨fun h => ?_, fun h => ?_⟩
    · have hi' : i < (F.blocks_.take k.toNat).length := by omega
      rw [drop_cons hi', linB_cons, List.getElem?_take, if_pos (by omega)] at hm
      exact ⟨by omega, i + 1, _, ⟨by omega, hm⟩, by omega, rfl, by rw [wrap_id] <;> omega⟩
    · rw [List.drop_eq_nil_of_le (by omega)] at hm
      have hm' : m = linB (F.blocks_.take k.toNat) 2 := hm
      rw [hm']; rfl
noncomputable def K_46 : Ent Try.prog := Ent.p3 (α := Func) (β := Int) (γ := Int) 46 (fun F k a => Enc.good F ∧ 0 ≤ k ∧ k.toNat ≤ F.blocks_.length) (fun F k a => .d (.int .i64 (lineN F k a))) (fun F k a hc => l20Line_c F k a hc.1 hc.2.1 hc.2.2)
theorem K_46_f : K_46.f = 46 := rfl
theorem K_46_e (F0 : Int) (F1 : List Block) (k : Int) (a : Int) : K_46.e [.agg [.d (.int .i64 F0), .d (dBlockS F1)], .d (.int .i64 k), .d (.int .i64 a)] = some (Enc.good (Func.mk F0 F1) ∧ 0 ≤ k ∧ k.toNat ≤ (Func.mk F0 F1).blocks_.length, .d (.int .i64 (lineN (Func.mk F0 F1) k a)), []) := by unfold K_46; exact Ent.p3_eq (α := Func) (β := Int) (γ := Int) (Func.mk F0 F1) k a
noncomputable def K_46h : EntH Try.prog := EntH.pk3 (α := Func) (β := Int) (γ := Int) 46 (fun F k a => Enc.good F ∧ 0 ≤ k ∧ k.toNat ≤ F.blocks_.length) (fun F k a => .d (.int .i64 (lineN F k a))) (fun F k a => []) (fun F k a hc => PureP.ans (l20Line_c F k a hc.1 hc.2.1 hc.2.2))
theorem K_46h_f : K_46h.f = 46 := rfl
theorem K_46h_g : K_46h.gro = true := rfl
theorem K_46h_e {x1 x2 x3 : V} {H : Heap} : K_46h.e [x1, x2, x3] H = guardR ((decA (α := Func) H x1).1 ∧ (decA (α := Int) H x2).1 ∧ (decA (α := Int) H x3).1) (peekR (Enc.good (decA (α := Func) H x1).2 ∧ 0 ≤ (decA (α := Int) H x2).2 ∧ (decA (α := Int) H x2).2.toNat ≤ (decA (α := Func) H x1).2.blocks_.length) (.d (.int .i64 (lineN (decA (α := Func) H x1).2 (decA (α := Int) H x2).2 (decA (α := Int) H x3).2))) ([]) H) := rfl
def isLine (F : Func) (k a : Int) : Bool := isBlk F k && inR a 0 (F.blocks_[k.toNat]?.getD default).insts_.length
def lineR (F : Func) (k a : Int) : V := if isLine F k a = true then .tup [.d (.int .i64 (lineN F k a)), .d (.bool true)] else .tup [.d (.int .i64 0), .d (.bool false)]
theorem lineS_c (F : Func) (k a : Int) (hF : Enc.good F) : PureP Try.prog 16 [vFunc F, .d (.int .i64 k), .d (.int .i64 a)] (· = lineR F k a) := by
  cases hb : isBlk F k with
  | false =>
    refine pure_of Try.func16 en_16 rfl rfl (W_run mixed ⟨[K_44, K_45, K_46], [K_44h, K_45h, K_46h], [], 28, 0, [0, 1, 2, 3, 6, 7, 23], [12, 23]⟩ (fun _ => []) (by kernel_rfl) ?_)
    simp only [Try.f16, stripX, stripOps, pickOps]
    simp [K_44_f, K_44_e, K_45_f, K_45_e, K_46_f, K_46_e, K_44h_f, K_44h_e, K_45h_f, K_45h_e, K_46h_f, K_46h_e, K_44h_g, K_45h_g, K_46h_g, hF, hb]
    simp [lineR, isLine, hb]
  | true =>
    obtain ⟨_, k0, k1⟩ := isBlk_t hF hb
    have k2 : k.toNat ≤ F.blocks_.length := by omega
    refine pure_of Try.func16 en_16 rfl rfl (W_run mixed ⟨[K_44, K_45, K_46], [K_44h, K_45h, K_46h], [], 28, 0, [0, 1, 2, 3, 6, 7, 23], [12, 23]⟩ (fun _ => []) (by kernel_rfl) ?_)
    simp only [Try.f16, stripX, stripOps, pickOps]
    simp [K_44_f, K_44_e, K_45_f, K_45_e, K_46_f, K_46_e, K_44h_f, K_44h_e, K_45h_f, K_45h_e, K_46h_f, K_46h_e, K_44h_g, K_45h_g, K_46h_g, hF, hb, k0, k1, k2]
    refine ⟨fun q => ?_, fun q => ?_⟩
    · have q' : inR a 0 (F.blocks_[k.toNat]?.getD default).insts_.length = false := by rw [List.getElem?_eq_getElem (by omega)]; exact q
      simp [lineR, isLine, hb, q']
    · have q' : inR a 0 (F.blocks_[k.toNat]?.getD default).insts_.length = true := by rw [List.getElem?_eq_getElem (by omega)]; exact q
      simp [lineR, isLine, hb, q']
theorem lineI_c (F : Func) (k a : Int) (hF : Enc.good F) : PureP Try.prog 18 [vFunc F, .d (.int .i64 k), .d (.int .i64 a)] (· = lineR F k a) := by
  cases hg : goodF F with
  | false =>
    refine pure_of Try.func18 en_18 rfl rfl (W_run mixed ⟨[K_48, K_49, K_41, K_50], [K_48h, K_49h, K_41h, K_50h], [], 38, 0, [0, 1, 2, 3, 6, 7, 8, 33], [13, 19, 33]⟩ (fun _ => []) (by kernel_rfl) ?_)
    simp only [Try.f18, stripX, stripOps, pickOps]
    simp [K_48_f, K_48_e, K_49_f, K_49_e, K_41_f, K_41_e, K_50_f, K_50_e, K_48h_f, K_48h_e, K_49h_f, K_49h_e, K_41h_f, K_41h_e, K_50h_f, K_50h_e, K_48h_g, K_49h_g, K_41h_g, K_50h_g, hF, viewV_f hg]
    simp [lineR, isLine, isBlk, hg]
  | true =>
    cases hb : inR k 0 (IntKind.i64.wrap (F.blocks_.length - 1)) with
    | false =>
      refine pure_of Try.func18 en_18 rfl rfl (W_run mixed ⟨[K_48, K_49, K_41, K_50], [K_48h, K_49h, K_41h, K_50h], [], 38, 0, [0, 1, 2, 3, 6, 7, 8, 33], [13, 19, 33]⟩ (fun _ => []) (by kernel_rfl) ?_)
      simp only [Try.f18, stripX, stripOps, pickOps]
      simp [K_48_f, K_48_e, K_49_f, K_49_e, K_41_f, K_41_e, K_50_f, K_50_e, K_48h_f, K_48h_e, K_49h_f, K_49h_e, K_41h_f, K_41h_e, K_50h_f, K_50h_e, K_48h_g, K_49h_g, K_41h_g, K_50h_g, hF, viewV_t hg, viewD_blocks, hb]
      simp [lineR, isLine, isBlk, hg, hb]
    | true =>
      have hb' : isBlk F k = true := by simp [isBlk, hg, hb]
      obtain ⟨_, k0, k1⟩ := isBlk_t hF hb'
      have k2 : k.toNat ≤ F.blocks_.length := by omega
      refine pure_of Try.func18 en_18 rfl rfl (W_run mixed ⟨[K_48, K_49, K_41, K_50], [K_48h, K_49h, K_41h, K_50h], [], 38, 0, [0, 1, 2, 3, 6, 7, 8, 33], [13, 19, 33]⟩ (fun _ => []) (by kernel_rfl) ?_)
      simp only [Try.f18, stripX, stripOps, pickOps]
      simp [K_48_f, K_48_e, K_49_f, K_49_e, K_41_f, K_41_e, K_50_f, K_50_e, K_48h_f, K_48h_e, K_49h_f, K_49h_e, K_41h_f, K_41h_e, K_50h_f, K_50h_e, K_48h_g, K_49h_g, K_41h_g, K_50h_g, hF, viewV_t hg, viewD_blocks, hb, k0, k1, k2]
      refine ⟨fun q => ?_, fun q => ?_⟩
      · have q' : inR a 0 (F.blocks_[k.toNat]?.getD default).insts_.length = false := by rw [List.getElem?_eq_getElem (by omega)]; exact q
        simp [lineR, isLine, hb', q']
      · have q' : inR a 0 (F.blocks_[k.toNat]?.getD default).insts_.length = true := by rw [List.getElem?_eq_getElem (by omega)]; exact q
        simp [lineR, isLine, hb', q']
noncomputable def K_16 : Ent Try.prog := Ent.p3 (α := Func) (β := Int) (γ := Int) 16 (fun F k a => Enc.good F) (fun F k a => lineR F k a) (fun F k a hc => lineS_c F k a hc)
theorem K_16_f : K_16.f = 16 := rfl
theorem K_16_e (F0 : Int) (F1 : List Block) (k : Int) (a : Int) : K_16.e [.agg [.d (.int .i64 F0), .d (dBlockS F1)], .d (.int .i64 k), .d (.int .i64 a)] = some (Enc.good (Func.mk F0 F1), lineR (Func.mk F0 F1) k a, []) := by unfold K_16; exact Ent.p3_eq (α := Func) (β := Int) (γ := Int) (Func.mk F0 F1) k a
noncomputable def K_16h : EntH Try.prog := EntH.pk3 (α := Func) (β := Int) (γ := Int) 16 (fun F k a => Enc.good F) (fun F k a => lineR F k a) (fun F k a => []) (fun F k a hc => PureP.ans (lineS_c F k a hc))
theorem K_16h_f : K_16h.f = 16 := rfl
theorem K_16h_g : K_16h.gro = true := rfl
theorem K_16h_e {x1 x2 x3 : V} {H : Heap} : K_16h.e [x1, x2, x3] H = guardR ((decA (α := Func) H x1).1 ∧ (decA (α := Int) H x2).1 ∧ (decA (α := Int) H x3).1) (peekR (Enc.good (decA (α := Func) H x1).2) (lineR (decA (α := Func) H x1).2 (decA (α := Int) H x2).2 (decA (α := Int) H x3).2) ([]) H) := rfl
noncomputable def K_18 : Ent Try.prog := Ent.p3 (α := Func) (β := Int) (γ := Int) 18 (fun F k a => Enc.good F) (fun F k a => lineR F k a) (fun F k a hc => lineI_c F k a hc)
theorem K_18_f : K_18.f = 18 := rfl
theorem K_18_e (F0 : Int) (F1 : List Block) (k : Int) (a : Int) : K_18.e [.agg [.d (.int .i64 F0), .d (dBlockS F1)], .d (.int .i64 k), .d (.int .i64 a)] = some (Enc.good (Func.mk F0 F1), lineR (Func.mk F0 F1) k a, []) := by unfold K_18; exact Ent.p3_eq (α := Func) (β := Int) (γ := Int) (Func.mk F0 F1) k a
noncomputable def K_18h : EntH Try.prog := EntH.pk3 (α := Func) (β := Int) (γ := Int) 18 (fun F k a => Enc.good F) (fun F k a => lineR F k a) (fun F k a => []) (fun F k a hc => PureP.ans (lineI_c F k a hc))
theorem K_18h_f : K_18h.f = 18 := rfl
theorem K_18h_g : K_18h.gro = true := rfl
theorem K_18h_e {x1 x2 x3 : V} {H : Heap} : K_18h.e [x1, x2, x3] H = guardR ((decA (α := Func) H x1).1 ∧ (decA (α := Int) H x2).1 ∧ (decA (α := Int) H x3).1) (peekR (Enc.good (decA (α := Func) H x1).2) (lineR (decA (α := Func) H x1).2 (decA (α := Int) H x2).2 (decA (α := Int) H x3).2) ([]) H) := rfl
theorem law_LineOf (F : Func) (k a : Int) (hF : Enc.good F) : PureP Try.prog 4 [vFunc F, .d (.int .i64 k), .d (.int .i64 a)] (· = .d (.bool true)) := by
  by_cases hw : szFunc F 1048576 < 0
  · refine pure_of Try.func4 en_4 rfl rfl (W_run mixed ⟨[K_15, K_17, K_16, K_18, K_19], [K_15h, K_17h, K_16h, K_18h, K_19h], [], 48, 0, [0, 1, 2, 3, 6, 7, 8, 9, 10, 11, 12, 17, 42, 47], [17, 38, 42, 47]⟩ (fun | 10 => [0, 1, 2, 3, 4] | _ => []) (by kernel_rfl) ?_)
    simp only [Try.f4, stripX, stripOps, pickOps]
    simp [K_15_f, K_15_e, K_17_f, K_17_e, K_16_f, K_16_e, K_18_f, K_18_e, K_19_f, K_19_e, K_15h_f, K_15h_e, K_17h_f, K_17h_e, K_16h_f, K_16h_e, K_18h_f, K_18h_e, K_19h_f, K_19h_e, K_15h_g, K_17h_g, K_16h_g, K_18h_g, K_19h_g, hF, hw]
  have hs : Sm.sm F := (szok_Func F 1048576 hF (by decide) (by decide) (by omega)).1
  by_cases hl : isLine F k a = true
  · refine pure_of Try.func4 en_4 rfl rfl (W_run mixed ⟨[K_15, K_17, K_16, K_18, K_19], [K_15h, K_17h, K_16h, K_18h, K_19h], [], 48, 0, [0, 1, 2, 3, 6, 7, 8, 9, 10, 11, 12, 17, 42, 47], [17, 38, 42, 47]⟩ (fun | 10 => [0, 1, 2, 3, 4] | _ => []) (by kernel_rfl) ?_)
    simp only [Try.f4, stripX, stripOps, pickOps]
    simp [K_15_f, K_15_e, K_17_f, K_17_e, K_16_f, K_16_e, K_18_f, K_18_e, K_19_f, K_19_e, K_15h_f, K_15h_e, K_17h_f, K_17h_e, K_16h_f, K_16h_e, K_18h_f, K_18h_e, K_19h_f, K_19h_e, K_15h_g, K_17h_g, K_16h_g, K_18h_g, K_19h_g, hF, hs, hw, lineR, hl]
  · refine pure_of Try.func4 en_4 rfl rfl (W_run mixed ⟨[K_15, K_17, K_16, K_18, K_19], [K_15h, K_17h, K_16h, K_18h, K_19h], [], 48, 0, [0, 1, 2, 3, 6, 7, 8, 9, 10, 11, 12, 17, 42, 47], [17, 38, 42, 47]⟩ (fun | 10 => [0, 1, 2, 3, 4] | _ => []) (by kernel_rfl) ?_)
    simp only [Try.f4, stripX, stripOps, pickOps]
    simp [K_15_f, K_15_e, K_17_f, K_17_e, K_16_f, K_16_e, K_18_f, K_18_e, K_19_f, K_19_e, K_15h_f, K_15h_e, K_17h_f, K_17h_e, K_16h_f, K_16h_e, K_18h_f, K_18h_e, K_19h_f, K_19h_e, K_15h_g, K_17h_g, K_16h_g, K_18h_g, K_19h_g, hF, hs, hw, lineR, hl]
namespace fnExactLineOf
open Go.ChangeShapes Go.WideShapes Go.RowKit
theorem own : ownKnob Try.prog.godebug = none := by kernel_rfl
theorem lifted (os : Os) (started : os.Started) (H : Type) (enc : TypeId × Value → H) :
    ReturnsInHanded {} Try.checked os 4 .any (Rows.fnExactLineOfSpec.pre6 enc Try.prog Try.f4 Rows.fnExactLineOfRow.domain false) (Rows.fnExactLineOfSpec.post enc Try.prog Try.f4 false true false false) := by
  refine returnsInHanded_of_change (C := Try.checked) own started (by kernel_rfl) Try.func4
    (ChangeSpec.witness6 (enc := enc) (C := Try.checked) false ⟨#[], #[.agg #[.int .i64 0, .slice none 0 0], .int .i64 0, .int .i64 0], []⟩ 8 (by kernel_rfl) (by kernel_rfl) (by kernel_rfl) (by kernel_rfl)) ?_
  intro W base args ds gs before hval hW hcnd _
  have hW' := hW
  obtain ⟨p, q, hA, hV, _, _, _⟩ := hW
  rw [Try.params4] at hA hval
  obtain ⟨v0, vs0, d0, ds0, p0, q0, hargs, rfl, rfl, h0, r0⟩ := trodAll_cons hA
  obtain ⟨v1, vs1, d1, ds1, p1, q1, rfl, rfl, rfl, h1, r1⟩ := trodAll_cons r0
  obtain ⟨v2, vs2, d2, ds2, p2, q2, rfl, rfl, rfl, h2, r2⟩ := trodAll_cons r1
  obtain ⟨rfl, rfl, rfl⟩ := trodAll_nil r2
  obtain rfl : args = #[v0, v1, v2] := by cases args; simp_all
  obtain ⟨F, hF, hv0⟩ := arg_of rd_Func (hval 0 27 v0 rfl rfl) h0
  obtain ⟨k, hk, hv1⟩ := arg_of rd_int (hval 1 3 v1 rfl rfl) h1
  obtain ⟨a, ha, hv2⟩ := arg_of rd_int (hval 2 3 v2 rfl rfl) h2
  obtain ⟨rfl, rfl⟩ := trodVars_none hV
  exact row_end (by kernel_rfl) (by kernel_rfl) (by kernel_rfl) Try.underlying4 hW' rfl rfl rfl rfl (vs := [argV F, argV k, argV a]) (by exact ⟨v0, _, rfl, hv0, ⟨v1, _, rfl, hv1, ⟨v2, _, rfl, hv2, rfl⟩⟩⟩) (law_LineOf F k a hF)
theorem over : Rows.fnExactLineOfRow.holds Try.pinned (OpenSpec.ofChange Rows.fnExactLineOfSpec) :=
  OpenClaim.holds_of_wide 4 Try.f4 rfl rfl rfl rfl rfl rfl rfl ⟨rfl, rfl, rfl, rfl, rfl⟩ rfl rfl rfl rfl rfl (by kernel_rfl) Try.func4 (by kernel_rfl)
    (of_decide_eq_true (by kernel_rfl)) (by unfold Func.isWrapper; first | (rw [if_pos (by decide +kernel)]; kernel_rfl) | (rw [if_neg (by decide +kernel)]; exact ⟨rfl, rfl⟩))
    (fun os started H enc _ => lifted os started H enc)
end fnExactLineOf
/-- The row. -/
theorem fnExactLineOf_holds : Rows.FnExactLineOfSaid := fnExactLineOf.over
end Go.Proofs.Ytpakdkiceoknjaa
