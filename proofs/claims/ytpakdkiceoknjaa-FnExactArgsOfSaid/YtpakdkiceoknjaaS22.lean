/- Contracts of what both programs ask first of a function: that it is sound. No condition. -/
import Derived.Test.YtpakdkiceoknjaaS21
namespace Go.Proofs.Ytpakdkiceoknjaa
set_option maxRecDepth 100000
set_option linter.unusedSimpArgs false
set_option linter.unusedVariables false
noncomputable def soundF (F : Func) : Bool := goodF F && decide ((checkS F).1 = 0)
theorem asked_c (F : Func) (hF : Enc.good F) : PureP Try.prog 71 [vFunc F] (· = .d (.bool (soundF F))) := by
  cases hg : goodF F with
  | false =>
    refine pure_of Try.func71 en_71 rfl rfl (W_run mixed ⟨[K_57, K_69], [K_57h, K_69h], [], 15, 0, [0, 1, 2, 3, 7], [7]⟩ (fun _ => []) (by kernel_rfl) ?_)
    simp only [Try.f71, stripX, stripOps, pickOps]
    simp [K_57_f, K_57_e, K_69_f, K_69_e, K_57h_f, K_57h_e, K_69h_f, K_69h_e, K_57h_g, K_69h_g, hF, checkR, hg]
    simp [soundF, hg]
  | true =>
    refine pure_of Try.func71 en_71 rfl rfl (W_run mixed ⟨[K_57, K_69], [K_57h, K_69h], [], 15, 0, [0, 1, 2, 3, 7], [7]⟩ (fun _ => []) (by kernel_rfl) ?_)
    simp only [Try.f71, stripX, stripOps, pickOps]
    simp [K_57_f, K_57_e, K_69_f, K_69_e, K_57h_f, K_57h_e, K_69h_f, K_69h_e, K_57h_g, K_69h_g, hF, hg, soundF]
    exact ⟨good_flow hg, good_end hg⟩
noncomputable def soundV (F : Func) : D := if soundF F = true then .rp 3 (dWays (waysV (viewD F))) else .nilp
theorem soundOf_c (F : Func) (hF : Enc.good F) : PureP Try.prog 73 [vFunc F] (· = .d (soundV F)) := by
  cases hg : goodF F with
  | false =>
    refine pure_of Try.func73 en_73 rfl rfl (W_run mixed ⟨[K_48, K_67, K_70], [K_48h, K_67h, K_70h], [], 16, 0, [0, 1, 2, 3, 4, 8, 14], [8, 14]⟩ (fun _ => []) (by kernel_rfl) ?_)
    simp only [Try.f73, stripX, stripOps, pickOps]
    simp [K_48_f, K_48_e, K_67_f, K_67_e, K_70_f, K_70_e, K_48h_f, K_48h_e, K_67h_f, K_67h_e, K_70h_f, K_70h_e, K_48h_g, K_67h_g, K_70h_g, hF, viewV_f hg]
    simp [soundV, soundF, hg]
  | true =>
    have hf := good_flow hg
    obtain ⟨hv1, hn1, hp1⟩ := hf
    have hp2 : 0 < (nextL F.blocks_).length := by simp [nextL]; omega
    have hok := okF_good hg
    refine pure_of Try.func73 en_73 rfl rfl (W_run mixed ⟨[K_48, K_67, K_70], [K_48h, K_67h, K_70h], [], 16, 0, [0, 1, 2, 3, 4, 8, 14], [8, 14]⟩ (fun _ => []) (by kernel_rfl) ?_)
    simp only [Try.f73, stripX, stripOps, pickOps]
    simp [K_48_f, K_48_e, K_67_f, K_67_e, K_70_f, K_70_e, K_48h_f, K_48h_e, K_67h_f, K_67h_e, K_70h_f, K_70h_e, K_48h_g, K_67h_g, K_70h_g, hF, viewV_t hg, viewD_blocks, hv1, hn1, hp2, hok]
    rw [fault_same hg]
    refine ⟨fun q => ?_, fun q => ?_⟩ <;> simp [soundV, soundF, hg, q]
noncomputable def K_71 : Ent Try.prog := Ent.p1 (α := Func) 71 (fun F => Enc.good F) (fun F => .d (.bool (soundF F))) (fun F hc => asked_c F hc)
theorem K_71_f : K_71.f = 71 := rfl
theorem K_71_e (F0 : Int) (F1 : List Block) : K_71.e [.agg [.d (.int .i64 F0), .d (dBlockS F1)]] = some (Enc.good (Func.mk F0 F1), .d (.bool (soundF (Func.mk F0 F1))), []) := by unfold K_71; exact Ent.p1_eq (α := Func) (Func.mk F0 F1)
noncomputable def K_71h : EntH Try.prog := EntH.pk1 (α := Func) 71 (fun F => Enc.good F) (fun F => .d (.bool (soundF F))) (fun F => []) (fun F hc => PureP.ans (asked_c F hc))
theorem K_71h_f : K_71h.f = 71 := rfl
theorem K_71h_g : K_71h.gro = true := rfl
theorem K_71h_e {x1 : V} {H : Heap} : K_71h.e [x1] H = guardR ((decA (α := Func) H x1).1) (peekR (Enc.good (decA (α := Func) H x1).2) (.d (.bool (soundF (decA (α := Func) H x1).2))) ([]) H) := rfl
noncomputable def K_73 : Ent Try.prog := Ent.p1 (α := Func) 73 (fun F => Enc.good F) (fun F => .d (soundV F)) (fun F hc => soundOf_c F hc)
theorem K_73_f : K_73.f = 73 := rfl
theorem K_73_e (F0 : Int) (F1 : List Block) : K_73.e [.agg [.d (.int .i64 F0), .d (dBlockS F1)]] = some (Enc.good (Func.mk F0 F1), .d (soundV (Func.mk F0 F1)), []) := by unfold K_73; exact Ent.p1_eq (α := Func) (Func.mk F0 F1)
noncomputable def K_73h : EntH Try.prog := EntH.pk1 (α := Func) 73 (fun F => Enc.good F) (fun F => .d (soundV F)) (fun F => []) (fun F hc => PureP.ans (soundOf_c F hc))
theorem K_73h_f : K_73h.f = 73 := rfl
theorem K_73h_g : K_73h.gro = true := rfl
theorem K_73h_e {x1 : V} {H : Heap} : K_73h.e [x1] H = guardR ((decA (α := Func) H x1).1) (peekR (Enc.good (decA (α := Func) H x1).2) (.d (soundV (decA (α := Func) H x1).2)) ([]) H) := rfl
end Go.Proofs.Ytpakdkiceoknjaa
