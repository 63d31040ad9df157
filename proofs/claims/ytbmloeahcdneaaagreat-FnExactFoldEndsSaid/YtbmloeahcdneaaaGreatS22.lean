/- Contracts of what both programs ask first of a function: that it is sound. No condition. -/
import Derived.Test.YtbmloeahcdneaaaGreatS21
namespace Go.Proofs.YtbmloeahcdneaaaGreat
set_option maxRecDepth 100000
set_option linter.unusedSimpArgs false
set_option linter.unusedVariables false
noncomputable def soundF (F : Func) : Bool := goodF F && decide ((checkS F).1 = 0)
theorem asked_c (F : Func) (hF : Enc.good F) : PureP Tryz.prog 42 [vFunc F] (· = .d (.bool (soundF F))) := by
  cases hg : goodF F with
  | false =>
    refine pure_of Tryz.func42 en_42 rfl rfl (W_run mixed ⟨[K_77, K_78], [K_77h, K_78h], [], 15, 0, [0, 1, 2, 3, 7], [7]⟩ (fun _ => []) (by kernel_rfl) ?_)
    simp only [Tryz.f42, stripX, stripOps, pickOps]
    simp [K_77_f, K_77_e, K_78_f, K_78_e, K_77h_f, K_77h_e, K_78h_f, K_78h_e, K_77h_g, K_78h_g, hF, checkR, hg]
    simp [soundF, hg]
  | true =>
    refine pure_of Tryz.func42 en_42 rfl rfl (W_run mixed ⟨[K_77, K_78], [K_77h, K_78h], [], 15, 0, [0, 1, 2, 3, 7], [7]⟩ (fun _ => []) (by kernel_rfl) ?_)
    simp only [Tryz.f42, stripX, stripOps, pickOps]
    simp [K_77_f, K_77_e, K_78_f, K_78_e, K_77h_f, K_77h_e, K_78h_f, K_78h_e, K_77h_g, K_78h_g, hF, hg, soundF]
    exact ⟨good_flow hg, good_end hg⟩
noncomputable def soundV (F : Func) : D := if soundF F = true then .rp 3 (dWays (waysV (viewD F))) else .nilp
theorem soundOf_c (F : Func) (hF : Enc.good F) : PureP Tryz.prog 46 [vFunc F] (· = .d (soundV F)) := by
  cases hg : goodF F with
  | false =>
    refine pure_of Tryz.func46 en_46 rfl rfl (W_run mixed ⟨[K_84, K_85, K_86], [K_84h, K_85h, K_86h], [], 16, 0, [0, 1, 2, 3, 4, 8, 14], [8, 14]⟩ (fun _ => []) (by kernel_rfl) ?_)
    simp only [Tryz.f46, stripX, stripOps, pickOps]
    simp [K_84_f, K_84_e, K_85_f, K_85_e, K_86_f, K_86_e, K_84h_f, K_84h_e, K_85h_f, K_85h_e, K_86h_f, K_86h_e, K_84h_g, K_85h_g, K_86h_g, hF, viewV_f hg]
    simp [soundV, soundF, hg]
  | true =>
    have hf := good_flow hg
    obtain ⟨hv1, hn1, hp1⟩ := hf
    have hp2 : 0 < (nextL F.blocks_).length := by simp [nextL]; omega
    have hok := okF_good hg
    refine pure_of Tryz.func46 en_46 rfl rfl (W_run mixed ⟨[K_84, K_85, K_86], [K_84h, K_85h, K_86h], [], 16, 0, [0, 1, 2, 3, 4, 8, 14], [8, 14]⟩ (fun _ => []) (by kernel_rfl) ?_)
    simp only [Tryz.f46, stripX, stripOps, pickOps]
    simp [K_84_f, K_84_e, K_85_f, K_85_e, K_86_f, K_86_e, K_84h_f, K_84h_e, K_85h_f, K_85h_e, K_86h_f, K_86h_e, K_84h_g, K_85h_g, K_86h_g, hF, viewV_t hg, viewD_blocks, hv1, hn1, hp2, hok]
    rw [fault_same hg]
    refine ⟨fun q => ?_, fun q => ?_⟩ <;> simp [soundV, soundF, hg, q]
noncomputable def K_42 : Ent Tryz.prog := Ent.p1 (α := Func) 42 (fun F => Enc.good F) (fun F => .d (.bool (soundF F))) (fun F hc => asked_c F hc)
theorem K_42_f : K_42.f = 42 := rfl
theorem K_42_e (F0 : Int) (F1 : List Block) : K_42.e [.agg [.d (.int .i64 F0), .d (dBlockS F1)]] = some (Enc.good (Func.mk F0 F1), .d (.bool (soundF (Func.mk F0 F1))), []) := by unfold K_42; exact Ent.p1_eq (α := Func) (Func.mk F0 F1)
noncomputable def K_42h : EntH Tryz.prog := EntH.pk1 (α := Func) 42 (fun F => Enc.good F) (fun F => .d (.bool (soundF F))) (fun F => []) (fun F hc => PureP.ans (asked_c F hc))
theorem K_42h_f : K_42h.f = 42 := rfl
theorem K_42h_g : K_42h.gro = true := rfl
theorem K_42h_e {x1 : V} {H : Heap} : K_42h.e [x1] H = guardR ((decA (α := Func) H x1).1) (peekR (Enc.good (decA (α := Func) H x1).2) (.d (.bool (soundF (decA (α := Func) H x1).2))) ([]) H) := rfl
noncomputable def K_46 : Ent Tryz.prog := Ent.p1 (α := Func) 46 (fun F => Enc.good F) (fun F => .d (soundV F)) (fun F hc => soundOf_c F hc)
theorem K_46_f : K_46.f = 46 := rfl
theorem K_46_e (F0 : Int) (F1 : List Block) : K_46.e [.agg [.d (.int .i64 F0), .d (dBlockS F1)]] = some (Enc.good (Func.mk F0 F1), .d (soundV (Func.mk F0 F1)), []) := by unfold K_46; exact Ent.p1_eq (α := Func) (Func.mk F0 F1)
noncomputable def K_46h : EntH Tryz.prog := EntH.pk1 (α := Func) 46 (fun F => Enc.good F) (fun F => .d (soundV F)) (fun F => []) (fun F hc => PureP.ans (soundOf_c F hc))
theorem K_46h_f : K_46h.f = 46 := rfl
theorem K_46h_g : K_46h.gro = true := rfl
theorem K_46h_e {x1 : V} {H : Heap} : K_46h.e [x1] H = guardR ((decA (α := Func) H x1).1) (peekR (Enc.good (decA (α := Func) H x1).2) (.d (soundV (decA (α := Func) H x1).2)) ([]) H) := rfl
end Go.Proofs.YtbmloeahcdneaaaGreat
