/- Contracts of the program's ways from block to block. No condition. -/
import Derived.Test.YtbmloeahcdneaaaGreatQS6
namespace Go.Proofs.YtbmloeahcdneaaaGreat
set_option maxRecDepth 100000
set_option linter.unusedSimpArgs false
set_option linter.unusedVariables false
def tos (b : Block) : List Int := b.jumps_.map (·.to_)
def nextL (bs : List Block) : List (List Int) := bs.map tos
theorem nextL_get (bs : List Block) (i : Nat) : (nextL bs)[i]?.getD default = tos (bs[i]?.getD default) := by
  unfold nextL
  rw [List.getElem?_map]
  cases bs[i]? <;> rfl
@[simp] theorem fillR_ren1 (σ : List Nat) (n i : Nat) (g : Nat → D) (z : D) : (fillR n i (fun j => [V.d (g j)]) [.d z]).map (renL σ) = fillR n i (fun j => [V.d (g j)]) [.d z] := by
  unfold fillR
  rw [List.map_map]
  refine List.map_congr_left fun j _ => ?_
  simp only [Function.comp]
  split <;> rfl
@[simp] theorem fillR_below1 (m n i : Nat) (g : Nat → D) (z : D) : (∀ x ∈ fillR n i (fun j => [V.d (g j)]) [.d z], ∀ c ∈ x, c.under m = true) = True :=
  eq_true (fillR_under (by simp) (by simp))
theorem fits_same (σ : List Nat) (H0 : Heap) (n i : Nat) (g : Nat → D) (z : D) : fitsR σ H0 (fillR n i (fun j => [V.d (g j)]) [.d z]) (fillR n i (fun j => [V.d (g j)]) [.d z]) := .inl (fillR_ren1 ..).symm
theorem fits_fill (σ : List Nat) (H0 : Heap) {n i : Nat} (g : Nat → D) (z : D) {c : V} (hi : i < n) (hg : ∀ j, (V.d (g j)).one = true) (hz : (V.d z).one = true) (hc : DLe (closeK σ H0 4 c) (g i)) :
    fitsR σ H0 ((fillR n i (fun j => [V.d (g j)]) [.d z]).set i [c]) (fillR n (i + 1) (fun j => [V.d (g j)]) [.d z]) := by
  refine .inr ⟨by simp, fun k hk => ?_⟩
  simp only [fillR_length] at hk
  rw [fillR_get _ _ _ _ hk, List.getElem?_set]
  by_cases e : i = k
  · subst e
    rw [if_pos rfl, if_pos (by simpa using hi), if_pos (Nat.lt_succ_self _)]
    exact ⟨⟨hc, hg _⟩, rfl⟩
  · rw [if_neg e, fillR_get _ _ _ _ hk]
    by_cases h : k < i
    · rw [if_pos h, if_pos (by omega)]
      exact ⟨⟨by show DLe (closeK σ H0 4 (.d (g k))) (g k); rw [closeK_d]; exact DLe.refl _, hg k⟩, rfl⟩
    · rw [if_neg h, if_neg (by omega)]
      exact ⟨⟨by show DLe (closeK σ H0 4 (.d z)) z; rw [closeK_d]; exact DLe.refl _, hz⟩, rfl⟩
theorem fillR_hole {n i : Nat} {f : Nat → List V} {z : List V} (h : i < n) : (fillR n i f z).set i z = fillR n i f z := by
  refine List.ext_getElem? fun k => ?_
  rw [List.getElem?_set]
  by_cases e : i = k
  · subst e
    rw [if_pos rfl, if_pos (by simpa using h), fillR_at _ _ _ _ h]
  · rw [if_neg e]
@[simp 2000] theorem setR_hole {n i k id e e' j size : Nat} {f : Nat → List V} {z l0 l : List V} {H : Heap} : setR ((fillR n i f z).set k l0) id k e e' j size l H =
    guardR (k < n ∧ e' = e ∧ l.length = size ∧ j + size ≤ e ∧ ones l = true) (.ok (.tup []) (H.set id (.row e ((fillR n i f z).set k (setMany l0 j l))))) := by
  unfold setR
  refine guardR_congr (by simp) fun h => ?_
  have h1 : k < (fillR n i f z).length := by simpa using h.1
  rw [List.getElem?_set, if_pos rfl, if_pos h1, List.set_set]
  rfl
@[simp 2000] theorem elR_hole {n i k e e' j size : Nat} {agg : Bool} {f : Nat → List V} {z l0 : List V} {H : Heap} : elR ((fillR n i f z).set k l0) k e e' j size agg H =
    guardR (k < n ∧ e' = e ∧ j + size ≤ e ∧ (agg = true ∨ size = 1)) (.ok (asVal agg ((l0.drop j).take size)) H) := by
  unfold elR
  refine guardR_congr (by simp) fun h => ?_
  have h1 : k < (fillR n i f z).length := by simpa using h.1
  rw [List.getElem?_set, if_pos rfl, if_pos h1]
  rfl
def fewJumps (bs : List Block) : Prop := bs.length ≤ 8 ∧ ∀ b ∈ bs, b.jumps_.length ≤ 2
theorem next_c (v : View) (hv : fewJumps v.blocks_) : PureP Tryz.prog 106 [.d (.rp 5 (dView v))] (· = .d (dIntSS (nextL v.blocks_))) := by
  obtain ⟨h8, h2⟩ := hv
  have e1 : ¬ (140737488355328 : Int) < v.blocks_.length := by omega
  refine PureP.le (pure_of Tryz.func106 en_106 rfl rfl (W_run mixed ⟨[], [], [], 47, 0, [0, 2, 3, 4, 5, 7, 19, 20, 21, 22, 27, 28, 29, 30], [22, 30]⟩ (fun | 8 => [0, 1, 2, 3, 4, 6, 5, 7, 8, 9, 10, 11] | _ => []) (by kernel_rfl) ?_))
  simp only [Tryz.f106, stripX, stripOps, pickOps]
  simp []
  rw [fillR_zero _ (fun j => [.d (dIntS (tos (v.blocks_[j]?.getD default)))])]
  refine ⟨by omega, ?_⟩
  refine W_loopF (fun i : Nat => [(3, .sl 0 1 0 v.blocks_.length), (19, .d (dBlockS v.blocks_)), (20, .d (.int .i64 v.blocks_.length)), (21, .d (.int .i64 i))])
    (fun i => [.row 1 (fillR v.blocks_.length i (fun j => [.d (dIntS (tos (v.blocks_[j]?.getD default)))]) [.d .nilsl])]) (fun i => i ≤ v.blocks_.length) (fun i => v.blocks_.length - i) 0 [0] ?_ ?_ ?_
  · simp
    exact fits_same ..
  · simp
  intro i hi
  refine W_run mixed ⟨[], [], [], 47, 0, [0, 2, 3, 4, 5, 7, 19, 20, 21, 22, 27, 28, 29, 30], [22, 30]⟩ (fun | 8 => [0, 1, 2, 3, 4, 6, 5, 7, 8, 9, 10, 11] | _ => []) (by kernel_rfl) ?_
  simp only [stripX, stripOps, pickOps]
  simp []
  refine ⟨fun h => ⟨h, ?_⟩, fun h => ?_⟩
  · have hj := h2 (v.blocks_[i]?.getD default) (by rw [List.getElem?_eq_getElem h]; exact List.getElem_mem h)
    have hin : ∀ js, (v.blocks_[i]?.getD default).jumps_ = js → tos (v.blocks_[i]?.getD default) = js.map (·.to_) := fun js e => by rw [tos, e]
    have w1 : IntKind.i64.wrap 1 = 1 := by decide
    have w2 : IntKind.i64.wrap 2 = 2 := by decide
    have wi : IntKind.i64.wrap ((i : Int) + 1) = ((i + 1 : Nat) : Int) := by rw [wrap_id] <;> omega
    match hjs : (v.blocks_[i]?.getD default).jumps_, hj with
    | [], _ =>
      refine W_rounds 1 (WR_succ ?_)
      refine W_run mixed ⟨[], [], [], 47, 0, [0, 2, 3, 4, 5, 7, 19, 20, 21, 22, 27, 28, 29, 30], [22, 30]⟩ (fun | 8 => [0, 1, 2, 3, 4, 6, 5, 7, 8, 9, 10, 11] | _ => []) (by kernel_rfl) ?_
      simp only [stripX, stripOps, pickOps]
      simp [hjs]
      refine ⟨i + 1, by omega, by omega, [0], by simp, ⟨⟨⟨rfl, ?_⟩, by simp⟩, rfl⟩, by simp, by rw [wi]; exact DLe.refl _⟩
      have := fun H0 => fits_fill [0] H0 (fun j => dIntS (tos (v.blocks_[j]?.getD default))) .nilsl (c := .d .nilsl) h (fun _ => rfl) rfl (by rw [closeK_d, hin _ hjs]; exact rfl)
      simp only [fillR_hole h] at this
      exact this _
    | [a], _ =>
      refine W_rounds 2 (WR_succ ?_)
      refine W_run mixed ⟨[], [], [], 47, 0, [0, 2, 3, 4, 5, 7, 19, 20, 21, 22, 27, 28, 29, 30], [22, 30]⟩ (fun | 8 => [0, 1, 2, 3, 4, 6, 5, 7, 8, 9, 10, 11] | _ => []) (by kernel_rfl) ?_
      simp only [stripX, stripOps, pickOps]
      simp [hjs, w1]
      refine ⟨h, WR_succ ?_⟩
      refine W_run mixed ⟨[], [], [], 47, 0, [0, 2, 3, 4, 5, 7, 19, 20, 21, 22, 27, 28, 29, 30], [22, 30]⟩ (fun | 8 => [0, 1, 2, 3, 4, 6, 5, 7, 8, 9, 10, 11] | _ => []) (by kernel_rfl) ?_
      simp only [stripX, stripOps, pickOps]
      simp [hjs, w1]
      refine ⟨i + 1, by omega, by omega, [0], by simp, ⟨⟨⟨rfl, ?_⟩, by simp⟩, rfl⟩, by simp, by rw [wi]; exact DLe.refl _⟩
      refine fits_fill [0] _ (fun j => dIntS (tos (v.blocks_[j]?.getD default))) .nilsl h (fun _ => rfl) rfl ?_
      rw [hin _ hjs]
      simp [closeK, DLe]
    | [a, b], _ =>
      refine W_rounds 3 (WR_succ ?_)
      refine W_run mixed ⟨[], [], [], 47, 0, [0, 2, 3, 4, 5, 7, 19, 20, 21, 22, 27, 28, 29, 30], [22, 30]⟩ (fun | 8 => [0, 1, 2, 3, 4, 6, 5, 7, 8, 9, 10, 11] | _ => []) (by kernel_rfl) ?_
      simp only [stripX, stripOps, pickOps]
      simp [hjs, w1]
      refine ⟨h, WR_succ ?_⟩
      refine W_run mixed ⟨[], [], [], 47, 0, [0, 2, 3, 4, 5, 7, 19, 20, 21, 22, 27, 28, 29, 30], [22, 30]⟩ (fun | 8 => [0, 1, 2, 3, 4, 6, 5, 7, 8, 9, 10, 11] | _ => []) (by kernel_rfl) ?_
      simp only [stripX, stripOps, pickOps]
      simp [hjs, w1, w2]
      refine ⟨h, WR_succ ?_⟩
      refine W_run mixed ⟨[], [], [], 47, 0, [0, 2, 3, 4, 5, 7, 19, 20, 21, 22, 27, 28, 29, 30], [22, 30]⟩ (fun | 8 => [0, 1, 2, 3, 4, 6, 5, 7, 8, 9, 10, 11] | _ => []) (by kernel_rfl) ?_
      simp only [stripX, stripOps, pickOps]
      simp [hjs, w1, w2]
      refine ⟨i + 1, by omega, by omega, [0], by simp, ⟨⟨⟨rfl, ?_⟩, by simp⟩, rfl⟩, by simp, by rw [wi]; exact DLe.refl _⟩
      refine fits_fill [0] _ (fun j => dIntS (tos (v.blocks_[j]?.getD default))) .nilsl h (fun _ => rfl) rfl ?_
      rw [hin _ hjs]
      simp [closeK, DLe]
      intro k hk
      rcases (by omega : k = 0 ∨ k = 1) with rfl | rfl <;> simp
  · have e : i = v.blocks_.length := by omega
    subst e
    refine ⟨rfl, by simp [nextL], fun k hk j hj => ?_⟩
    dsimp only
    rw [fillR_done _ _ _ hk, nextL_get]
    have : j = 0 := by omega
    subst this
    simp [closeD]
noncomputable def K_106 : Ent Tryz.prog := Ent.p1 (α := Ptr View) 106 (fun v => fewJumps v.v.blocks_) (fun v => .d (dIntSS (nextL v.v.blocks_))) (fun v hc => next_c v.v hc)
theorem K_106_f : K_106.f = 106 := rfl
theorem K_106_e (v : View) : K_106.e [.d (.rp 5 (dView v))] = some (fewJumps v.blocks_, .d (dIntSS (nextL v.blocks_)), []) := by unfold K_106; exact Ent.p1_eq (α := Ptr View) (Ptr.mk v)
noncomputable def K_106h : EntH Tryz.prog := EntH.pk1 (α := Ptr View) 106 (fun v => fewJumps v.v.blocks_) (fun v => .d (dIntSS (nextL v.v.blocks_))) (fun v => []) (fun v hc => PureP.ans (next_c v.v hc))
theorem K_106h_f : K_106h.f = 106 := rfl
theorem K_106h_g : K_106h.gro = true := rfl
theorem K_106h_e {x1 : V} {H : Heap} : K_106h.e [x1] H = guardR ((decA (α := Ptr View) H x1).1) (peekR (fewJumps (decA (α := Ptr View) H x1).2.v.blocks_) (.d (dIntSS (nextL (decA (α := Ptr View) H x1).2.v.blocks_))) ([]) H) := rfl
end Go.Proofs.YtbmloeahcdneaaaGreat
