/- Contracts of ArgsOf of both programs; the program's answer owns its memory. No condition. -/
import Derived.Test.YtbmloeahcdneaaaGreatS33
import Derived.Test.YtbmloeahcdneaaaGreatS24
namespace Go.Proofs.YtbmloeahcdneaaaGreat
set_option maxRecDepth 100000
set_option linter.unusedSimpArgs false
set_option linter.unusedVariables false
theorem new_nil (H : Heap) : New H H (⟨.d .nilsl, []⟩ : AS Int) := ⟨⟨⟨.inr ⟨rfl, .inl rfl⟩, fun a ha => absurd ha List.not_mem_nil⟩, fun q hq => absurd hq List.not_mem_nil, List.nodup_nil⟩, Only.refl _ _, fun j hj => absurd hj List.not_mem_nil, fun i p hi hp => by rw [List.getElem?_eq_none (by omega)] at hp; cases hp⟩
theorem own_nil (H : Heap) : Own H (⟨.d .nilsl, []⟩ : AS Int) := ⟨⟨.inr ⟨rfl, .inl rfl⟩, fun a ha => absurd ha List.not_mem_nil⟩, fun q hq => absurd hq List.not_mem_nil, List.nodup_nil⟩
/-- The end of a call that answers no slice. -/
theorem fin_nil {H R : Heap} {r : V} {Q : V → Heap → Prop} (hq : ∀ H', New H H' (⟨.d .nilsl, []⟩ : AS Int) → Q r H') : ∃ r' H', Fin H.length (H ++ R) r H' r' ∧ Q r' H' :=
  fin_new (own_nil _) (Only.app _ _ _) (fun j hj => absurd hj List.not_mem_nil) hq
/-- The end of a call that answers a slice of numbers of its own. -/
theorem fin_ints {H R : Heap} {l : List Int} {id : Nat} {r : V} {Q : V → Heap → Prop} (hr : (H ++ R)[id]? = some (.row 1 (rI l))) (hid : H.length ≤ id) (hq : ∀ H', New H H' (⟨.sl id 1 0 l.length, l⟩ : AS Int) → Q r H') : ∃ r' H', Fin H.length (H ++ R) r H' r' ∧ Q r' H' := by
  refine fin_new (a := (⟨.sl id 1 0 l.length, l⟩ : AS Int)) (Own.mkS (ownL_ints l) hr (by rw [ids_ints]; exact List.not_mem_nil)) (Only.app _ _ _) (fun j hj => ?_) hq
  rw [ids_sl (s := (⟨.sl id 1 0 l.length, l⟩ : AS Int)) rfl, ids_ints] at hj
  rw [List.mem_singleton.1 hj]; exact hid
theorem cloneInts_own (H : Heap) (l : List Int) (hl : l.length ≤ 1000) : CallsD Tryz.prog 90 [.d (dIntS l)] H fun r H' => ∃ s : AS Int, r = s.v ∧ s.l = l ∧ New H H' s := by
  by_cases h0 : l = []
  · subst h0
    refine calls_of Tryz.func90 en_90 rfl (of_decide_eq_true rfl) (W_run mixed ⟨[], [], [], 8, H.length, [0, 2, 4], [4]⟩ (fun _ => []) (by kernel_rfl) ?_)
    simp only [Tryz.f90, stripX, stripOps, pickOps]
    simp [-V.flat, -V.one, one_int, one_bool, one_str, one_nilp, one_rp, one_nilsl, one_ro, one_cl, one_nilf, one_nili, one_ifc, one_ptr, one_sl, one_clo, flat_d, flat_ptr, flat_sl, flat_clo, flat_agg, retQ]
    refine ⟨⟨_, _, Fin.same (Nat.le_refl _), ⟨.d .nilsl, []⟩, rfl, rfl, new_nil H⟩, ?_⟩
    exact fin_ints (l := []) (id := H.length + 1) (by rw [List.getElem?_append_right (by omega), Nat.add_sub_cancel_left]; rfl) (by omega) fun H' h' => ⟨_, rfl, rfl, h'⟩
  · have hp : 0 < l.length := List.length_pos_iff.2 h0
    have hu := upto_all l
    refine calls_of Tryz.func90 en_90 rfl (of_decide_eq_true rfl) (W_run mixed ⟨[], [], [], 8, H.length, [0, 2, 4], [4]⟩ (fun _ => []) (by kernel_rfl) ?_)
    simp only [Tryz.f90, stripX, stripOps, pickOps]
    simp [-V.flat, -V.one, one_int, one_bool, one_str, one_nilp, one_rp, one_nilsl, one_ro, one_cl, one_nilf, one_nili, one_ifc, one_ptr, one_sl, one_clo, flat_d, flat_ptr, flat_sl, flat_clo, flat_agg, retQ, hp, hu]
    refine ⟨by omega, ?_⟩
    exact fin_ints (l := l) (id := H.length + 1) (by rw [List.getElem?_append_right (by omega), Nat.add_sub_cancel_left]; rfl) (by omega) fun H' h' => ⟨_, rfl, rfl, h'⟩
/-- What an instruction uses; nothing where the value is none. -/
def argL (F : Func) (n : Int) : List Int := if isVal F n = true ∧ 0 ≤ (instS F n F.blocks_ 0).1 then (insAt F n).args_ else []
theorem argL_len {F : Func} {n : Int} : (argL F n).length ≤ 1000 := by
  unfold argL
  split
  · rename_i h
    obtain ⟨hg, a0, a1⟩ := isVal_t h.1
    obtain ⟨q1, q2⟩ := good_insts hg a0 a1 h.2
    exact ((good_vals hg q2).2.1 _ q1).1
  · simp
end Go.Proofs.YtbmloeahcdneaaaGreat
