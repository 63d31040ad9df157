/- Redirect of the program, over trees. No condition. -/
import Derived.Test.YtbmloeahcdneaaaGreatS39
import Derived.Test.YtbmloeahcdneaaaGreatS37
import Derived.Test.YtbmloeahcdneaaaGreatS23
namespace Go.Proofs.YtbmloeahcdneaaaGreat
set_option maxRecDepth 100000
set_option linter.unusedSimpArgs false
set_option linter.unusedVariables false
def rdG (fr to x : Int) : Int := if x = fr then to else x
theorem redirect1_wr (ifr ito : Nat) (fr to : Int) : Wr 92 [.ptr ifr 1 0 0, .ptr ito 1 0 0] (fun H => H[ifr]? = some (.row 1 [[.d (.int .i64 fr)]]) ∧ H[ito]? = some (.row 1 [[.d (.int .i64 to)]])) [ifr, ito] (fun _ => True) (rdG fr to) := by
  refine ⟨fun H id e es i j x c hE hH hes hc hce _ hid => ?_, fun H H' hk hE => ⟨(hk _ (by simp)).trans hE.1, (hk _ (by simp)).trans hE.2⟩⟩
  obtain ⟨h1, h2⟩ := hE
  have hil : i < es.length := (List.getElem?_eq_some_iff.1 hes).1
  have hjl : j < c.length := (List.getElem?_eq_some_iff.1 hc).1
  have hje : j + 1 ≤ e := by omega
  have hgi : ∀ h : i < es.length, es[i] = c := fun h => by
    have := List.getElem?_eq_getElem h
    rw [hes] at this
    exact (Option.some.inj this).symm
  have hdt : (c.drop j).take 1 = [.d (.int .i64 x)] := by
    rw [List.drop_eq_getElem_cons hjl]
    have := List.getElem?_eq_getElem hjl
    rw [hc] at this
    rw [← Option.some.inj this]; rfl
  have hidl : id < H.length := (List.getElem?_eq_some_iff.1 hH).1
  have set_self : ∀ {γ : Type} (l : List γ) (i : Nat) (x : γ), l[i]? = some x → l.set i x = l := fun l i x h => by
    refine List.ext_getElem? fun j => ?_
    rw [List.getElem?_set]
    split
    · rename_i e; subst e; rw [if_pos (List.getElem?_eq_some_iff.1 h).1, h]
    · rfl
  by_cases hx : x = fr
  · have hg : rdG fr to x = to := by simp [rdG, hx]
    rw [hg]
    refine calls_of Tryz.func92 en_92 rfl (of_decide_eq_true rfl) (W_run mixed ⟨[], [], [], 12, H.length, [0, 1, 2, 8], [8]⟩ (fun | 0 => [0, 1, 2, 3, 4] | _ => []) (by kernel_rfl) ?_)
    simp only [Tryz.f92, stripX, stripOps, pickOps]
    simp [retQ, hH, hil, hgi, hdt, hje, h1, h2, hx]
    exact Fin.same (by simp)
  · have hg : rdG fr to x = x := by simp [rdG, hx]
    rw [hg, set_self c j _ hc, set_self es i _ hes, set_self H id _ hH]
    refine calls_of Tryz.func92 en_92 rfl (of_decide_eq_true rfl) (W_run mixed ⟨[], [], [], 12, H.length, [0, 1, 2, 8], [8]⟩ (fun | 0 => [0, 1, 2, 3, 4] | _ => []) (by kernel_rfl) ?_)
    simp only [Tryz.f92, stripX, stripOps, pickOps]
    simp [retQ, hH, hil, hgi, hdt, hje, h1, h2, hx]
    exact Fin.same (by simp)
theorem redirect_own (H : Heap) (A : AFunc) (idf : Nat) (fr to : Int) (hf : H[idf]? = some (.row 2 [[.d (.int .i64 A.params_), A.blocks_.v]])) (hO : Own H A) (hn : idf ∉ ids A) (hl : smallA A) :
    CallsD Tryz.prog 49 [.ptr idf 2 0 0, .d (.int .i64 fr), .d (.int .i64 to)] H fun r H' => r = .tup [] ∧ ∃ bs : AS ABlock, Own H' bs ∧ bs.v = A.blocks_.v ∧ ids bs = ids A.blocks_ ∧ Only (ids A.blocks_) H H' ∧ Tr.era bs = (Tr.era A.blocks_).map (mpB (rdG fr to)) := by
  have hlt : ∀ j ∈ ids A, j < H.length := fun j hj => hO.lt hj
  have hfl := (List.getElem?_eq_some_iff.1 hf).1
  refine calls_of Tryz.func49 en_49 rfl (of_decide_eq_true rfl) (W_run mixed ⟨[], [], [91], 9, H.length, [0, 1, 2, 4, 5], []⟩ (fun _ => []) (by kernel_rfl) ?_)
  simp only [Tryz.f49, stripX, stripOps, pickOps]
  simp [-V.flat, -V.one, one_int, one_bool, one_str, one_nilp, one_rp, one_nilsl, one_ro, one_cl, one_nilf, one_nili, one_ifc, one_ptr, one_sl, one_clo, flat_d, flat_ptr, flat_sl, flat_clo, flat_agg, retQ]
  refine (usesT (redirect1_wr H.length (H.length + 1) fr to) (A := A) (idf := idf) ?_ ⟨by simp, by simp⟩ (hO.frame (Only.app [] _ _) fun j _ hj => absurd hj List.not_mem_nil) hn (fun k hk => ⟨fun q => ?_, ?_⟩) (fun _ _ _ _ => trivial) hl).mono ?_
  · rw [List.getElem?_append_left hfl]; exact hf
  · have := hlt k q
    simp only [List.mem_cons, List.not_mem_nil, or_false] at hk
    omega
  · simp only [List.mem_cons, List.not_mem_nil, or_false] at hk
    simp; omega
  rintro r H' ⟨rfl, bs, hm, he⟩
  have hv : bs.v = A.blocks_.v := List.head_eq_of_cons_eq hm.cells
  have ho : Only (ids A.blocks_) H H' := (Only.app [] H _).trans hm.only (fun j hj => absurd hj List.not_mem_nil) fun j hj _ => hj
  simp [-V.flat, -V.one, one_int, one_bool, one_str, one_nilp, one_rp, one_nilsl, one_ro, one_cl, one_nilf, one_nili, one_ifc, one_ptr, one_sl, one_clo, flat_d, flat_ptr, flat_sl, flat_clo, flat_agg, retQ]
  exact ⟨_, _, Fin.same ho.len, rfl, bs, hm.own, hv, hm.ids, ho, he⟩
end Go.Proofs.YtbmloeahcdneaaaGreat
