/- impl.foldEnds over trees. No condition. -/
import Derived.Test.YtbmloeahcdneaaaGreatS49
namespace Go.Proofs.YtbmloeahcdneaaaGreat
set_option maxRecDepth 100000
set_option linter.unusedSimpArgs false
set_option linter.unusedVariables false
/-- While ends are folded: the blocks m are done, the blocks l are as they were. -/
structure FE (A : AFunc) (F : Func) (H0 : Heap) (m l : List ABlock) (k : Int) (H : Heap) : Prop where
  own : Own H (⟨A.blocks_.v, m ++ l⟩ : AS ABlock)
  left : l = A.blocks_.l.drop m.length
  sol : ∀ b ∈ m ++ l, solB b
  era : m.map Tr.era = (F.blocks_.take m.length).map (foldB F)
  cnt : k = ((F.blocks_.take m.length).map (foldK F)).sum
  ids : ∀ j ∈ ids (⟨A.blocks_.v, m ++ l⟩ : AS ABlock), j ∈ ids A.blocks_ ∨ H0.length ≤ j
  only : Only (Go.Proofs.YtbmloeahcdneaaaGreat.ids A.blocks_) H0 H
  le : m.length ≤ A.blocks_.l.length
theorem good_all2 {F : Func} (h : goodF F = true) {b : Block} (hb : b ∈ F.blocks_) (he : b.end_ ≠ 2) : 0 ≤ b.value_ ∧ b.value_ < many F :=
  (good_vals h hb).2.2 _ (List.mem_append_left _ (by rw [if_neg he]; exact List.mem_singleton.2 rfl))
theorem good_two {F : Func} (h : goodF F = true) {a : ABlock} (hb : Tr.era a ∈ F.blocks_) (he : a.end_ = 3) : a.jumps_.l.length = 2 := by
  obtain ⟨_, _, _, _, _, _, hbo⟩ := goodF_spec h
  have h1 := List.all_eq_true.1 hbo _ hb
  have e3 : (Tr.era a).end_ = 3 := he
  have ej : (Tr.era a).jumps_.length = a.jumps_.l.length := List.length_map _
  simp only [bodyOk, Bool.and_eq_true, endsOk, e3] at h1
  simp at h1
  omega
theorem foldB_same (F : Func) (b : Block) : (foldB F b).insts_ = b.insts_ ∧ (foldB F b).params_ = b.params_ := by
  unfold foldB; split <;> exact ⟨rfl, rfl⟩
theorem FE.len {A : AFunc} {F : Func} {H0 : Heap} {m l : List ABlock} {k : Int} {H : Heap} (q : FE A F H0 m l k H) : (m ++ l).length = A.blocks_.l.length := by
  have := q.le
  rw [List.length_append, q.left, List.length_drop]; omega
theorem FE.bs {A : AFunc} {F : Func} {H0 : Heap} {m l : List ABlock} {k : Int} {H : Heap} (q : FE A F H0 m l k H) (hE : Tr.era A = F) (i : Nat) : (((m ++ l).map Tr.era)[i]?.getD default).insts_ = (F.blocks_[i]?.getD default).insts_ ∧ (((m ++ l).map Tr.era)[i]?.getD default).params_ = (F.blocks_[i]?.getD default).params_ := by
  have eb : F.blocks_ = A.blocks_.l.map Tr.era := by rw [← hE]; rfl
  have hl : m.length ≤ F.blocks_.length := by rw [eb, List.length_map]; exact q.le
  have e : (m ++ l).map Tr.era = (F.blocks_.take m.length).map (foldB F) ++ F.blocks_.drop m.length := by
    rw [List.map_append, q.era, q.left, eb, List.map_drop]
  rw [e]
  by_cases h : i < m.length
  · rw [List.getElem?_append_left (by simp; omega), List.getElem?_map, List.getElem?_take, if_pos h, List.getElem?_eq_getElem (by omega)]
    exact foldB_same F _
  · rw [List.getElem?_append_right (by simp; omega), List.length_map, List.length_take, Nat.min_eq_left hl, List.getElem?_drop, show m.length + (i - m.length) = i by omega]
    exact ⟨rfl, rfl⟩
theorem FE.skip {A : AFunc} {F : Func} {H0 : Heap} {m l : List ABlock} {a : ABlock} {k : Int} {H : Heap} (q : FE A F H0 m (a :: l) k H) (ha : Tr.era a = F.blocks_[m.length]?.getD default) (hlt : m.length < F.blocks_.length) (hf : ¬ ((Tr.era a).end_ = 3 ∧ nuB F (Tr.era a).value_ = true)) : FE A F H0 (m ++ [a]) l k H := by
  have e : m ++ [a] ++ l = m ++ a :: l := by simp
  have hfb : foldB F (Tr.era a) = Tr.era a := if_neg hf
  have hfk : foldK F (Tr.era a) = 0 := if_neg hf
  have hlen := q.len
  refine ⟨by rw [e]; exact q.own, ?_, by rw [e]; exact q.sol, ?_, ?_, by rw [e]; exact q.ids, q.only, by simp at hlen ⊢; omega⟩
  · rw [List.length_append, List.length_singleton, ← List.drop_drop, ← q.left]; rfl
  · rw [List.map_append, q.era, List.length_append, List.length_singleton, take_snocD hlt, List.map_append, ← ha]
    simp [hfb]
  · rw [List.length_append, List.length_singleton, take_snocD hlt, List.map_append, ← ha, List.sum_append, ← q.cnt]
    simp [hfk]
theorem fe_put {A : AFunc} {F : Func} {H0 : Heap} {m l : List ABlock} {a : ABlock} {k : Int} {H : Heap} (q : FE A F H0 m (a :: l) k H) (hlt : m.length < F.blocks_.length) (ha : Tr.era a = F.blocks_[m.length]?.getD default) {j : AJump} (hjm : j ∈ a.jumps_.l) (hf : (Tr.era a).end_ = 3 ∧ nuB F (Tr.era a).value_ = true)
    (hjd : Tr.era j = (Tr.era a).jumps_[if nuN F (Tr.era a).value_ = 0 then 1 else 0]?.getD default) {P : Place} :
    FE A F H0 (m ++ [(⟨a.params_, a.insts_, 2, 0, ⟨.sl (H.length + 1) 2 0 1, [j]⟩⟩ : ABlock)]) l (k + 1) (H.set A.blocks_.id (.row 5 (((m ++ a :: l).map Tr.cells).set m.length [.d (.int .i64 a.params_), .sl a.insts_.id 3 0 a.insts_.l.length, .d (.int .i64 2), .d (.int .i64 0), .sl (H.length + 1) 2 0 1])) ++ [P, .row 2 [[.d (.int .i64 j.to_), j.args_.v]]]) := by
  obtain ⟨rv, rr, rn, ri⟩ := q.own.row (by simp; omega)
  have rid : AS.id (⟨A.blocks_.v, m ++ a :: l⟩ : AS ABlock) = A.blocks_.id := rfl
  rw [rid] at rr rn ri
  have hid := (List.getElem?_eq_some_iff.1 rr).1
  have hE := q.own.elems
  have haO : Own H a := hE.get (by simp)
  obtain ⟨sa1, sa2⟩ := q.sol a (by simp)
  have oi := ABlock.own_insts_ haO
  have oj : Own H j := (ABlock.own_jumps_ haO).elems.get hjm
  have subj : ∀ x ∈ ids j, x ∈ ids a.jumps_ := fun x hx => by
    have := ((ABlock.own_jumps_ haO).row (List.length_pos_of_mem hjm)).2.2.2
    rw [this]
    exact List.mem_cons_of_mem _ (List.mem_flatMap.2 ⟨j, hjm, hx⟩)
  have suba : ∀ x ∈ ids a, x ∈ (m ++ a :: l).flatMap ids := fun x hx => List.mem_flatMap.2 ⟨a, by simp, hx⟩
  have nota : ∀ x ∈ ids a, x ≠ A.blocks_.id := fun x hx e => rn (e ▸ suba x hx)
  have ia : ∀ x ∈ ids a.insts_, x ∈ ids a := fun x hx => by rw [ids_ABlock]; exact List.mem_append_left _ hx
  have ja : ∀ x ∈ ids a.jumps_, x ∈ ids a := fun x hx => by rw [ids_ABlock]; exact List.mem_append_right _ hx
  generalize hX : H.set A.blocks_.id (.row 5 (((m ++ a :: l).map Tr.cells).set m.length [.d (.int .i64 a.params_), .sl a.insts_.id 3 0 a.insts_.l.length, .d (.int .i64 2), .d (.int .i64 0), .sl (H.length + 1) 2 0 1])) = X
  have hXl : X.length = H.length := by rw [← hX]; simp
  have at_ : ∀ i, i ≠ A.blocks_.id → i < H.length → (X ++ [P, .row 2 [[.d (.int .i64 j.to_), j.args_.v]]])[i]? = H[i]? := fun i h1 h2 => by
    rw [List.getElem?_append_left (by omega), ← hX, List.getElem?_set_ne (by omega)]
  have new : (X ++ [P, .row 2 [[.d (.int .i64 j.to_), j.args_.v]]])[H.length + 1]? = some (.row 2 [Tr.cells j]) := by
    rw [List.getElem?_append_right (by omega), hXl, Nat.add_sub_cancel_left]; rfl
  have oj' : Own (X ++ [P, .row 2 [[.d (.int .i64 j.to_), j.args_.v]]]) j := oj.same fun x hx hl => at_ x (nota x (ja x (subj x hx))) hl
  have oi' : Own (X ++ [P, .row 2 [[.d (.int .i64 j.to_), j.args_.v]]]) a.insts_ := oi.same fun x hx hl => at_ x (nota x (ia x hx)) hl
  have oJ : OwnL (X ++ [P, .row 2 [[.d (.int .i64 j.to_), j.args_.v]]]) [j] := OwnL.nil.snoc oj' fun x hx h => absurd h List.not_mem_nil
  have oS : Own (X ++ [P, .row 2 [[.d (.int .i64 j.to_), j.args_.v]]]) (⟨.sl (H.length + 1) 2 0 1, [j]⟩ : AS AJump) := Own.mkS (id := H.length + 1) oJ new fun hx => by
    have := oj.lt (by simpa using hx); omega
  have iS : ids (⟨.sl (H.length + 1) 2 0 1, [j]⟩ : AS AJump) = (H.length + 1) :: [j].flatMap ids := ids_sl (s := (⟨.sl (H.length + 1) 2 0 1, [j]⟩ : AS AJump)) rfl
  have oa : Own (X ++ [P, .row 2 [[.d (.int .i64 j.to_), j.args_.v]]]) (⟨a.params_, a.insts_, 2, 0, ⟨.sl (H.length + 1) 2 0 1, [j]⟩⟩ : ABlock) := ABlock.own oi' oS fun x hx hy => by
    replace hy : x ∈ (H.length + 1) :: [j].flatMap ids := iS ▸ hy
    rcases List.mem_cons.1 hy with rfl | hy
    · have := oi.lt hx; omega
    · exact ABlock.apart haO x hx (subj x (by simpa using hy))
  have ida : ∀ x ∈ ids (⟨a.params_, a.insts_, 2, 0, ⟨.sl (H.length + 1) 2 0 1, [j]⟩⟩ : ABlock), x ∈ ids a ∨ H.length ≤ x := fun x hx => by
    rw [ids_ABlock] at hx
    rcases List.mem_append.1 hx with hx | hx
    · exact .inl (ia x hx)
    · replace hx : x ∈ (H.length + 1) :: [j].flatMap ids := iS ▸ hx
      rcases List.mem_cons.1 hx with rfl | hx
      · exact .inr (by omega)
      · exact .inl (ja x (subj x (by simpa using hx)))
  have hc : [V.d (.int .i64 a.params_), .sl a.insts_.id 3 0 a.insts_.l.length, .d (.int .i64 2), .d (.int .i64 0), .sl (H.length + 1) 2 0 1] = Tr.cells (⟨a.params_, a.insts_, 2, 0, ⟨.sl (H.length + 1) 2 0 1, [j]⟩⟩ : ABlock) := by
    rw [cells_ABlock, sa1]
  have e : ∀ b : ABlock, m ++ [b] ++ l = m ++ b :: l := fun b => by simp
  have hlen := q.len
  have oL := hE.put (a' := (⟨a.params_, a.insts_, 2, 0, ⟨.sl (H.length + 1) 2 0 1, [j]⟩⟩ : ABlock)) oa ida fun x hx => by
    have hm : x ∈ (m ++ a :: l).flatMap ids := by
      rw [List.flatMap_append, List.flatMap_cons]
      rcases List.mem_append.1 hx with h | h
      · exact List.mem_append_left _ h
      · exact List.mem_append_right _ (List.mem_append_right _ h)
    exact at_ x (fun e => rn (e ▸ hm)) (hE.lt hm)
  generalize hA : (⟨a.params_, a.insts_, 2, 0, ⟨.sl (H.length + 1) 2 0 1, [j]⟩⟩ : ABlock) = a' at oa ida hc oL ⊢
  have rowG : (X ++ [P, .row 2 [[.d (.int .i64 j.to_), j.args_.v]]])[A.blocks_.id]? = some (.row 5 ((m ++ a' :: l).map Tr.cells)) := by
    rw [List.getElem?_append_left (by omega), ← hX, List.getElem?_set_self hid, hc]
    exact congrArg (fun r => some (Place.row 5 r)) (rowL_set a')
  have notL : A.blocks_.id ∉ (m ++ a' :: l).flatMap ids := fun hx => by
    rw [List.flatMap_append, List.flatMap_cons] at hx
    rcases List.mem_append.1 hx with h | h
    · exact rn (by rw [List.flatMap_append]; exact List.mem_append_left _ h)
    · rcases List.mem_append.1 h with h | h
      · rcases ida _ h with h | h
        · exact rn (suba _ h)
        · omega
      · exact rn (by rw [List.flatMap_append, List.flatMap_cons]; exact List.mem_append_right _ (List.mem_append_right _ h))
  have oW := Own.mkS oL rowG notL
  have hv : A.blocks_.v = .sl A.blocks_.id (Enc.size Block) 0 (m ++ a' :: l).length := by
    have h2 : (m ++ a' :: l).length = (m ++ a :: l).length := by simp
    rw [h2]; exact rv
  have era' : Tr.era a' = foldB F (Tr.era a) := by
    unfold foldB
    rw [if_pos hf, ← hA, ← hjd]; rfl
  refine ⟨by rw [e, hv]; exact oW, ?_, fun b hb => ?_, ?_, ?_, fun x hx => ?_, ⟨by simp [hXl]; have := q.only.len; omega, fun x hx hn => ?_⟩, by simp at hlen ⊢; omega⟩
  · rw [List.length_append, List.length_singleton, ← List.drop_drop, ← q.left]; rfl
  · rw [e] at hb
    rcases List.mem_append.1 hb with h | h
    · exact q.sol b (List.mem_append_left _ h)
    · rcases List.mem_cons.1 h with rfl | h
      · rw [← hA]; exact ⟨sa1, rfl⟩
      · exact q.sol b (List.mem_append_right _ (List.mem_cons_of_mem _ h))
  · rw [List.map_append, q.era, List.length_append, List.length_singleton, take_snocD hlt, List.map_append, ← ha]
    simp [era']
  · rw [List.length_append, List.length_singleton, take_snocD hlt, List.map_append, ← ha, List.sum_append, ← q.cnt]
    simp [foldK, hf]
  · rw [e] at hx
    have hi : ids (⟨A.blocks_.v, m ++ a' :: l⟩ : AS ABlock) = A.blocks_.id :: (m ++ a' :: l).flatMap ids := ids_sl hv
    rw [hi] at hx
    have up : ∀ x ∈ (m ++ a :: l).flatMap ids, x ∈ ids A.blocks_ ∨ H0.length ≤ x := fun x hx => q.ids x (by rw [ri]; exact List.mem_cons_of_mem _ hx)
    rcases List.mem_cons.1 hx with rfl | hx
    · exact q.ids _ (by rw [ri]; exact List.mem_cons_self)
    · rw [List.flatMap_append, List.flatMap_cons] at hx
      rcases List.mem_append.1 hx with h | h
      · exact up x (by rw [List.flatMap_append]; exact List.mem_append_left _ h)
      · rcases List.mem_append.1 h with h | h
        · rcases ida _ h with h | h
          · exact up x (suba _ h)
          · exact .inr (Nat.le_trans q.only.len h)
        · exact up x (by rw [List.flatMap_append, List.flatMap_cons]; exact List.mem_append_right _ (List.mem_append_right _ h))
  · have h1 := q.only.at_ x hx hn
    have hne : x ≠ A.blocks_.id := fun e => by
      rcases q.ids x (by rw [ri, e]; exact List.mem_cons_self) with h | h
      · exact hn h
      · omega
    rw [at_ x hne (by have := q.only.len; omega)]; exact h1
theorem sumK {F : Func} : ∀ l : List Block, 0 ≤ (l.map (foldK F)).sum ∧ (l.map (foldK F)).sum ≤ l.length
  | [] => ⟨Int.le_refl _, Int.le_refl _⟩
  | b :: l => by
    have := sumK (F := F) l
    have h : 0 ≤ foldK F b ∧ foldK F b ≤ 1 := by unfold foldK; split <;> omega
    simp only [List.map_cons, List.sum_cons, List.length_cons]
    omega
theorem foldEnds_own (H : Heap) (A : AFunc) (idf : Nat) (hf : H[idf]? = some (.row 2 [[.d (.int .i64 A.params_), A.blocks_.v]])) (hO : Own H A) (hs : solF A) (hn : idf ∉ ids A) (hg : goodF (Tr.era A) = true) (hF : Enc.good (Tr.era A)) :
    CallsD Tryz.prog 55 [.ptr idf 2 0 0] H fun r H' => ∃ bs : AS ABlock, r = .d (.int .i64 ((Tr.era A).blocks_.map (foldK (Tr.era A))).sum) ∧ Own H' bs ∧ bs.v = A.blocks_.v ∧ (∀ b ∈ bs.l, solB b) ∧ Tr.era bs = (Tr.era A).blocks_.map (foldB (Tr.era A)) ∧ (∀ j ∈ ids bs, j ∈ ids A.blocks_ ∨ H.length ≤ j) ∧ Only (ids A.blocks_) H H' := by
  have hv := hs.1
  have hvw := viewOf_own H A hO hs hg hF
  rw [cells_AFunc, hv] at hvw
  rw [hv] at hf
  refine calls_of Tryz.func55 en_55 rfl (of_decide_eq_true rfl) (W_runS mixed [12] ⟨[], [K_100h], [84, 1000100], 73, H.length, [0, 2, 3, 4, 5, 6, 7, 8, 9, 18, 19, 20, 32, 43, 51], [20, 32, 43, 51]⟩ (fun | 12 => [0, 1, 2, 5, 6, 3, 4, 7, 8, 9, 10, 11, 12, 13] | _ => []) (by kernel_rfl) ?_)
  simp only [Tryz.f55, stripS, skip_cons, skip_nil, Nat.reduceBEq, Bool.or_false, Bool.or_self, Bool.or_true, Bool.true_or, cond_true, cond_false, stripX, stripOps, pickOps]
  simp [K_100h_f, K_100h_e, K_100h_g, -V.flat, -V.one, one_int, one_bool, one_str, one_nilp, one_rp, one_nilsl, one_ro, one_cl, one_nilf, one_nili, one_ifc, one_ptr, one_sl, one_clo, flat_d, flat_ptr, flat_sl, flat_clo, flat_agg, -decA, decA_int, decA_bool, decA_str, hf]
  refine hvw.mono ?_
  rintro r H0 ⟨w, f, b, rfl, hw, ho⟩
  have hidf := (List.getElem?_eq_some_iff.1 hf).1
  have hf0 : H0[idf]? = some (.row 2 [[.d (.int .i64 A.params_), .sl A.blocks_.id 5 0 A.blocks_.l.length]]) := (ho.at_ _ hidf List.not_mem_nil).trans hf
  have hO0 : Own H0 A := hO.frame ho fun j _ hj => absurd hj List.not_mem_nil
  have ltA : ∀ j ∈ ids A, j < H.length := fun j hj => hO.lt hj
  generalize hE : Tr.era A = F at hg hF hw ⊢
  simp [K_100_f, K_100_e, K_100h_f, K_100h_e, K_100h_g, -V.flat, -V.one, one_int, one_bool, one_str, one_nilp, one_rp, one_nilsl, one_ro, one_cl, one_nilf, one_nili, one_ifc, one_ptr, one_sl, one_clo, flat_d, flat_ptr, flat_sl, flat_clo, flat_agg, -decA, decA_int, decA_bool, decA_str, hf0]
  refine W_loopH (α := List ABlock × List ABlock × Int × Heap) (fun a => [(0, .ptr idf 2 0 0), (3, .ptr w 5 0 0), (4, .d (.int .i64 a.2.2.1)), (18, .d (.int .i64 A.blocks_.l.length)), (19, .d (.int .i64 a.1.length))]) (fun a => a.2.2.2)
    (fun a => FE A F H0 a.1 a.2.1 a.2.2.1 a.2.2.2) (fun a => A.blocks_.l.length - a.1.length) ([], A.blocks_.l, 0, H0) ?_ ⟨AFunc.own_blocks_ hO0, rfl, hs.2, rfl, rfl, fun j hj => .inl hj, Only.refl _ _, Nat.zero_le _⟩ ?_
  · simp
  rintro ⟨m, l, k, H1⟩ q
  replace q : FE A F H0 m l k H1 := q
  have hf1 : H1[idf]? = some (.row 2 [[.d (.int .i64 A.params_), .sl A.blocks_.id 5 0 A.blocks_.l.length]]) := (q.only.at_ _ (List.getElem?_eq_some_iff.1 hf0).1 fun hj => hn hj).trans hf0
  by_cases hin : A.blocks_.l.length ≤ m.length
  · refine W_runS mixed [12] ⟨[], [K_100h], [84, 1000100], 73, H.length, [0, 2, 3, 4, 5, 6, 7, 8, 9, 18, 19, 20, 32, 43, 51], [20, 32, 43, 51]⟩ (fun | 12 => [0, 1, 2, 5, 6, 3, 4, 7, 8, 9, 10, 11, 12, 13] | _ => []) (by kernel_rfl) ?_
    simp only [stripS, skip_cons, skip_nil, Nat.reduceBEq, Bool.or_false, Bool.or_self, Bool.or_true, Bool.true_or, cond_true, cond_false, stripX, stripOps, pickOps]
    simp [K_100h_f, K_100h_e, K_100h_g, -V.flat, -V.one, one_int, one_bool, one_str, one_nilp, one_rp, one_nilsl, one_ro, one_cl, one_nilf, one_nili, one_ifc, one_ptr, one_sl, one_clo, flat_d, flat_ptr, flat_sl, flat_clo, flat_agg, -decA, decA_int, decA_bool, decA_str, retQ, hf1, hin]
    refine ⟨fun h => absurd hin (by omega), ?_⟩
    have hlF : F.blocks_.length = A.blocks_.l.length := by rw [← hE]; exact era_len A
    have hl : l = [] := by rw [q.left]; exact List.drop_eq_nil_of_le hin
    subst hl
    have own := q.own
    have sol := q.sol
    have ii := q.ids
    have cnt := q.cnt
    have era := q.era
    rw [List.append_nil] at own sol ii
    rw [List.take_of_length_le (by omega)] at cnt era
    exact ⟨_, _, Fin.same (by have := ho.len; have := q.only.len; omega), by rw [cnt], ⟨A.blocks_.v, m⟩, own, rfl, sol, era, fun j hj => (ii j hj).imp id fun h => by have := ho.len; omega, (ho.mono (fun j hj => absurd hj List.not_mem_nil)).trans q.only (fun j hj => hj) fun j hj _ => hj⟩
  · have hi : m.length < A.blocks_.l.length := by omega
    obtain ⟨a, l', rfl⟩ : ∃ a l', l = a :: l' := by
      have := q.left
      rw [List.drop_eq_getElem_cons hi] at this
      exact ⟨_, _, this⟩
    have rw1 := q.own.row (by simp; omega)
    have hrow : H1[A.blocks_.id]? = some (.row 5 ((m ++ a :: l').map Tr.cells)) := rw1.2.1
    obtain ⟨sa1, sa2⟩ := q.sol a (by simp)
    have hget : ((m ++ a :: l').map Tr.cells)[m.length]? = some [.d (.int .i64 a.params_), .sl a.insts_.id 3 0 a.insts_.l.length, .d (.int .i64 a.end_), .d (.int .i64 a.value_), .sl a.jumps_.id 2 0 a.jumps_.l.length] := by
      rw [List.map_append, List.getElem?_append_right (by simp), List.length_map, Nat.sub_self, List.map_cons, List.getElem?_cons_zero, cells_ABlock, ← sa1, ← sa2]
    have hlen : ((m ++ a :: l').map Tr.cells).length = A.blocks_.l.length := by
      have := q.left
      rw [List.length_map, List.length_append, this, List.length_drop]; omega
    have hget' : ∀ h : m.length < ((m ++ a :: l').map Tr.cells).length, ((m ++ a :: l').map Tr.cells)[m.length] = _ := fun h => Option.some.inj ((List.getElem?_eq_getElem h).symm.trans hget)
    generalize hrs : (m ++ a :: l').map Tr.cells = rows at hrow hget hget' hlen
    have hlF : F.blocks_.length = A.blocks_.l.length := by rw [← hE]; exact era_len A
    have haA : a = A.blocks_.l[m.length] := by
      have := q.left
      rw [List.drop_eq_getElem_cons hi] at this
      exact (List.cons.inj this).1
    have ha : Tr.era a = F.blocks_[m.length]?.getD default := by rw [haA, ← hE]; exact (era_get A m.length hi).symm
    have haF : Tr.era a ∈ F.blocks_ := by rw [ha, List.getElem?_eq_getElem (by omega)]; exact List.getElem_mem _
    have wi : IntKind.i64.wrap ((m.length : Int) + 1) = ((m.length + 1 : Nat) : Int) := by
      have := (goodF_spec hg).2.1
      rw [wrap_id] <;> omega
    by_cases h3 : a.end_ = 3
    · have hval : 0 ≤ a.value_ ∧ a.value_ < many F := good_all2 hg haF (by show a.end_ ≠ 2; omega)
      obtain ⟨ko, ki, kB, kN⟩ := kn_nu hg hval.1 hval.2
      have hwk := hw.keep q.only (fun hj => by have := ltA _ hj; have := hw.ge; omega) (fun hj => by have := ltA _ hj; have := hw.ge; omega) (fun hj => by have := ltA _ hj; have := hw.ge; omega)
      have dV := vw_dec2 hwk hv (by rw [← hE]; rfl) q.own q.len
      obtain ⟨kc1, kc2, kc3⟩ := kn_congr (v := viewD F) (v' := ⟨F.params_, (m ++ a :: l').map Tr.era, (viewD F).first_, (viewD F).block_, many F⟩) rfl rfl (by show ((m ++ a :: l').map Tr.era).length = F.blocks_.length; rw [List.length_map, q.len, hlF]) (q.bs hE) ko
      rw [kB] at kc2
      rw [kN] at kc3
      generalize (⟨F.params_, (m ++ a :: l').map Tr.era, (viewD F).first_, (viewD F).block_, many F⟩ : View) = v' at dV kc1 kc2 kc3
      cases hb : nuB F a.value_ with
      | false =>
        rw [hb] at kc2
        refine W_runS mixed [12] ⟨[], [K_100h], [84, 1000100], 73, H.length, [0, 2, 3, 4, 5, 6, 7, 8, 9, 18, 19, 20, 32, 43, 51], [20, 32, 43, 51]⟩ (fun | 12 => [0, 1, 2, 5, 6, 3, 4, 7, 8, 9, 10, 11, 12, 13] | _ => []) (by kernel_rfl) ?_
        simp only [stripS, skip_cons, skip_nil, Nat.reduceBEq, Bool.or_false, Bool.or_self, Bool.or_true, Bool.true_or, cond_true, cond_false, stripX, stripOps, pickOps]
        simp [K_100h_f, K_100h_e, K_100h_g, -V.flat, -V.one, one_int, one_bool, one_str, one_nilp, one_rp, one_nilsl, one_ro, one_cl, one_nilf, one_nili, one_ifc, one_ptr, one_sl, one_clo, flat_d, flat_ptr, flat_sl, flat_clo, flat_agg, -decA, decA_int, decA_bool, decA_str, hf1, hrow, hget, hget', hlen, hi, h3, dV, kc1, kc2, kc3]
        exact ⟨_, _, _, _, q.skip ha (by omega) (fun h => by rw [show (Tr.era a).value_ = a.value_ from rfl, hb] at h; exact absurd h.2 (by decide)), by simp; omega, rfl, rfl, by rw [wi]; simp⟩
      | true =>
        rw [hb] at kc2
        have hj2 : a.jumps_.l.length = 2 := good_two hg haF h3
        obtain ⟨j0, j1, hj⟩ : ∃ j0 j1, a.jumps_.l = [j0, j1] := by
          match hjl : a.jumps_.l, hj2 with
          | [x, y], _ => exact ⟨x, y, rfl⟩
        have haO : Own H1 a := q.own.elems.get (by simp)
        have jrow : H1[a.jumps_.id]? = some (.row 2 [[.d (.int .i64 j0.to_), j0.args_.v], [.d (.int .i64 j1.to_), j1.args_.v]]) := by
          have := ((ABlock.own_jumps_ haO).row (by omega)).2.1
          rw [hj] at this
          exact this
        have o0 : Own H1 j0 := (ABlock.own_jumps_ haO).elems.get (by rw [hj]; simp)
        have o1 : Own H1 j1 := (ABlock.own_jumps_ haO).elems.get (by rw [hj]; simp)
        have lrow := (List.getElem?_eq_some_iff.1 hrow).1
        have rowR : ∀ R : Heap, (H1 ++ R)[A.blocks_.id]? = some (.row 5 rows) := fun R => (List.getElem?_append_left lrow).trans hrow
        have setR : ∀ (R : Heap) p, (H1 ++ R).set A.blocks_.id p = H1.set A.blocks_.id p ++ R := fun R p => List.set_append_left _ _ lrow
        have jrowR : ∀ R : Heap, (H1 ++ R)[a.jumps_.id]? = _ := fun R => (List.getElem?_append_left (List.getElem?_eq_some_iff.1 jrow).1).trans jrow
        have f0 := o0.ok.1.flat
        have n0 := o0.ok.1.scl.2
        have f1 := o1.ok.1.flat
        have n1 := o1.ok.1.scl.2
        refine W_runS mixed [12] ⟨[], [K_100h], [84, 1000100], 73, H.length, [0, 2, 3, 4, 5, 6, 7, 8, 9, 18, 19, 20, 32, 43, 51], [20, 32, 43, 51]⟩ (fun | 12 => [0, 1, 2, 5, 6, 3, 4, 7, 8, 9, 10, 11, 12, 13] | _ => []) (by kernel_rfl) ?_
        simp only [stripS, skip_cons, skip_nil, Nat.reduceBEq, Bool.or_false, Bool.or_self, Bool.or_true, Bool.true_or, cond_true, cond_false, stripX, stripOps, pickOps]
        simp [K_100h_f, K_100h_e, K_100h_g, -V.flat, -V.one, one_int, one_bool, one_str, one_nilp, one_rp, one_nilsl, one_ro, one_cl, one_nilf, one_nili, one_ifc, one_ptr, one_sl, one_clo, flat_d, flat_ptr, flat_sl, flat_clo, flat_agg, -decA, decA_int, decA_bool, decA_str, hf1, hrow, hget, hget', hlen, hi, h3, dV, kc1, kc2, kc3, hj2, jrow, rowR, jrowR, setR, f0, n0, f1, n1]
        have nid : ¬ H1.length = A.blocks_.id := by omega
        have wk : IntKind.i64.wrap (k + 1) = k + 1 := by
          have h1 := sumK (F := F) (F.blocks_.take m.length)
          rw [← q.cnt, List.length_take] at h1
          have := (goodF_spec hg).2.1
          exact wrap_id (by omega) (by omega)
        have s3 : ∀ (R : Heap) p, (H1.set A.blocks_.id p ++ R)[A.blocks_.id]? = some p := fun R p => (List.getElem?_append_left (by simpa using lrow)).trans (List.getElem?_set_self lrow)
        have s4 : ∀ (R : Heap) p x, (H1.set A.blocks_.id p ++ R).set A.blocks_.id x = H1.set A.blocks_.id x ++ R := fun R p x => by rw [List.set_append_left _ _ (by simpa using lrow), List.set_set]
        have rset : ∀ x, (rows.set m.length x)[m.length]? = some x := fun x => List.getElem?_set_self (by omega)
        refine ⟨fun hz => ?_, fun hz => ?_⟩
        · refine W_drawZ mixed (tabG_good []) [0, 2, 3, 4, 5, 6, 7, 8, 9, 18, 19, 20, 32, 43, 51] [] [0, 1, 2, 3, 4, 5, 6, 7, 8, 9, 10, 11, 12, 13] A.blocks_.id (by kernel_rfl) (by kernel_rfl) ?_
          simp [sop, -V.flat, -V.one, one_int, one_bool, one_str, one_nilp, one_rp, one_nilsl, one_ro, one_cl, one_nilf, one_nili, one_ifc, one_ptr, one_sl, one_clo, flat_d, flat_ptr, flat_sl, flat_clo, flat_agg, f0, n0, f1, n1, rowR, setR, hget, hget', hlen, hi, nid, s3, s4, rset]
          have hp := fe_put q (by omega) ha (j := j1) (P := .row 2 [[.d (.int .i64 j1.to_), j1.args_.v]]) (by rw [hj]; simp) ⟨h3, hb⟩ (by show _ = (a.jumps_.l.map Tr.era)[_]?.getD default; rw [hj, show (Tr.era a).value_ = a.value_ from rfl, if_pos hz]; rfl)
          rw [hrs] at hp
          exact ⟨by omega, _, _, _, _, hp, by simp; omega, rfl, wk, by rw [wi]; simp⟩
        · refine W_drawZ mixed (tabG_good []) [0, 2, 3, 4, 5, 6, 7, 8, 9, 18, 19, 20, 32, 43, 51] [] [0, 1, 2, 3, 4, 5, 6, 7, 8, 9, 10, 11, 12, 13] A.blocks_.id (by kernel_rfl) (by kernel_rfl) ?_
          simp [sop, -V.flat, -V.one, one_int, one_bool, one_str, one_nilp, one_rp, one_nilsl, one_ro, one_cl, one_nilf, one_nili, one_ifc, one_ptr, one_sl, one_clo, flat_d, flat_ptr, flat_sl, flat_clo, flat_agg, f0, n0, f1, n1, rowR, setR, hget, hget', hlen, hi, nid, s3, s4, rset]
          have hp := fe_put q (by omega) ha (j := j0) (P := .row 2 [[.d (.int .i64 j0.to_), j0.args_.v]]) (by rw [hj]; simp) ⟨h3, hb⟩ (by show _ = (a.jumps_.l.map Tr.era)[_]?.getD default; rw [hj, show (Tr.era a).value_ = a.value_ from rfl, if_neg hz]; rfl)
          rw [hrs] at hp
          exact ⟨by omega, _, _, _, _, hp, by simp; omega, rfl, wk, by rw [wi]; simp⟩
    · refine W_runS mixed [12] ⟨[], [K_100h], [84, 1000100], 73, H.length, [0, 2, 3, 4, 5, 6, 7, 8, 9, 18, 19, 20, 32, 43, 51], [20, 32, 43, 51]⟩ (fun | 12 => [0, 1, 2, 5, 6, 3, 4, 7, 8, 9, 10, 11, 12, 13] | _ => []) (by kernel_rfl) ?_
      simp only [stripS, skip_cons, skip_nil, Nat.reduceBEq, Bool.or_false, Bool.or_self, Bool.or_true, Bool.true_or, cond_true, cond_false, stripX, stripOps, pickOps]
      simp [K_100h_f, K_100h_e, K_100h_g, -V.flat, -V.one, one_int, one_bool, one_str, one_nilp, one_rp, one_nilsl, one_ro, one_cl, one_nilf, one_nili, one_ifc, one_ptr, one_sl, one_clo, flat_d, flat_ptr, flat_sl, flat_clo, flat_agg, -decA, decA_int, decA_bool, decA_str, hf1, hrow, hget, hget', hlen, hi, h3]
      exact ⟨_, _, _, _, q.skip ha (by omega) (fun h => h3 h.1), by simp; omega, rfl, rfl, by rw [wi]; simp⟩
end Go.Proofs.YtbmloeahcdneaaaGreat
