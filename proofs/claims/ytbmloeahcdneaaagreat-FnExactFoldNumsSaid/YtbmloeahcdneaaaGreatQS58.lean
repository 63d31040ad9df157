/- An element of a slice of trees is another one; an instruction is written in its place. No condition. -/
import Derived.Test.YtbmloeahcdneaaaGreatQS46
import Derived.Test.YtbmloeahcdneaaaGreatQS57
import Derived.Test.YtbmloeahcdneaaaGreatQS42
namespace Go.Proofs.YtbmloeahcdneaaaGreat
set_option maxRecDepth 100000
set_option linter.unusedSimpArgs false
set_option linter.unusedVariables false
theorem Own.setAt {α β : Type} [Enc β] [Dec β] [Inhabited β] [Tr α β] {H H' : Heap} {s : AS α} {i : Nat} {a' : α} (h : Own H s) (hi : i < s.l.length) (ha : Own H' a') (hid : ∀ j ∈ ids a', j ∈ ids s.l[i] ∨ H.length ≤ j)
    (hrow : H'[s.id]? = some (.row (Enc.size β) ((s.l.set i a').map Tr.cells))) (hs : ∀ j ∈ ids s, j ≠ s.id → j ∉ ids s.l[i] → H'[j]? = H[j]?) :
    Own H' (⟨s.v, s.l.set i a'⟩ : AS α) ∧ ∀ j ∈ ids (⟨s.v, s.l.set i a'⟩ : AS α), j ∈ ids s ∨ H.length ≤ j := by
  obtain ⟨rv, rr, rn, ri⟩ := h.row (by omega)
  have hlt := (List.getElem?_eq_some_iff.1 rr).1
  have es : s.l = s.l.take i ++ s.l[i] :: s.l.drop (i + 1) := by rw [← List.drop_eq_getElem_cons hi, List.take_append_drop]
  have et : s.l.set i a' = s.l.take i ++ a' :: s.l.drop (i + 1) := List.set_eq_take_append_cons_drop.trans (if_pos hi)
  have hE := h.elems
  have hnd := hE.nd
  rw [es] at hE hnd
  have oL := hE.put ha hid fun j hj => by
    have hm : j ∈ s.l.flatMap ids := by
      rw [es, List.flatMap_append, List.flatMap_cons]
      rcases List.mem_append.1 hj with q | q
      · exact List.mem_append_left _ q
      · exact List.mem_append_right _ (List.mem_append_right _ q)
    refine hs j (by rw [ri]; exact List.mem_cons_of_mem _ hm) (fun e => rn (e ▸ hm)) fun q => ?_
    rw [List.flatMap_append, List.flatMap_cons] at hnd
    obtain ⟨n1, n2, n3⟩ := List.nodup_append.1 hnd
    obtain ⟨n4, n5, n6⟩ := List.nodup_append.1 n2
    rcases List.mem_append.1 hj with w | w
    · exact n3 j w j (List.mem_append_left _ q) rfl
    · exact n6 j q j w rfl
  rw [← et] at oL
  have up : ∀ j ∈ (s.l.set i a').flatMap ids, j ∈ s.l.flatMap ids ∨ H.length ≤ j := fun j hj => by
    rw [et, List.flatMap_append, List.flatMap_cons] at hj
    rw [es, List.flatMap_append, List.flatMap_cons]
    rcases List.mem_append.1 hj with q | q
    · exact .inl (List.mem_append_left _ q)
    · rcases List.mem_append.1 q with q | q
      · exact (hid j q).imp (fun w => List.mem_append_right _ (List.mem_append_left _ w)) id
      · exact .inl (List.mem_append_right _ (List.mem_append_right _ q))
  have nn : s.id ∉ (s.l.set i a').flatMap ids := fun q => by
    rcases up _ q with w | w
    · exact rn w
    · omega
  have hv : (⟨s.v, s.l.set i a'⟩ : AS α).v = .sl s.id (Enc.size β) 0 (s.l.set i a').length := by rw [List.length_set]; exact rv
  have o := Own.mkS oL hrow nn
  rw [← hv] at o
  refine ⟨o, fun j hj => ?_⟩
  rw [ids_sl hv] at hj
  rw [ri]
  rcases List.mem_cons.1 hj with rfl | hj
  · exact .inl List.mem_cons_self
  · exact (up j hj).imp (List.mem_cons_of_mem _) id
theorem set_map_cells {α β : Type} [Enc β] [Dec β] [Inhabited β] [Tr α β] {l : List α} {i : Nat} {a' : α} (hi : i < l.length) (h : Tr.cells a' = Tr.cells l[i]) : (l.set i a').map Tr.cells = l.map Tr.cells := by
  rw [List.map_set, h]
  refine List.ext_getElem? fun j => ?_
  rw [List.getElem?_set]
  split
  · rename_i e; subst e
    simp [hi]
  · rfl
def ABlock.setX (b : ABlock) (i : Nat) (x : AInst) : ABlock := ⟨b.params_, ⟨b.insts_.v, b.insts_.l.set i x⟩, b.end_, b.value_, b.jumps_⟩
def AFunc.setX (A : AFunc) (k i : Nat) (x : AInst) : AFunc := ⟨A.params_, ⟨A.blocks_.v, A.blocks_.l.set k (ABlock.setX (A.blocks_.l[k]?.getD default) i x)⟩⟩
theorem AFunc.wrX {A : AFunc} {H : Heap} {k i : Nat} {b : ABlock} {x : AInst} (hO : Own H A) (hk : A.blocks_.l[k]? = some b) (hi : i < b.insts_.l.length) (hx : Tr.ok x) (hp : Tr.pls x = []) :
    Own (H.set b.insts_.id (.row 3 ((b.insts_.l.set i x).map Tr.cells))) (AFunc.setX A k i x) ∧ Tr.era (AFunc.setX A k i x) = setI (Tr.era A) k i (Tr.era x) ∧ (∀ j ∈ ids (AFunc.setX A k i x), j ∈ ids A) ∧ b.insts_.id ∈ ids A := by
  have hkl := (List.getElem?_eq_some_iff.1 hk).1
  have hb : A.blocks_.l[k] = b := (List.getElem?_eq_some_iff.1 hk).2
  have hoB := AFunc.own_blocks_ hO
  obtain ⟨rv, rr, rn, ri⟩ := hoB.row (by omega)
  have oB : Own H b := hoB.elems.get (List.mem_of_getElem? hk)
  have oI := ABlock.own_insts_ oB
  obtain ⟨iv, ir, inn, ii⟩ := oI.row (by omega)
  have hid := (List.getElem?_eq_some_iff.1 ir).1
  have ix : ids x = [] := by unfold ids; rw [hp]; rfl
  have mI : b.insts_.id ∈ ids b := by rw [ids_ABlock, ii]; exact List.mem_append_left _ List.mem_cons_self
  have mb : ∀ j ∈ ids b, j ∈ ids A := fun j hj => by
    show j ∈ ids A.blocks_
    rw [ri]; exact List.mem_cons_of_mem _ (List.mem_flatMap.2 ⟨b, List.mem_of_getElem? hk, hj⟩)
  have oX : Own (H.set b.insts_.id (.row 3 ((b.insts_.l.set i x).map Tr.cells))) x := ⟨hx, fun q hq => by rw [hp] at hq; exact absurd hq List.not_mem_nil, by rw [ix]; exact List.nodup_nil⟩
  obtain ⟨o1, u1⟩ := oI.setAt hi oX (fun j hj => by rw [ix] at hj; exact absurd hj List.not_mem_nil) (List.getElem?_set_self hid) fun j _ hj _ => List.getElem?_set_ne fun e => hj e.symm
  have u1' : ∀ j ∈ ids (⟨b.insts_.v, b.insts_.l.set i x⟩ : AS AInst), j ∈ ids b.insts_ := fun j hj => (u1 j hj).elim id fun q => by
    have := o1.lt hj; rw [List.length_set] at this; omega
  have ap := ABlock.apart oB
  have o2 : Own (H.set b.insts_.id (.row 3 ((b.insts_.l.set i x).map Tr.cells))) (ABlock.setX b i x) := ABlock.own (x := ABlock.setX b i x) o1 ((ABlock.own_jumps_ oB).frame Only.set fun j hj q => by
    rw [List.mem_singleton.1 q] at hj
    exact ap _ (by rw [ii]; exact List.mem_cons_self) hj) fun j hj => ap j (u1' j hj)
  have u2 : ∀ j ∈ ids (ABlock.setX b i x), j ∈ ids b := fun j hj => by
    rw [ids_ABlock] at hj ⊢
    exact (List.mem_append.1 hj).elim (fun q => List.mem_append_left _ (u1' j q)) fun q => List.mem_append_right _ q
  have hc : Tr.cells (ABlock.setX b i x) = Tr.cells b := rfl
  have ne : A.blocks_.id ≠ b.insts_.id := fun e => rn (List.mem_flatMap.2 ⟨b, List.mem_of_getElem? hk, e ▸ mI⟩)
  obtain ⟨o3, u3⟩ := hoB.setAt hkl o2 (fun j hj => .inl (by rw [hb]; exact u2 j hj)) (by
    rw [List.getElem?_set_ne ne.symm, rr, set_map_cells hkl (by rw [hb]; exact hc)]) fun j _ _ hj => List.getElem?_set_ne fun e => hj (by rw [hb, ← e]; exact mI)
  have eg : A.blocks_.l[k]?.getD default = b := by rw [hk]; rfl
  refine ⟨AFunc.own (by unfold AFunc.setX; rw [eg]; exact o3), ?_, fun j hj => ?_, mb _ mI⟩
  · show Func.mk A.params_ ((A.blocks_.l.set k _).map Tr.era) = Func.mk A.params_ ((A.blocks_.l.map Tr.era).set k _)
    have eF : (Tr.era A).blocks_[k]?.getD default = Tr.era b := by
      show (A.blocks_.l.map Tr.era)[k]?.getD default = _
      rw [List.getElem?_map, hk]; rfl
    rw [eg, List.map_set]
    show Func.mk _ _ = Func.mk _ (List.set _ k (setB ((Tr.era A).blocks_[k]?.getD default) i (Tr.era x)))
    rw [eF]
    congr 2
    show Block.mk b.params_ ((b.insts_.l.set i x).map Tr.era) b.end_ b.value_ _ = Block.mk b.params_ ((b.insts_.l.map Tr.era).set i _) b.end_ b.value_ _
    rw [List.map_set]; rfl
  · have hj' : j ∈ ids (⟨A.blocks_.v, A.blocks_.l.set k (ABlock.setX b i x)⟩ : AS ABlock) := by
      have : j ∈ ids (⟨A.blocks_.v, A.blocks_.l.set k (ABlock.setX (A.blocks_.l[k]?.getD default) i x)⟩ : AS ABlock) := hj
      rwa [eg] at this
    refine (u3 j hj').elim id fun q => ?_
    have := o3.lt hj'; rw [List.length_set] at this; omega
def CBlock.setX (b : CBlock) (i : Nat) (x : Inst) : CBlock := ⟨b.params_, ⟨b.insts_.v, b.insts_.l.set i x⟩, b.end_, b.value_, b.jumps_⟩
def CFunc.setX (A : CFunc) (k i : Nat) (x : Inst) : CFunc := ⟨A.params_, ⟨A.blocks_.v, A.blocks_.l.set k (CBlock.setX (A.blocks_.l[k]?.getD default) i x)⟩⟩
theorem CFunc.wrX {A : CFunc} {H : Heap} {k i : Nat} {b : CBlock} {x : Inst} (hO : Own H A) (hk : A.blocks_.l[k]? = some b) (hi : i < b.insts_.l.length) (hx : Tr.ok x) (hp : Tr.pls x = []) :
    Own (H.set b.insts_.id (.row 3 ((b.insts_.l.set i x).map Tr.cells))) (CFunc.setX A k i x) ∧ Tr.era (CFunc.setX A k i x) = setI (Tr.era A) k i (Tr.era x) ∧ (∀ j ∈ ids (CFunc.setX A k i x), j ∈ ids A) ∧ b.insts_.id ∈ ids A := by
  have hkl := (List.getElem?_eq_some_iff.1 hk).1
  have hb : A.blocks_.l[k] = b := (List.getElem?_eq_some_iff.1 hk).2
  have hoB := CFunc.own_blocks_ hO
  obtain ⟨rv, rr, rn, ri⟩ := hoB.row (by omega)
  have oB : Own H b := hoB.elems.get (List.mem_of_getElem? hk)
  have oI := CBlock.own_insts_ oB
  obtain ⟨iv, ir, inn, ii⟩ := oI.row (by omega)
  have hid := (List.getElem?_eq_some_iff.1 ir).1
  have ix : ids x = [] := by unfold ids; rw [hp]; rfl
  have mI : b.insts_.id ∈ ids b := by rw [ids_CBlock, ii]; exact List.mem_append_left _ List.mem_cons_self
  have mb : ∀ j ∈ ids b, j ∈ ids A := fun j hj => by
    show j ∈ ids A.blocks_
    rw [ri]; exact List.mem_cons_of_mem _ (List.mem_flatMap.2 ⟨b, List.mem_of_getElem? hk, hj⟩)
  have oX : Own (H.set b.insts_.id (.row 3 ((b.insts_.l.set i x).map Tr.cells))) x := ⟨hx, fun q hq => by rw [hp] at hq; exact absurd hq List.not_mem_nil, by rw [ix]; exact List.nodup_nil⟩
  obtain ⟨o1, u1⟩ := oI.setAt hi oX (fun j hj => by rw [ix] at hj; exact absurd hj List.not_mem_nil) (List.getElem?_set_self hid) fun j _ hj _ => List.getElem?_set_ne fun e => hj e.symm
  have u1' : ∀ j ∈ ids (⟨b.insts_.v, b.insts_.l.set i x⟩ : AS Inst), j ∈ ids b.insts_ := fun j hj => (u1 j hj).elim id fun q => by
    have := o1.lt hj; rw [List.length_set] at this; omega
  have ap := CBlock.apart oB
  have o2 : Own (H.set b.insts_.id (.row 3 ((b.insts_.l.set i x).map Tr.cells))) (CBlock.setX b i x) := CBlock.own (x := CBlock.setX b i x) o1 ((CBlock.own_jumps_ oB).frame Only.set fun j hj q => by
    rw [List.mem_singleton.1 q] at hj
    exact ap _ (by rw [ii]; exact List.mem_cons_self) hj) fun j hj => ap j (u1' j hj)
  have u2 : ∀ j ∈ ids (CBlock.setX b i x), j ∈ ids b := fun j hj => by
    rw [ids_CBlock] at hj ⊢
    exact (List.mem_append.1 hj).elim (fun q => List.mem_append_left _ (u1' j q)) fun q => List.mem_append_right _ q
  have hc : Tr.cells (CBlock.setX b i x) = Tr.cells b := rfl
  have ne : A.blocks_.id ≠ b.insts_.id := fun e => rn (List.mem_flatMap.2 ⟨b, List.mem_of_getElem? hk, e ▸ mI⟩)
  obtain ⟨o3, u3⟩ := hoB.setAt hkl o2 (fun j hj => .inl (by rw [hb]; exact u2 j hj)) (by
    rw [List.getElem?_set_ne ne.symm, rr, set_map_cells hkl (by rw [hb]; exact hc)]) fun j _ _ hj => List.getElem?_set_ne fun e => hj (by rw [hb, ← e]; exact mI)
  have eg : A.blocks_.l[k]?.getD default = b := by rw [hk]; rfl
  refine ⟨CFunc.own (by unfold CFunc.setX; rw [eg]; exact o3), ?_, fun j hj => ?_, mb _ mI⟩
  · show Func.mk A.params_ ((A.blocks_.l.set k _).map Tr.era) = Func.mk A.params_ ((A.blocks_.l.map Tr.era).set k _)
    have eF : (Tr.era A).blocks_[k]?.getD default = Tr.era b := by
      show (A.blocks_.l.map Tr.era)[k]?.getD default = _
      rw [List.getElem?_map, hk]; rfl
    rw [eg, List.map_set]
    show Func.mk _ _ = Func.mk _ (List.set _ k (setB ((Tr.era A).blocks_[k]?.getD default) i (Tr.era x)))
    rw [eF]
    congr 2
    show Block.mk b.params_ ((b.insts_.l.set i x).map Tr.era) b.end_ b.value_ _ = Block.mk b.params_ ((b.insts_.l.map Tr.era).set i _) b.end_ b.value_ _
    rw [List.map_set]; rfl
  · have hj' : j ∈ ids (⟨A.blocks_.v, A.blocks_.l.set k (CBlock.setX b i x)⟩ : AS CBlock) := by
      have : j ∈ ids (⟨A.blocks_.v, A.blocks_.l.set k (CBlock.setX (A.blocks_.l[k]?.getD default) i x)⟩ : AS CBlock) := hj
      rwa [eg] at this
    refine (u3 j hj').elim id fun q => ?_
    have := o3.lt hj'; rw [List.length_set] at this; omega
theorem VW.to {n0 : Nat} {A A' : AFunc} {F F' : Func} {w f b : Nat} {G : Heap} (h : VW n0 A F w f b G) (h1 : A'.params_ = A.params_) (h2 : A'.blocks_.v = A.blocks_.v) (h3 : A'.blocks_.l.length = A.blocks_.l.length) (h4 : F'.params_ = F.params_) (h5 : shp F'.blocks_ = shp F.blocks_) : VW n0 A' F' w f b G := by
  have e1 : (viewD F').first_ = (viewD F).first_ := by show firsts _ _ = firsts _ _; rw [firsts_shp h5, h4]
  have e2 : (viewD F').block_ = (viewD F).block_ := by show List.replicate _ _ ++ blkOf _ _ = List.replicate _ _ ++ blkOf _ _; rw [blkOf_shp h5, h4]
  have e3 : A'.blocks_.id = A.blocks_.id := congrArg V.slId h2
  exact ⟨by rw [h1, e1, e2, e3, h3, many_shp h4 h5]; exact h.view, by rw [e1]; exact h.fr, by rw [e2]; exact h.br, h.ge⟩
end Go.Proofs.YtbmloeahcdneaaaGreat
