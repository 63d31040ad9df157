/- The reference's folding of ends: trees that are written. No condition. -/
import Derived.Test.YtbmloeahcdneaaaGreatS51
namespace Go.Proofs.YtbmloeahcdneaaaGreat
set_option maxRecDepth 100000
set_option linter.unusedSimpArgs false
set_option linter.unusedVariables false
theorem l11Single_c (n : Int) (h0 : 0 ≤ n) (h1 : n ≤ 1000) : PureP Tryz.prog 81 [.d (.int .i64 n)] (· = .d (dIntS (sgl n.toNat))) :=
  PureP.of_own ((l11Single_own [] n h0 h1).mono fun r H' ⟨s, e, hs, hn⟩ => by
    have := Rd1.slice hn.own
    rw [era_AS_ints, hs] at this
    rw [e]; exact this)
noncomputable def K_81 : Ent Tryz.prog := Ent.p1 (α := Int) 81 (fun n => 0 ≤ n ∧ n ≤ 1000) (fun n => .d (dIntS (sgl n.toNat))) (fun n hc => l11Single_c n hc.1 hc.2)
theorem K_81_f : K_81.f = 81 := rfl
theorem K_81_e (n : Int) : K_81.e [.d (.int .i64 n)] = some (0 ≤ n ∧ n ≤ 1000, .d (dIntS (sgl n.toNat)), []) := by unfold K_81; exact Ent.p1_eq (α := Int) n
noncomputable def K_81h : EntH Tryz.prog := EntH.pk1 (α := Int) 81 (fun n => 0 ≤ n ∧ n ≤ 1000) (fun n => .d (dIntS (sgl n.toNat))) (fun n => []) (fun n hc => PureP.ans (l11Single_c n hc.1 hc.2))
theorem K_81h_f : K_81h.f = 81 := rfl
theorem K_81h_g : K_81h.gro = true := rfl
theorem K_81h_e {x1 : V} {H : Heap} : K_81h.e [x1] H = guardR ((decA (α := Int) H x1).1) (peekR (0 ≤ (decA (α := Int) H x1).2 ∧ (decA (α := Int) H x1).2 ≤ 1000) (.d (dIntS (sgl (decA (α := Int) H x1).2.toNat))) ([]) H) := rfl
theorem mpF_id {g : Int → Int} {F : Func} (h : ∀ b ∈ F.blocks_, ∀ x ∈ allU b, g x = x) : mpF g F = F := by
  rw [mpF_congr (h := fun x => x) h]
  have e1 : ∀ l : List Int, l.map (fun x => x) = l := fun l => List.map_id' l
  have hI : ∀ x : Inst, mpI (fun x => x) x = x := fun x => by unfold mpI; rw [e1]
  have hJ : ∀ x : Jump, mpJ (fun x => x) x = x := fun x => by unfold mpJ; rw [e1]
  have hIl : ∀ l : List Inst, l.map (mpI fun x => x) = l := fun l => by rw [List.map_congr_left (g := fun x => x) fun x _ => hI x]; exact List.map_id' l
  have hJl : ∀ l : List Jump, l.map (mpJ fun x => x) = l := fun l => by rw [List.map_congr_left (g := fun x => x) fun x _ => hJ x]; exact List.map_id' l
  have hB : ∀ b : Block, mpB (fun x => x) b = b := fun b => by unfold mpB; rw [hIl, hJl]; simp
  unfold mpF
  rw [List.map_congr_left (g := fun x => x) fun b _ => hB b, List.map_id']
theorem l15Own_own (H : Heap) (F : Func) (hF : Enc.good F) (hg : goodF F = true) : CallsD Tryz.prog 98 [vFunc F] H fun r H' => ∃ A : CFunc, r = .agg (Tr.cells A) ∧ Own H' A ∧ Tr.era A = F ∧ Only [] H H' ∧ ∀ j ∈ ids A, H.length ≤ j := by
  obtain ⟨hp, hl, hh, hm, hc, hsu, _⟩ := goodF_spec hg
  have hmany : cntB F.blocks_ F.params_ = many F := rfl
  have h0 : 0 ≤ many F ∧ many F ≤ 1000 := by omega
  refine calls_of Tryz.func98 en_98 rfl (of_decide_eq_true rfl) (W_run mixed ⟨[K_80, K_81], [K_80h, K_81h], [82], 8, H.length, [0, 1, 2], []⟩ (fun | 1 => [0, 1, 2, 3, 4, 5] | _ => []) (by kernel_rfl) ?_)
  simp only [Tryz.f98, stripX, stripOps, pickOps]
  simp [K_80_f, K_80_e, K_81_f, K_81_e, K_80h_f, K_80h_e, K_81h_f, K_81h_e, K_80h_g, K_81h_g, -V.flat, -V.one, one_int, one_bool, one_str, one_nilp, one_rp, one_nilsl, one_ro, one_cl, one_nilf, one_nili, one_ifc, one_ptr, one_sl, one_clo, flat_d, flat_ptr, flat_sl, flat_clo, flat_agg, hF, hmany, h0]
  refine (l15Map_own _ F (sgl (many F).toNat) (by omega) (good_map hg (sgl_len _))).mono ?_
  rintro r H1 ⟨A, rfl, oA, eA, ho, iA⟩
  have hl1 := ho.len
  simp only [List.length_append, List.length_cons, List.length_nil] at hl1
  have iA' : ∀ j ∈ ids A, H.length + 2 ≤ j := fun j hj => by have := iA j hj; simp at this; omega
  have hfl := oA.ok.1.flat
  have hone := oA.ok.1.scl.2
  have k6 : H1[H.length + 1]? = some (.row 2 [[.d (.int .i64 0), .d .nilsl]]) := (ho.at_ _ (by simp) List.not_mem_nil).trans (by simp)
  have s6 : ∀ p, (H1.set (H.length + 1) p)[H.length + 1]? = some p := fun p => List.getElem?_set_self (by omega)
  simp [K_80_f, K_80_e, K_81_f, K_81_e, K_82_f, K_82_e, K_80h_f, K_80h_e, K_81h_f, K_81h_e, K_82h_f, K_82h_e, K_80h_g, K_81h_g, K_82h_g, -V.flat, -V.one, one_int, one_bool, one_str, one_nilp, one_rp, one_nilsl, one_ro, one_cl, one_nilf, one_nili, one_ifc, one_ptr, one_sl, one_clo, flat_d, flat_ptr, flat_sl, flat_clo, flat_agg, hfl, hone, k6, s6, retQ]
  refine ⟨_, _, Fin.same (by simp; omega), A, rfl, oA.frame (S := [H.length + 1]) Only.set fun j hj q => by have := iA' j hj; simp at q; omega, ?_, ⟨by simp; omega, fun j hj _ => ?_⟩, fun j hj => by have := iA' j hj; omega⟩
  · rw [eA]
    refine mpF_id fun b hb x hx => ?_
    have := good_all hg hb x hx
    unfold mapL
    rw [sgl_get (by omega)]
    show ((x.toNat : Nat) : Int) = x
    omega
  · rw [List.getElem?_set_ne (by omega)]
    exact (ho.at_ j (by simp; omega) List.not_mem_nil).trans (List.getElem?_append_left hj)
theorem okI_all (F : Func) (n : Int) (hh : F.blocks_.all headOk = true) (h8 : F.blocks_.length ≤ 8) : okI F n := by
  have key : ∀ (bs : List Block) (i : Nat), bs = F.blocks_.drop i → 0 ≤ (instS F n bs i).1 → (instS F n bs i).1 < F.blocks_.length ∧ 0 ≤ (instS F n bs i).2 ∧ (instS F n bs i).2 < (F.blocks_[(instS F n bs i).1.toNat]?.getD default).insts_.length := by
    intro bs
    induction bs with
    | nil => intro i _ h; simp [instS] at h
    | cons b bs ih =>
      intro i hb h
      have hi : i < F.blocks_.length := by
        have := congrArg List.length hb
        simp only [List.length_cons, List.length_drop] at this; omega
      have hd := hb
      rw [List.drop_eq_getElem_cons hi] at hd
      obtain ⟨e1, e2⟩ := List.cons.inj hd
      simp only [instS] at h ⊢
      split at h
      · rename_i q
        rw [if_pos q]
        have hsz := headOk_sz (List.all_eq_true.1 hh b (by rw [e1]; exact List.getElem_mem hi))
        have := inR_index (by omega) q
        refine ⟨by show (i : Int) < _; omega, this.1, ?_⟩
        show _ < (((F.blocks_[((i : Nat) : Int).toNat]?.getD default).insts_.length : Nat) : Int)
        rw [Int.toNat_natCast, List.getElem?_eq_getElem hi]
        show _ < ((F.blocks_[i].insts_.length : Nat) : Int)
        rw [← e1]; omega
      · rename_i q
        rw [if_neg q]
        exact ih (i + 1) e2 h
  exact key F.blocks_ 0 rfl
/-- While the reference folds ends. -/
structure FS (A : CFunc) (F : Func) (H0 : Heap) (m l : List CBlock) (k : Int) (H : Heap) : Prop where
  own : Own H (⟨A.blocks_.v, m ++ l⟩ : AS CBlock)
  left : l = A.blocks_.l.drop m.length
  era : m.map Tr.era = (F.blocks_.take m.length).map (foldB F)
  cnt : k = ((F.blocks_.take m.length).map (foldK F)).sum
  only : Only (Go.Proofs.YtbmloeahcdneaaaGreat.ids A.blocks_) H0 H
  idv : A.blocks_.id ∈ Go.Proofs.YtbmloeahcdneaaaGreat.ids A.blocks_
  idl : ∀ j ∈ Go.Proofs.YtbmloeahcdneaaaGreat.ids (⟨A.blocks_.v, m ++ l⟩ : AS CBlock), j ∈ Go.Proofs.YtbmloeahcdneaaaGreat.ids A.blocks_ ∨ H0.length ≤ j
  le : m.length ≤ A.blocks_.l.length
theorem FS.len {A : CFunc} {F : Func} {H0 : Heap} {m l : List CBlock} {k : Int} {H : Heap} (q : FS A F H0 m l k H) : (m ++ l).length = A.blocks_.l.length := by
  have := q.le
  rw [List.length_append, q.left, List.length_drop]; omega
theorem FS.skip {A : CFunc} {F : Func} {H0 : Heap} {m l : List CBlock} {a : CBlock} {k : Int} {H R : Heap} (q : FS A F H0 m (a :: l) k H) (ha : Tr.era a = F.blocks_[m.length]?.getD default) (hlt : m.length < F.blocks_.length) (hf : ¬ ((Tr.era a).end_ = 3 ∧ nuB F (Tr.era a).value_ = true)) : FS A F H0 (m ++ [a]) l k (H ++ R) := by
  have e : m ++ [a] ++ l = m ++ a :: l := by simp
  have hfb : foldB F (Tr.era a) = Tr.era a := if_neg hf
  have hfk : foldK F (Tr.era a) = 0 := if_neg hf
  have hlen := q.len
  refine ⟨by rw [e]; exact q.own.frame (Only.app [] _ _) fun j _ hj => absurd hj List.not_mem_nil, ?_, ?_, ?_, q.only.trans (Only.app [] _ _) (fun j hj => hj) (fun j hj _ => absurd hj List.not_mem_nil), q.idv, by rw [e]; exact q.idl, by simp at hlen ⊢; omega⟩
  · rw [List.length_append, List.length_singleton, ← List.drop_drop, ← q.left]; rfl
  · rw [List.map_append, q.era, List.length_append, List.length_singleton, take_snocD hlt, List.map_append, ← ha]
    simp [hfb]
  · rw [List.length_append, List.length_singleton, take_snocD hlt, List.map_append, ← ha, List.sum_append, ← q.cnt]
    simp [hfk]
theorem fs_put {A : CFunc} {F : Func} {H0 : Heap} {m l : List CBlock} {a : CBlock} {k : Int} {H : Heap} (q : FS A F H0 m (a :: l) k H) (hlt : m.length < F.blocks_.length) (ha : Tr.era a = F.blocks_[m.length]?.getD default) {j : Jump} (hf : (Tr.era a).end_ = 3 ∧ nuB F (Tr.era a).value_ = true)
    (hjd : j = (Tr.era a).jumps_[if nuN F (Tr.era a).value_ = 0 then 1 else 0]?.getD default) {P P' : Place} :
    FS A F H0 (m ++ [(⟨a.params_, a.insts_, 2, 0, ⟨.sl (H.length + 2) 2 0 1, [j]⟩⟩ : CBlock)]) l (k + 1) (H.set A.blocks_.id (.row 5 (((m ++ a :: l).map Tr.cells).set m.length [.d (.int .i64 a.params_), a.insts_.v, .d (.int .i64 2), .d (.int .i64 0), .sl (H.length + 2) 2 0 1])) ++ [P, P', .row 2 [[.d (.int .i64 j.to_), .d (dIntS j.args_)]]]) := by
  obtain ⟨rv, rr, rn, ri⟩ := q.own.row (by simp; omega)
  have rid : AS.id (⟨A.blocks_.v, m ++ a :: l⟩ : AS CBlock) = A.blocks_.id := rfl
  rw [rid] at rr rn ri
  have hid := (List.getElem?_eq_some_iff.1 rr).1
  have hE := q.own.elems
  have haO : Own H a := hE.get (by simp)
  have oi := CBlock.own_insts_ haO
  have suba : ∀ x ∈ ids a, x ∈ (m ++ a :: l).flatMap ids := fun x hx => List.mem_flatMap.2 ⟨a, by simp, hx⟩
  have nota : ∀ x ∈ ids a, x ≠ A.blocks_.id := fun x hx e => rn (e ▸ suba x hx)
  have ia : ∀ x ∈ ids a.insts_, x ∈ ids a := fun x hx => by rw [ids_CBlock]; exact List.mem_append_left _ hx
  generalize hX : H.set A.blocks_.id (.row 5 (((m ++ a :: l).map Tr.cells).set m.length [.d (.int .i64 a.params_), a.insts_.v, .d (.int .i64 2), .d (.int .i64 0), .sl (H.length + 2) 2 0 1])) = X
  have hXl : X.length = H.length := by rw [← hX]; simp
  generalize hR : [P, P', .row 2 [[.d (.int .i64 j.to_), .d (dIntS j.args_)]]] = R
  have at_ : ∀ i, i ≠ A.blocks_.id → i < H.length → (X ++ R)[i]? = H[i]? := fun i h1 h2 => by
    rw [List.getElem?_append_left (by omega), ← hX, List.getElem?_set_ne (by omega)]
  have new : (X ++ R)[H.length + 2]? = some (.row 2 [Tr.cells j]) := by
    rw [List.getElem?_append_right (by omega), hXl, Nat.add_sub_cancel_left, ← hR]; rfl
  have oi' : Own (X ++ R) a.insts_ := oi.same fun x hx hl => at_ x (nota x (ia x hx)) hl
  obtain ⟨oJ, iJ⟩ := ownL_C (H := X ++ R) (l := [j]) (fun _ => rfl) (fun _ => trivial)
  have oS : Own (X ++ R) (⟨.sl (H.length + 2) 2 0 1, [j]⟩ : AS Jump) := Own.mkS (id := H.length + 2) oJ new (by rw [iJ]; exact List.not_mem_nil)
  have iS : ids (⟨.sl (H.length + 2) 2 0 1, [j]⟩ : AS Jump) = [H.length + 2] := by
    rw [ids_sl (s := (⟨.sl (H.length + 2) 2 0 1, [j]⟩ : AS Jump)) rfl, iJ]
  have oa : Own (X ++ R) (⟨a.params_, a.insts_, 2, 0, ⟨.sl (H.length + 2) 2 0 1, [j]⟩⟩ : CBlock) := CBlock.own oi' oS fun x hx hy => by
    rw [iS] at hy
    have := oi.lt hx
    rw [List.mem_singleton.1 hy] at this; omega
  have ida : ∀ x ∈ ids (⟨a.params_, a.insts_, 2, 0, ⟨.sl (H.length + 2) 2 0 1, [j]⟩⟩ : CBlock), x ∈ ids a ∨ H.length ≤ x := fun x hx => by
    rw [ids_CBlock] at hx
    rcases List.mem_append.1 hx with hx | hx
    · exact .inl (ia x hx)
    · rw [show ids (⟨a.params_, a.insts_, 2, 0, ⟨.sl (H.length + 2) 2 0 1, [j]⟩⟩ : CBlock).jumps_ = [H.length + 2] from iS] at hx
      exact .inr (by rw [List.mem_singleton.1 hx]; omega)
  have e : ∀ b : CBlock, m ++ [b] ++ l = m ++ b :: l := fun b => by simp
  have hlen := q.len
  have oL := hE.put (a' := (⟨a.params_, a.insts_, 2, 0, ⟨.sl (H.length + 2) 2 0 1, [j]⟩⟩ : CBlock)) oa ida fun x hx => by
    have hm : x ∈ (m ++ a :: l).flatMap ids := by
      rw [List.flatMap_append, List.flatMap_cons]
      rcases List.mem_append.1 hx with h | h
      · exact List.mem_append_left _ h
      · exact List.mem_append_right _ (List.mem_append_right _ h)
    exact at_ x (fun e => rn (e ▸ hm)) (hE.lt hm)
  have hc : [V.d (.int .i64 a.params_), a.insts_.v, .d (.int .i64 2), .d (.int .i64 0), .sl (H.length + 2) 2 0 1] = Tr.cells (⟨a.params_, a.insts_, 2, 0, ⟨.sl (H.length + 2) 2 0 1, [j]⟩⟩ : CBlock) := rfl
  have era' : Tr.era (⟨a.params_, a.insts_, 2, 0, ⟨.sl (H.length + 2) 2 0 1, [j]⟩⟩ : CBlock) = foldB F (Tr.era a) := by
    unfold foldB
    rw [if_pos hf, ← hjd]; rfl
  generalize (⟨a.params_, a.insts_, 2, 0, ⟨.sl (H.length + 2) 2 0 1, [j]⟩⟩ : CBlock) = a' at oa ida hc oL era' ⊢
  have rowG : (X ++ R)[A.blocks_.id]? = some (.row 5 ((m ++ a' :: l).map Tr.cells)) := by
    rw [List.getElem?_append_left (by omega), ← hX, List.getElem?_set_self hid, hc]
    exact congrArg (fun r => some (Place.row 5 r)) (rowL_set a')
  have notL : A.blocks_.id ∉ (m ++ a' :: l).flatMap ids := fun hx => by
    rw [List.flatMap_append, List.flatMap_cons] at hx
    rcases List.mem_append.1 hx with h | h
    · exact rn (by rw [List.flatMap_append]; exact List.mem_append_left _ h)
    · rcases List.mem_append.1 h with h | h
      · rcases ida _ h with h | h
        · exact rn (suba _ h)
        · omega
      · exact rn (by rw [List.flatMap_append, List.flatMap_cons]; exact List.mem_append_right _ (List.mem_append_right _ h))
  have oW := Own.mkS oL rowG notL
  have hv : A.blocks_.v = .sl A.blocks_.id (Enc.size Block) 0 (m ++ a' :: l).length := by
    have h2 : (m ++ a' :: l).length = (m ++ a :: l).length := by simp
    rw [h2]; exact rv
  refine ⟨by rw [e, hv]; exact oW, ?_, ?_, ?_, ⟨by simp [hXl]; have := q.only.len; omega, fun x hx hn => ?_⟩, q.idv, fun x hx => ?_, by simp at hlen ⊢; omega⟩
  · rw [List.length_append, List.length_singleton, ← List.drop_drop, ← q.left]; rfl
  · rw [List.map_append, q.era, List.length_append, List.length_singleton, take_snocD hlt, List.map_append, ← ha]
    simp [era']
  · rw [List.length_append, List.length_singleton, take_snocD hlt, List.map_append, ← ha, List.sum_append, ← q.cnt]
    simp [foldK, hf]
  · have h1 := q.only.at_ x hx hn
    have hne : x ≠ A.blocks_.id := fun e => hn (e ▸ q.idv)
    rw [at_ x hne (by have := q.only.len; omega)]; exact h1
  · rw [e] at hx
    have hi : ids (⟨A.blocks_.v, m ++ a' :: l⟩ : AS CBlock) = A.blocks_.id :: (m ++ a' :: l).flatMap ids := ids_sl hv
    rw [hi] at hx
    have up : ∀ x ∈ (m ++ a :: l).flatMap ids, x ∈ ids A.blocks_ ∨ H0.length ≤ x := fun x hx => q.idl x (by rw [ri]; exact List.mem_cons_of_mem _ hx)
    rcases List.mem_cons.1 hx with rfl | hx
    · exact .inl q.idv
    · rw [List.flatMap_append, List.flatMap_cons] at hx
      rcases List.mem_append.1 hx with h | h
      · exact up x (by rw [List.flatMap_append]; exact List.mem_append_left _ h)
      · rcases List.mem_append.1 h with h | h
        · rcases ida _ h with h | h
          · exact up x (suba _ h)
          · exact .inr (Nat.le_trans q.only.len h)
        · exact up x (by rw [List.flatMap_append, List.flatMap_cons]; exact List.mem_append_right _ (List.mem_append_right _ h))
end Go.Proofs.YtbmloeahcdneaaaGreat
