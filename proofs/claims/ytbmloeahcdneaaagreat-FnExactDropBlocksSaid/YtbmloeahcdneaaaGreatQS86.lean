/- The reference's walk over the blocks that stay. No condition. -/
import Derived.Test.YtbmloeahcdneaaaGreatQS13
import Derived.Test.YtbmloeahcdneaaaGreatQS42
import Derived.Test.YtbmloeahcdneaaaGreatQS73
import Derived.Test.YtbmloeahcdneaaaGreatQS81
section
namespace Go.Proofs.YtbmloeahcdneaaaGreat
set_option maxRecDepth 100000
set_option linter.unusedSimpArgs false
set_option linter.unusedVariables false
def pv0 (_ : Int) : Bool := false
theorem kpt0_blk {F : Func} (hg : goodF F = true) {pb : Int → Bool} {k v : Nat} (hk : k < F.blocks_.length) (h1 : fstN F k ≤ v) (h2 : v < fstN F (k + 1)) : kpt F pv0 pb v = !pb k := by
  have hp : F.params_.toNat ≤ v := by unfold fstN at h1; omega
  unfold kpt
  rw [(lay hg).bkB k v hk h1 h2, decide_eq_false (by omega)]
  simp [pv0]
theorem nxt_const {F : Func} {pv pb : Int → Bool} {a : Nat} (ha : F.params_.toNat ≤ a) : ∀ {b : Nat}, a ≤ b → (∀ v, a ≤ v → v < b → kpt F pv pb v = false) → nxt F pv pb b = nxt F pv pb a := by
  intro b h
  induction h with
  | refl => intro _; rfl
  | step h ih =>
    intro hk
    rename_i m
    have hm : a ≤ m := h
    rw [nxt_succ F pv pb (k := m) (by omega), hk m hm (by omega), ih fun v h1 h2 => hk v h1 (by omega)]; rfl
theorem cntW_mono (pb : Int → Bool) {a b : Nat} (h : a ≤ b) : cntW pb a ≤ cntW pb b := by
  induction h with
  | refl => exact Nat.le_refl _
  | step h ih => rw [cntW_succ]; omega
theorem cnt_gap {pb : Int → Bool} {a b : Nat} (hc : cntW pb a = cntW pb b) {j : Nat} (h1 : a ≤ j) (h2 : j < b) : pb j = true := by
  cases q : pb j with
  | true => rfl
  | false =>
    have e := cntW_succ pb j
    rw [q] at e
    have := cntW_mono pb h1
    have := cntW_mono pb (show j + 1 ≤ b from h2)
    simp at e; omega
theorem fst_find {F : Func} {a b v : Nat} (h1 : fstN F a ≤ v) (h2 : v < fstN F b) (hb : b ≤ F.blocks_.length) : ∃ k, a ≤ k ∧ k < b ∧ fstN F k ≤ v ∧ v < fstN F (k + 1) := by
  induction b with
  | zero => have := fstN_mono F (Nat.zero_le a); omega
  | succ b ih =>
    by_cases hv : v < fstN F b
    · obtain ⟨k, q1, q2, q3⟩ := ih hv (by omega)
      exact ⟨k, q1, by omega, q3⟩
    · refine ⟨b, ?_, by omega, by omega, h2⟩
      by_cases hab : a ≤ b
      · exact hab
      · have := fstN_mono F (show b + 1 ≤ a by omega); omega
theorem gap {F : Func} (hg : goodF F = true) {pb : Int → Bool} {a b : Nat} (hab : a ≤ b) (hb : b ≤ F.blocks_.length) (hc : cntW pb a = cntW pb b) :
    (∀ v, fstN F a ≤ v → v < fstN F b → numW F pv0 pb v = 0) ∧ nxt F pv0 pb (fstN F b) = nxt F pv0 pb (fstN F a) ∧ ∀ j, a ≤ j → j < b → bnoW pb j = 0 := by
  have hp : ∀ k, F.params_.toNat ≤ fstN F k := fun k => by unfold fstN; omega
  have hk : ∀ v, fstN F a ≤ v → v < fstN F b → kpt F pv0 pb v = false := fun v h1 h2 => by
    obtain ⟨k, q1, q2, q3, q4⟩ := fst_find h1 h2 hb
    rw [kpt0_blk hg (by omega) q3 q4, cnt_gap hc q1 q2]; rfl
  refine ⟨fun v h1 h2 => ?_, nxt_const (hp a) (fstN_mono F hab) hk, fun j h1 h2 => ?_⟩
  · unfold numW
    rw [if_neg (by have := hp a; omega), if_neg (by rw [hk v h1 h2]; simp)]
  · unfold bnoW
    rw [if_pos (cnt_gap hc h1 h2)]
theorem fillR_gap {n a b : Nat} {f : Nat → List V} {z : List V} (hab : a ≤ b) (h : ∀ j, a ≤ j → j < b → f j = z) : fillR n a f z = fillR n b f z := by
  unfold fillR
  refine List.map_congr_left fun j _ => ?_
  by_cases h1 : j < a
  · rw [if_pos h1, if_pos (by omega)]
  · by_cases h2 : j < b
    · rw [if_neg h1, if_pos h2, h j (by omega) h2]
    · rw [if_neg h1, if_neg h2]
theorem numsOf_at (p : Nat → Bool) : ∀ (n i : Nat), i < (numsOf p n).length → ∃ k : Nat, k < n ∧ (numsOf p n)[i]? = some (k : Int) ∧ p k = true ∧ ((List.range k).filter p).length = i
  | 0, i, h => by simp [numsOf] at h
  | n + 1, i, h => by
    have e : numsOf p (n + 1) = numsOf p n ++ if p n = true then [(n : Int)] else [] := by
      unfold numsOf
      rw [List.range_succ, List.filter_append, List.map_append]
      congr 1
      simp only [List.filter_cons, List.filter_nil]
      cases p n <;> rfl
    by_cases hi : i < (numsOf p n).length
    · obtain ⟨k, h1, h2, h3⟩ := numsOf_at p n i hi
      exact ⟨k, by omega, by rw [e, List.getElem?_append_left hi]; exact h2, h3⟩
    · cases q : p n with
      | false => rw [e, q] at h; simp at h; exact absurd h hi
      | true =>
        rw [e, q, if_pos rfl, List.length_append, List.length_singleton] at h
        have hin : i = (numsOf p n).length := by omega
        refine ⟨n, by omega, by rw [e, q, if_pos rfl, hin]; simp, q, ?_⟩
        rw [hin]; simp [numsOf]
theorem numsOf_cnt (pb : Int → Bool) (p : Nat → Bool) (n : Nat) (h : ∀ k, k < n → p k = !pb k) {k : Nat} (hk : k ≤ n) : ((List.range k).filter p).length = cntW pb k := by
  unfold cntW
  congr 1
  exact List.filter_congr fun j hj => h j (by have := List.mem_range.1 hj; omega)
end Go.Proofs.YtbmloeahcdneaaaGreat
end

section
namespace Go.Proofs.YtbmloeahcdneaaaGreat
set_option maxRecDepth 100000
set_option linter.unusedSimpArgs false
set_option linter.unusedVariables false
theorem toJumpsC {pb : Int → Bool} {nb br t17 : Nat} {b : CBlock} {H0 : Heap} {p e vl : Int} {vi : V} (hO : Own H0 b.jumps_) (hjv : b.jumps_.v = .sl b.jumps_.id 2 0 b.jumps_.l.length) (hl : b.jumps_.l.length ≤ 1000) (hto : ∀ x ∈ b.jumps_.l, 0 ≤ x.to_ ∧ x.to_ < nb)
    (hcell : H0[t17]? = some (.row 5 [[.d (.int .i64 p), vi, .d (.int .i64 e), .d (.int .i64 vl), b.jumps_.v]])) (ht : t17 ∉ ids b.jumps_) (hrb : H0[br]? = some (.row 1 (fillR nb nb (fun j => [.d (.int .i64 (bnoW pb j))]) [.d (.int .i64 0)]))) (hbn : br ∉ ids b.jumps_)
    {s1 s2 s4 s13 s14 s16 s87 s88 s89 : V} {n0 : Nat} {c : Code} (hcd : (loopsIn (Tryz.f58.body.getD .skip))[4]? = some c) {Q : Exit → St → Prop} {s : St}
    (hs : IntoH s [(1, s1), (2, s2), (4, s4), (6, .sl br 1 0 nb), (13, s13), (14, s14), (16, s16), (17, .ptr t17 5 0 0), (87, s87), (88, s88), (89, s89), (99, .sl b.jumps_.id 2 0 b.jumps_.l.length), (100, .d (.int .i64 b.jumps_.l.length)), (101, .d (.int .i64 0))] H0)
    (hq : ∀ l' H' R js, mk l' 1 = s1 → mk l' 2 = s2 → mk l' 4 = s4 → mk l' 6 = .sl br 1 0 nb → mk l' 13 = s13 → mk l' 14 = s14 → mk l' 16 = s16 → mk l' 17 = .ptr t17 5 0 0 →
      mk l' 87 = s87 → mk l' 88 = s88 → mk l' 89 = s89 → Made H0 H' b.jumps_ js → Tr.era js = (Tr.era b.jumps_).map (toJ pb) → Q (.exit 8) ⟨mk l', H' ++ R⟩) : W Tryz.prog 131 n0 c Q s := by
  cases hcd
  refine W_loopH (α := List Jump × List Jump × Heap × Heap) (fun a => [(1, s1), (2, s2), (4, s4), (6, .sl br 1 0 nb), (13, s13), (14, s14), (16, s16), (17, .ptr t17 5 0 0), (87, s87), (88, s88), (89, s89), (99, .sl b.jumps_.id 2 0 b.jumps_.l.length), (100, .d (.int .i64 b.jumps_.l.length)), (101, .d (.int .i64 a.1.length))]) (fun a => a.2.2.1 ++ a.2.2.2)
    (fun a => Mk (nk (toJ pb)) H0 b.jumps_ 0 a.1 a.2.1 0 a.2.2.1) (fun a => b.jumps_.l.length - a.1.length) ([], b.jumps_.l, H0, []) (by rw [List.append_nil]; exact hs) (Mk.nil hO) ?_
  rintro ⟨m, l, H1, R1⟩ hm
  dsimp only at hm ⊢
  have hc1 := (hm.only.at_ t17 (List.getElem?_eq_some_iff.1 hcell).1 ht).trans hcell
  have hb1 := (hm.only.at_ br (List.getElem?_eq_some_iff.1 hrb).1 hbn).trans hrb
  have hc1R : ∀ R : Heap, (H1 ++ R)[t17]? = _ := fun R => (List.getElem?_append_left (List.getElem?_eq_some_iff.1 hc1).1).trans hc1
  have hb1R : ∀ R : Heap, (H1 ++ R)[br]? = _ := fun R => (List.getElem?_append_left (List.getElem?_eq_some_iff.1 hb1).1).trans hb1
  cases l with
  | nil =>
    have hge := hm.ge
    obtain ⟨q1, q2⟩ := hm.done hge
    rw [mkL_nk] at q2
    have q3 : Tr.era (⟨b.jumps_.v, m⟩ : AS Jump) = (Tr.era b.jumps_).map (toJ pb) := congrArg Prod.fst q2
    refine W_runS mixed [33] ⟨[K_103, K_80, K_104], [K_103h, K_80h, K_104h], [82], 131, n0, [0, 1, 2, 3, 4, 5, 6, 7, 8, 9, 10, 11, 12, 13, 14, 16, 17, 18, 19, 34, 41, 42, 43, 44, 71, 87, 88, 89, 90, 99, 100, 101, 102], [34, 44, 71, 90, 102]⟩ (fun | 15 => [0, 2, 4, 7, 1, 3, 5, 6, 8, 9, 10, 11] | 29 => [0, 2, 3, 4, 1, 5, 6, 7, 8, 9, 10] | 33 => [1, 4, 5, 0, 2, 3, 6, 7, 8] | _ => []) (by kernel_rfl) ?_
    simp only [stripS, skip_cons, skip_nil, Nat.reduceBEq, Bool.or_false, Bool.or_self, Bool.or_true, Bool.true_or, cond_true, cond_false, stripX, stripOps, pickOps]
    simp [K_103_f, K_103_e, K_80_f, K_80_e, K_104_f, K_104_e, K_103h_f, K_103h_e, K_80h_f, K_80h_e, K_104h_f, K_104h_e, K_103h_g, K_80h_g, K_104h_g, -V.flat, -V.one, one_int, one_bool, one_str, one_nilp, one_rp, one_nilsl, one_ro, one_cl, one_nilf, one_nili, one_ifc, one_ptr, one_sl, one_clo, flat_d, flat_ptr, flat_sl, flat_clo, flat_agg, -decA, decA_int, decA_bool, decA_str, Nat.not_lt.2 hge]
    exact hq _ _ _ _ (by simp) (by simp) (by simp) (by simp) (by simp) (by simp) (by simp) (by simp) (by simp) (by simp) (by simp) q1 q3
  | cons a l =>
    have hlt := hm.lt
    obtain ⟨r1, r2, r3⟩ := hm.row
    have r1R : ∀ R : Heap, (H1 ++ R)[b.jumps_.id]? = _ := fun R => (List.getElem?_append_left r2).trans r1
    have sR : ∀ (R : Heap) p, (H1 ++ R).set b.jumps_.id p = H1.set b.jumps_.id p ++ R := fun R p => List.set_append_left _ _ r2
    have hmem : a ∈ b.jumps_.l := List.mem_of_mem_drop (by rw [← hm.left]; exact List.mem_cons_self)
    obtain ⟨x0, x1⟩ := hto a hmem
    have hxt : a.to_.toNat < nb := by omega
    have hg := fillR_get nb nb (fun j => [V.d (.int .i64 (bnoW pb j))]) [.d (.int .i64 0)] hxt
    rw [if_pos hxt] at hg
    have hg2 : ∀ h : a.to_.toNat < (fillR nb nb (fun j => [V.d (.int .i64 (bnoW pb j))]) [.d (.int .i64 0)]).length, (fillR nb nb (fun j => [V.d (.int .i64 (bnoW pb j))]) [.d (.int .i64 0)])[a.to_.toNat] = [.d (.int .i64 (bnoW pb a.to_.toNat))] := fun h => by
      have := List.getElem?_eq_getElem h
      rw [hg] at this
      exact (Option.some.inj this).symm
    have wi : IntKind.i64.wrap ((m.length : Int) + 1) = ((m.length + 1 : Nat) : Int) := by rw [wrap_id] <;> omega
    have hset : (rowL m a l).set m.length [V.d (.int .i64 (bnoW pb a.to_.toNat)), .d (dIntS a.args_)] = rowL m (⟨bnoW pb a.to_.toNat, a.args_⟩ : Jump) l := rowL_set (a := a) (⟨bnoW pb a.to_.toNat, a.args_⟩ : Jump)
    have hcj : Tr.cells a = [.d (.int .i64 a.to_), .d (dIntS a.args_)] := rfl
    refine W_runS mixed [33] ⟨[K_103, K_80, K_104], [K_103h, K_80h, K_104h], [82], 131, n0, [0, 1, 2, 3, 4, 5, 6, 7, 8, 9, 10, 11, 12, 13, 14, 16, 17, 18, 19, 34, 41, 42, 43, 44, 71, 87, 88, 89, 90, 99, 100, 101, 102], [34, 44, 71, 90, 102]⟩ (fun | 15 => [0, 2, 4, 7, 1, 3, 5, 6, 8, 9, 10, 11] | 29 => [0, 2, 3, 4, 1, 5, 6, 7, 8, 9, 10] | 33 => [1, 4, 5, 0, 2, 3, 6, 7, 8] | _ => []) (by kernel_rfl) ?_
    simp only [stripS, skip_cons, skip_nil, Nat.reduceBEq, Bool.or_false, Bool.or_self, Bool.or_true, Bool.true_or, cond_true, cond_false, stripX, stripOps, pickOps]
    simp [K_103_f, K_103_e, K_80_f, K_80_e, K_104_f, K_104_e, K_103h_f, K_103h_e, K_80h_f, K_80h_e, K_104h_f, K_104h_e, K_103h_g, K_80h_g, K_104h_g, -V.flat, -V.one, one_int, one_bool, one_str, one_nilp, one_rp, one_nilsl, one_ro, one_cl, one_nilf, one_nili, one_ifc, one_ptr, one_sl, one_clo, flat_d, flat_ptr, flat_sl, flat_clo, flat_agg, -decA, decA_int, decA_bool, decA_str, hlt, hc1R, hb1R, hjv, r1R, sR, rowL_len, rowL_get, rowL_at, hcj, x0, x1, hxt, hg, hg2, hset]
    have hw := hm.wk.write (⟨bnoW pb a.to_.toNat, a.args_⟩ : Jump) trivial rfl
    exact ⟨_, l, _, hm.close hw rfl, by simp; omega, ⟨_, rfl⟩, by rw [wi]; simp⟩
theorem flt_none {α : Type} [Inhabited α] (base : Nat) (l : List α) : flt pv0 base l l.length = l := by
  unfold flt
  have e : (List.range l.length).filter (fun j => !pv0 ((base + j : Nat) : Int)) = List.range l.length := List.filter_eq_self.2 fun _ _ => rfl
  rw [e]
  refine List.ext_getElem (by simp) fun j h1 h2 => ?_
  simp [List.getElem?_eq_getElem h2]
theorem BL.skips {α : Type} [Tr α Block] {H : Heap} {F : Func} {pv pb : Int → Bool} {nb br t14 : Nat} {bs : AS α} {B k : Nat} {vo : V} {lo : List α} {G : Heap} (h : BL H F pv pb nb br t14 bs B vo lo G) (hBk : B ≤ k) : k ≤ bs.l.length → (∀ j, B ≤ j → j < k → pb j = true) → BL H F pv pb nb br t14 bs k vo lo G := by
  induction hBk with
  | refl => intro _ _; exact h
  | step hm ih =>
    intro hk hp
    exact (ih (by omega) fun j h1 h2 => hp j h1 (by omega)).skip (by omega) (hp _ hm (by omega)) (Only.refl _ _)
theorem BL.addC {H : Heap} {F : Func} {pb : Int → Bool} {nb br t14 : Nat} {bs : AS CBlock} {k : Nat} {vo : V} {lo : List CBlock} {G : Heap} (h : BL H F pv0 pb nb br t14 bs k vo lo G) (hp : pb k = false) (c1 : H.length < t14 ∧ t14 ≠ br ∧ t14 ≠ bs.id ∧ H.length < br ∧ H.length < bs.id)
    {b : CBlock} (hb : bs.l[k]? = some b) (heb : Tr.era b = mpB (fun x => numW F pv0 pb x.toNat) (F.blocks_[k]?.getD default)) {P : Place} {H4 X : Heap} {js : AS Jump} (hm : Made (G ++ [P]) H4 b.jumps_ js) (hjs : Tr.era js = (Tr.era b.jumps_).map (toJ pb))
    (hX : ∀ j, j < H4.length → j ≠ t14 → (0 < lo.length → j ≠ vo.slId) → X[j]? = H4[j]?) {id' : Nat} (ht : X[t14]? = some (.row 2 [[.d (.int .i64 F.params_), .sl id' 5 0 (lo.length + 1)]])) (hr : X[id']? = some (.row 5 (lo.map Tr.cells ++ [Tr.cells b]))) (hid : H4.length ≤ id') (hlX : H4.length ≤ X.length) :
    BL H F pv0 pb nb br t14 bs (k + 1) (.sl id' 5 0 (lo.length + 1)) (lo ++ [{ b with jumps_ := js }]) X ∧ ids ({ b with jumps_ := js } : CBlock) = ids b := by
  have hk := (List.getElem?_eq_some_iff.1 hb).1
  have hmem : b ∈ lo ++ bs.l.drop k := List.mem_append_right _ (by
    rw [List.drop_eq_getElem_cons hk]
    rw [List.getElem?_eq_getElem hk] at hb
    rw [Option.some.inj hb]; exact List.mem_cons_self)
  have hO : Own G b := h.own.get hmem
  have hib : ∀ j ∈ ids b, j ∈ (lo ++ bs.l.drop k).flatMap ids := fun j hj => List.mem_flatMap.2 ⟨b, hmem, hj⟩
  have hM := CBlock.made_jumps_ (x := b) (hO.frame (Only.app [] _ [P]) fun j _ hj => absurd hj List.not_mem_nil) hm
  have hids : ids ({ b with jumps_ := js } : CBlock) = ids b := hM.ids
  have hlen : H4.length = G.length + 1 := by rw [hM.len]; simp
  have hne : ∀ j ∈ ids b, j ≠ t14 ∧ (0 < lo.length → j ≠ vo.slId) := fun j hj => ⟨(h.fr j (hib j hj)).2.1, fun hl e => by
    rcases h.vo with ⟨q1, _⟩ | ⟨id, rfl, q2, q3, q4, q5, q6, q7, q8⟩
    · rw [q1] at hl; exact absurd hl (by simp)
    · exact q8 ((show j = id from e) ▸ hib j hj)⟩
  have hOX : Own X ({ b with jumps_ := js } : CBlock) := hM.own.same fun j hj hl => hX j hl (hne j (hids ▸ hj)).1 (hne j (hids ▸ hj)).2
  have eN : Tr.era ({ b with jumps_ := js } : CBlock) = wB F pv0 pb k := by
    unfold wB
    rw [← heb]
    show Block.mk b.params_ (b.insts_.l.map Tr.era) b.end_ b.value_ (Tr.era js) = Block.mk b.params_ (flt pv0 (fstN F k + b.params_.toNat) (b.insts_.l.map Tr.era) (b.insts_.l.map (Tr.era (α := Inst))).length) b.end_ b.value_ ((Tr.era b.jumps_).map (toJ pb))
    rw [hjs, flt_none]
  refine ⟨h.add hp c1 hb hOX (fun j hj => .inl (hids ▸ hj)) eN (by omega) (fun j h1 h2 h3 h4 => ?_) ht ?_ (by omega) (fun q => ?_), hids⟩
  · rw [hX j (by omega) h3 h4, hM.only.at_ j (by simp; omega) h2]
    exact List.getElem?_append_left h1
  · rw [hr, List.map_append]
    show some (Place.row 5 (lo.map Tr.cells ++ [Tr.cells b])) = some (Place.row 5 (lo.map Tr.cells ++ [Tr.cells ({ b with jumps_ := js } : CBlock)]))
    rw [hM.cells]
  · rw [hids] at q
    have := hO.lt q; omega
structure B3 (H : Heap) (F : Func) (pb : Int → Bool) (nb br t14 t13 : Nat) (p : Int) (bs : AS CBlock) (i B : Nat) (vo : V) (lo : List CBlock) (G : Heap) : Prop where
  cnt : cntW pb B = i
  bl : BL H F pv0 pb nb br t14 bs B vo lo G
  r13 : G[t13]? = some (.row 2 [[.d (.int .i64 p), .sl bs.id 5 0 nb]])
  n13 : t13 ∉ (lo ++ bs.l.drop B).flatMap ids
  v13 : 0 < lo.length → vo.slId ≠ t13
set_option maxHeartbeats 4000000 in
theorem blocksC {H : Heap} {F : Func} (hg : goodF F = true) {nb br t13 t14 : Nat} (hnb : F.blocks_.length = nb) {pb : Int → Bool} {l : List Int} (hll : l.length ≤ 8)
    (hat : ∀ i, i < l.length → ∃ k : Nat, k < nb ∧ l[i]? = some (k : Int) ∧ pb k = false ∧ cntW pb k = i) (hcl : cntW pb nb = l.length)
    {bs : AS CBlock} (hera : bs.l.map Tr.era = F.blocks_.map (mpB (fun x => numW F pv0 pb x.toNat))) (c1 : H.length < t14 ∧ t14 ≠ br ∧ t14 ≠ bs.id ∧ H.length < br ∧ H.length < bs.id) (c2 : t13 ≠ t14)
    {p : Int} {s1 s2 : V} {n0 : Nat} {c : Code} (hcd : (loopsIn (Tryz.f58.body.getD .skip))[3]? = some c) {Q : Exit → St → Prop} {s : St} {G : Heap}
    (hs : IntoH s [(1, s1), (2, s2), (4, .d (dIntS l)), (6, .sl br 1 0 nb), (13, .ptr t13 2 0 0), (14, .ptr t14 2 0 0), (87, .d (dIntS l)), (88, .d (.int .i64 l.length)), (89, .d (.int .i64 0))] G) (h0 : BL H F pv0 pb nb br t14 bs 0 (.d .nilsl) [] G)
    (h13 : G[t13]? = some (.row 2 [[.d (.int .i64 p), .sl bs.id 5 0 nb]])) (n13 : t13 ∉ bs.l.flatMap ids)
    (hq : ∀ l' H' vo lo, mk l' 1 = s1 → mk l' 2 = s2 → mk l' 4 = .d (dIntS l) → mk l' 14 = .ptr t14 2 0 0 → BL H F pv0 pb nb br t14 bs nb vo lo H' → Q (.exit 6) ⟨mk l', H'⟩) : W Tryz.prog 131 n0 c Q s := by
  cases hcd
  have hL := lay hg
  have hb8 : nb ≤ 8 := by have := hL.len.1; omega
  have hlbs : bs.l.length = nb := by have := congrArg List.length hera; simpa [hnb] using this
  refine W_loopH (α := Nat × Nat × V × List CBlock × Heap) (fun a => [(1, s1), (2, s2), (4, .d (dIntS l)), (6, .sl br 1 0 nb), (13, .ptr t13 2 0 0), (14, .ptr t14 2 0 0), (87, .d (dIntS l)), (88, .d (.int .i64 l.length)), (89, .d (.int .i64 a.1))]) (fun a => a.2.2.2.2)
    (fun a => a.1 ≤ l.length ∧ B3 H F pb nb br t14 t13 p bs a.1 a.2.1 a.2.2.1 a.2.2.2.1 a.2.2.2.2)
    (fun a => l.length - a.1) (0, 0, .d .nilsl, [], G) hs ⟨Nat.zero_le _, rfl, h0, h13, by rw [List.nil_append, List.drop_zero]; exact n13, fun h => absurd h (by simp)⟩ ?_
  clear h13
  rintro ⟨i, B, vo, lo, H1⟩ ⟨hi, hcB, hB, h13, n13', v13⟩
  simp only [] at hi hcB hB h13 n13' v13 ⊢
  by_cases hil : i < l.length
  · obtain ⟨k, hkn, hlk, hpbk, hck⟩ := hat i hil
    have hBk : B ≤ k := by
      by_cases h : B ≤ k
      · exact h
      · have e := cntW_succ pb k
        rw [hpbk] at e
        have := cntW_mono pb (show k + 1 ≤ B by omega)
        simp at e; omega
    have hkl : k < bs.l.length := by omega
    replace hB := hB.skips hBk (by omega) fun j h1 h2 => cnt_gap (by omega) h1 h2
    have n13k : t13 ∉ (lo ++ bs.l.drop k).flatMap ids := fun q => n13' ((sub_flatMap ids ((List.Sublist.refl lo).append (by
      have : bs.l.drop k = (bs.l.drop B).drop (k - B) := by rw [List.drop_drop]; congr 1; omega
      rw [this]; exact List.drop_sublist _ _))).subset q)
    have hli : ∀ h : i < l.length, l[i] = (k : Int) := fun h => Option.some.inj ((List.getElem?_eq_getElem h).symm.trans hlk)
    have wi : IntKind.i64.wrap ((i : Int) + 1) = ((i + 1 : Nat) : Int) := by rw [wrap_id] <;> omega
    have hki : (k : Int) < nb := by omega
    obtain ⟨b, hbk⟩ : ∃ b : CBlock, bs.l[k]? = some b := ⟨_, List.getElem?_eq_getElem hkl⟩
    have hlen : ∀ h : k < bs.l.length, bs.l[k] = b := fun h => Option.some.inj ((List.getElem?_eq_getElem h).symm.trans hbk)
    have hmem : b ∈ lo ++ bs.l.drop k := List.mem_append_right _ (by rw [List.drop_eq_getElem_cons hkl, hlen]; exact List.mem_cons_self)
    have hbO : Own H1 b := hB.own.get hmem
    have hoJ := CBlock.own_jumps_ hbO
    have hbm : F.blocks_[k]?.getD default ∈ F.blocks_ := by rw [List.getElem?_eq_getElem (show k < F.blocks_.length by omega)]; exact List.getElem_mem _
    have heb : Tr.era b = mpB (fun x => numW F pv0 pb x.toNat) (F.blocks_[k]?.getD default) := by
      have := congrArg (fun l => l[k]?) hera
      simp only [List.getElem?_map, hbk, List.getElem?_eq_getElem (show k < F.blocks_.length by omega)] at this
      rw [List.getElem?_eq_getElem (show k < F.blocks_.length by omega)]
      exact Option.some.inj this
    have hjl : b.jumps_.l.length = (F.blocks_[k]?.getD default).jumps_.length := by
      have := congrArg (fun b : Block => b.jumps_.length) heb
      simpa [Tr.era, mpB] using this
    have hj2 := ((good_small hg).2 _ hbm).2.1
    have hjto : ∀ x ∈ b.jumps_.l, 0 ≤ x.to_ ∧ x.to_ < nb := fun x hx => by
      have q : Tr.era x ∈ (Tr.era b).jumps_ := List.mem_map.2 ⟨x, hx, rfl⟩
      rw [heb] at q
      obtain ⟨y, hy, e⟩ := List.mem_map.1 (show Tr.era x ∈ (F.blocks_[k]?.getD default).jumps_.map (mpJ _) from q)
      have q2 := jump_to hg hbm hy
      have q3 : x.to_ = y.to_ := (congrArg Jump.to_ e).symm
      rw [q3]; omega
    have hib : ∀ j ∈ ids b, j ∈ (lo ++ bs.l.drop k).flatMap ids := fun j hj => List.mem_flatMap.2 ⟨b, hmem, hj⟩
    have hjb : ∀ j ∈ ids b.jumps_, j ∈ ids b := fun j hj => by rw [ids_CBlock]; exact List.mem_append_right _ hj
    have lt14 := (List.getElem?_eq_some_iff.1 hB.out).1
    have ltb := (List.getElem?_eq_some_iff.1 hB.rb).1
    have lt13 := (List.getElem?_eq_some_iff.1 h13).1
    have hr := hB.row
    have hlo : lo.length ≤ k := by
      have := congrArg List.length hB.era
      rw [List.length_map] at this
      have q := List.length_filter_le (fun j : Nat => !pb j) (List.range k)
      rw [List.length_range] at q
      rw [this]; unfold outB; rw [List.length_map]; exact q
    have nJ : H1.length ∉ ids b.jumps_ := fun q => by have := hoJ.lt q; omega
    -- behind the loop over the jumps
    have fin : ∀ {H4 : Heap} {js : AS Jump} {X : Heap} {id' : Nat}, Made (H1 ++ [.row 5 [Tr.cells b]]) H4 b.jumps_ js → Tr.era js = (Tr.era b.jumps_).map (toJ pb) → (∀ j, j < H4.length → j ≠ t14 → (0 < lo.length → j ≠ vo.slId) → X[j]? = H4[j]?) →
        X[t14]? = some (.row 2 [[.d (.int .i64 F.params_), .sl id' 5 0 (lo.length + 1)]]) → X[id']? = some (.row 5 (lo.map Tr.cells ++ [Tr.cells b])) → H4.length ≤ id' → H4.length ≤ X.length →
        B3 H F pb nb br t14 t13 p bs (i + 1) (k + 1) (.sl id' 5 0 (lo.length + 1)) (lo ++ [{ b with jumps_ := js }]) X := by
      intro H4 js X id' hm hjs hX ht hrr hid hlX
      obtain ⟨q1, q2⟩ := hB.addC hpbk c1 hbk heb hm hjs hX ht hrr hid hlX
      have l4 : H4.length = H1.length + 1 := by rw [hm.len]; simp
      refine ⟨by rw [cntW_succ, hpbk, hck]; rfl, q1, ?_, fun q => n13k ?_, fun _ => by show id' ≠ t13; omega⟩
      · rw [hX t13 (by omega) c2 fun h => (v13 h).symm, hm.only.at_ t13 (by simp; omega) fun q => n13k (hib _ (hjb _ q)), List.getElem?_append_left lt13]
        exact h13
      · rw [List.drop_eq_getElem_cons hkl, hlen, List.flatMap_append, List.flatMap_cons]
        rw [List.flatMap_append, List.flatMap_append] at q
        rcases List.mem_append.1 q with q | q
        · rcases List.mem_append.1 q with q | q
          · exact List.mem_append_left _ q
          · refine List.mem_append_right _ (List.mem_append_left _ ?_)
            rw [← q2]; simpa using q
        · exact List.mem_append_right _ (List.mem_append_right _ q)
    have hio : b.insts_.v.one = true := ((show okS b.insts_ from (CBlock.own_insts_ hbO).ok).1).scl.2
    -- the walk behind the jumps
    have step : ∀ {H4 : Heap} {js : AS Jump}, Made (H1 ++ [.row 5 [Tr.cells b]]) H4 b.jumps_ js → H4[t14]? = some (.row 2 [[.d (.int .i64 F.params_), vo]]) ∧ H4[H1.length]? = some (.row 5 [Tr.cells b]) ∧ t14 < H4.length ∧ H1.length < H4.length ∧ (∀ id, vo = .sl id 5 0 lo.length → 0 < lo.length → H4[id]? = some (.row 5 (lo.map Tr.cells)) ∧ id < H4.length ∧ id ≠ t14) := by
      intro H4 js hm
      have l4 : H4.length = H1.length + 1 := by rw [hm.len]; simp
      have kp : ∀ j P, j ∉ ids b.jumps_ → j < H1.length → H1[j]? = some P → H4[j]? = some P := fun j P h1 h2 q => by
        rw [hm.only.at_ j (by simp; omega) h1, List.getElem?_append_left h2]; exact q
      refine ⟨kp _ _ (fun q => (hB.fr _ (hib _ (hjb _ q))).2.1 rfl) lt14 hB.out, ?_, by omega, by omega, fun id e hp => ?_⟩
      · rw [hm.only.at_ _ (by simp) nJ]; simp
      · rcases hB.vo with ⟨q1, _⟩ | ⟨id', e', q2, q3, q4, q5, q6, q7, q8⟩
        · rw [q1] at hp; exact absurd hp (by simp)
        · rw [e'] at e
          have : id' = id := by injection e
          subst this
          have := (List.getElem?_eq_some_iff.1 q3).1
          exact ⟨kp _ _ (fun q => q8 (hib _ (hjb _ q))) this q3, by omega, q5⟩
    have h13R : ∀ R : Heap, (H1 ++ R)[t13]? = _ := fun R => (List.getElem?_append_left lt13).trans h13
    rcases hoJ.ok.1 with hjv | ⟨hj0, hjv⟩
    · have hjv : b.jumps_.v = .sl b.jumps_.id 2 0 b.jumps_.l.length := hjv
      refine W_runS mixed [33] ⟨[K_103, K_80, K_104], [K_103h, K_80h, K_104h], [82], 131, n0, [0, 1, 2, 3, 4, 5, 6, 7, 8, 9, 10, 11, 12, 13, 14, 16, 17, 18, 19, 34, 41, 42, 43, 44, 71, 87, 88, 89, 90, 99, 100, 101, 102], [34, 44, 71, 90, 102]⟩ (fun | 15 => [0, 2, 4, 7, 1, 3, 5, 6, 8, 9, 10, 11] | 29 => [0, 2, 3, 4, 1, 5, 6, 7, 8, 9, 10] | 33 => [1, 4, 5, 0, 2, 3, 6, 7, 8] | _ => []) (by kernel_rfl) ?_
      simp only [stripS, skip_cons, skip_nil, Nat.reduceBEq, Bool.or_false, Bool.or_self, Bool.or_true, Bool.true_or, cond_true, cond_false, stripX, stripOps, pickOps]
      simp [K_103_f, K_103_e, K_80_f, K_80_e, K_104_f, K_104_e, K_103h_f, K_103h_e, K_80h_f, K_80h_e, K_104h_f, K_104h_e, K_103h_g, K_80h_g, K_104h_g, -V.flat, -V.one, one_int, one_bool, one_str, one_nilp, one_rp, one_nilsl, one_ro, one_cl, one_nilf, one_nili, one_ifc, one_ptr, one_sl, one_clo, flat_d, flat_ptr, flat_sl, flat_clo, flat_agg, -decA, decA_int, decA_bool, decA_str, hil, hlk, hli, hkn, hki, h13, h13R, hr, hlen, hlbs, hjv, hio]
      refine toJumpsC (pb := pb) (nb := nb) (br := br) (t17 := H1.length) (b := b) (H0 := H1 ++ [.row 5 [Tr.cells b]]) (p := b.params_) (e := b.end_) (vl := b.value_) (vi := b.insts_.v) (hoJ.frame (Only.app [] _ _) fun j _ hj => absurd hj List.not_mem_nil) hjv (by omega) hjto (by simp) nJ ((List.getElem?_append_left ltb).trans hB.rb)
        (fun q => (hB.fr _ (hib _ (hjb _ q))).2.2.1 rfl) (s1 := s1) (s2 := s2) (s4 := .d (dIntS l)) (s13 := .ptr t13 2 0 0) (s14 := .ptr t14 2 0 0) (s16 := .d (.int .i64 k)) (s87 := .d (dIntS l)) (s88 := .d (.int .i64 l.length)) (s89 := .d (.int .i64 i)) rfl ?_
        fun l'' H4 R4 js f1 f2 f4 f6 f13 f14 f16 f17 f87 f88 f89 hmd hjs => ?_
      · simp [hjv]
      obtain ⟨g1, g2, g3, g4, g5⟩ := step hmd
      have hA : ∀ R : Heap, (H4 ++ R)[t14]? = some (.row 2 [[.d (.int .i64 F.params_), vo]]) := fun R => (List.getElem?_append_left g3).trans g1
      have hB2 : ∀ R : Heap, (H4 ++ R)[H1.length]? = some (.row 5 [[.d (.int .i64 b.params_), b.insts_.v, .d (.int .i64 b.end_), .d (.int .i64 b.value_), b.jumps_.v]]) := fun R => (List.getElem?_append_left g4).trans g2
      have hS : ∀ (R : Heap) p, (H4 ++ R).set t14 p = H4.set t14 p ++ R := fun R p => List.set_append_left _ _ g3
      rcases hB.vo with ⟨q1, rfl⟩ | ⟨vid, rfl, q2, q3, q4, q5, q6, q7, q8⟩
      · simp [K_103_f, K_103_e, K_80_f, K_80_e, K_104_f, K_104_e, K_103h_f, K_103h_e, K_80h_f, K_80h_e, K_104h_f, K_104h_e, K_103h_g, K_80h_g, K_104h_g, -V.flat, -V.one, one_int, one_bool, one_str, one_nilp, one_rp, one_nilsl, one_ro, one_cl, one_nilf, one_nili, one_ifc, one_ptr, one_sl, one_clo, flat_d, flat_ptr, flat_sl, flat_clo, flat_agg, -decA, decA_int, decA_bool, decA_str, f1, f2, f4, f6, f13, f14, f16, f17, f87, f88, f89, hjv, hio, hA, hB2, hS]
        have := fin (X := H4.set t14 (.row 2 [[.d (.int .i64 F.params_), .sl (H4.length + (R4.length + 1)) 5 0 (lo.length + 1)]]) ++ (R4 ++ [.row 5 [Tr.cells b], .row 5 (lo.map Tr.cells ++ [Tr.cells b])])) (id' := H4.length + (R4.length + 1)) hmd hjs (fun j h1 h2 h3 => ?_) ?_ ?_ (by omega) (by simp)
        · subst q1
          rw [cells_CBlock, hjv] at this
          exact ⟨i + 1, k + 1, _, _, _, ⟨by omega, this⟩, by omega, rfl, wi⟩
        · rw [List.getElem?_append_left (by simpa using h1), List.getElem?_set_ne h2.symm]
        · rw [List.getElem?_append_left (by simpa using g3), List.getElem?_set_self g3]
        · rw [List.getElem?_append_right (by simp), List.length_set, Nat.add_sub_cancel_left, List.getElem?_append_right (by omega), Nat.add_sub_cancel_left]; rfl
      · obtain ⟨g6, g7, g8⟩ := g5 vid rfl q2
        have v4R : ∀ R : Heap, (H4 ++ R)[vid]? = some (.row 5 (lo.map Tr.cells)) := fun R => (List.getElem?_append_left g7).trans g6
        have sv4R : ∀ (R : Heap) p, (H4 ++ R).set vid p = H4.set vid p ++ R := fun R p => List.set_append_left _ _ g7
        have o4v : ∀ (R : Heap) p, (H4.set vid p ++ R)[t14]? = some (.row 2 [[.d (.int .i64 F.params_), .sl vid 5 0 lo.length]]) := fun R p => (List.getElem?_append_left (by simp; omega)).trans ((List.getElem?_set_ne q5).trans g1)
        have s4v : ∀ (R : Heap) p p', (H4.set vid p ++ R).set t14 p' = (H4.set vid p).set t14 p' ++ R := fun R p p' => List.set_append_left _ _ (by simp; omega)
        simp [K_103_f, K_103_e, K_80_f, K_80_e, K_104_f, K_104_e, K_103h_f, K_103h_e, K_80h_f, K_80h_e, K_104h_f, K_104h_e, K_103h_g, K_80h_g, K_104h_g, -V.flat, -V.one, one_int, one_bool, one_str, one_nilp, one_rp, one_nilsl, one_ro, one_cl, one_nilf, one_nili, one_ifc, one_ptr, one_sl, one_clo, flat_d, flat_ptr, flat_sl, flat_clo, flat_agg, -decA, decA_int, decA_bool, decA_str, f1, f2, f4, f6, f13, f14, f16, f17, f87, f88, f89, hjv, hio, hA, hB2, hS, v4R, sv4R, o4v, s4v]
        have := fin (X := (H4.set vid .dead).set t14 (.row 2 [[.d (.int .i64 F.params_), .sl (H4.length + (R4.length + 1)) 5 0 (lo.length + 1)]]) ++ (R4 ++ [.row 5 [Tr.cells b], .row 5 (lo.map Tr.cells ++ [Tr.cells b])])) (id' := H4.length + (R4.length + 1)) hmd hjs (fun j h1 h2 h3 => ?_) ?_ ?_ (by omega) (by simp)
        · rw [cells_CBlock, hjv] at this
          exact ⟨by omega, i + 1, k + 1, _, _, _, ⟨by omega, this⟩, by omega, rfl, wi⟩
        · rw [List.getElem?_append_left (by simpa using h1), List.getElem?_set_ne h2.symm, List.getElem?_set_ne (show vid ≠ j from Ne.symm (h3 q2))]
        · rw [List.getElem?_append_left (by simpa using g3), List.getElem?_set_self (by simpa using g3)]
        · rw [List.getElem?_append_right (by simp), List.length_set, List.length_set, Nat.add_sub_cancel_left, List.getElem?_append_right (by omega), Nat.add_sub_cancel_left]; rfl
    · have hem : b.jumps_.l = [] := List.length_eq_zero_iff.1 hj0
      have hjs : Tr.era b.jumps_ = (Tr.era b.jumps_).map (toJ pb) := by
        have : Tr.era b.jumps_ = [] := by show b.jumps_.l.map Tr.era = []; rw [hem]; rfl
        rw [this]; rfl
      obtain ⟨H4, hH4⟩ : ∃ H4, H4 = H1 ++ [Place.row 5 [Tr.cells b]] := ⟨_, rfl⟩
      have hmd : Made (H1 ++ [.row 5 [Tr.cells b]]) H4 b.jumps_ b.jumps_ := by rw [hH4]; exact Made.refl (hoJ.frame (Only.app [] _ _) fun j _ hj => absurd hj List.not_mem_nil)
      obtain ⟨g1, g2, g3, g4, g5⟩ := step hmd
      have hA : ∀ R : Heap, (H4 ++ R)[t14]? = some (.row 2 [[.d (.int .i64 F.params_), vo]]) := fun R => (List.getElem?_append_left g3).trans g1
      have hB2 : ∀ R : Heap, (H4 ++ R)[H1.length]? = some (.row 5 [[.d (.int .i64 b.params_), b.insts_.v, .d (.int .i64 b.end_), .d (.int .i64 b.value_), b.jumps_.v]]) := fun R => (List.getElem?_append_left g4).trans g2
      have hS : ∀ (R : Heap) p, (H4 ++ R).set t14 p = H4.set t14 p ++ R := fun R p => List.set_append_left _ _ g3
      rw [cells_CBlock] at hH4 g2
      have l4 : H4.length = H1.length + 1 := by rw [hH4]; simp
      have fin2 := fun {X : Heap} {id' : Nat} => fin (H4 := H4) (js := b.jumps_) (X := X) (id' := id') hmd hjs
      rw [cells_CBlock] at fin2
      replace hjv : b.jumps_.v = .d .nilsl ∨ ∃ f, b.jumps_.v = .d (.ro 2 0 f) := hjv
      rcases hjv with hjv | ⟨f, hjv⟩
      all_goals
        rw [hjv] at hH4 g2 fin2
        refine W_runS mixed [33] ⟨[K_103, K_80, K_104], [K_103h, K_80h, K_104h], [82], 131, n0, [0, 1, 2, 3, 4, 5, 6, 7, 8, 9, 10, 11, 12, 13, 14, 16, 17, 18, 19, 34, 41, 42, 43, 44, 71, 87, 88, 89, 90, 99, 100, 101, 102], [34, 44, 71, 90, 102]⟩ (fun | 15 => [0, 2, 4, 7, 1, 3, 5, 6, 8, 9, 10, 11] | 29 => [0, 2, 3, 4, 1, 5, 6, 7, 8, 9, 10] | 33 => [1, 4, 5, 0, 2, 3, 6, 7, 8] | _ => []) (by kernel_rfl) ?_
        simp only [stripS, skip_cons, skip_nil, Nat.reduceBEq, Bool.or_false, Bool.or_self, Bool.or_true, Bool.true_or, cond_true, cond_false, stripX, stripOps, pickOps]
        simp [K_103_f, K_103_e, K_80_f, K_80_e, K_104_f, K_104_e, K_103h_f, K_103h_e, K_80h_f, K_80h_e, K_104h_f, K_104h_e, K_103h_g, K_80h_g, K_104h_g, -V.flat, -V.one, one_int, one_bool, one_str, one_nilp, one_rp, one_nilsl, one_ro, one_cl, one_nilf, one_nili, one_ifc, one_ptr, one_sl, one_clo, flat_d, flat_ptr, flat_sl, flat_clo, flat_agg, -decA, decA_int, decA_bool, decA_str, hil, hlk, hli, hkn, hki, h13, h13R, hr, hlen, hlbs, hjv, hio]
        rw [← hH4]
        refine W_loopH (α := Unit) (fun a => [(1, s1), (2, s2), (4, .d (dIntS l)), (6, .sl br 1 0 nb), (13, .ptr t13 2 0 0), (14, .ptr t14 2 0 0), (17, .ptr H1.length 5 0 0), (87, .d (dIntS l)), (88, .d (.int .i64 l.length)), (89, .d (.int .i64 i)), (100, .d (.int .i64 0)), (101, .d (.int .i64 0))]) (fun a => H4) (fun a => True) (fun a => 0) () ?_ trivial ?_
        · simp
        rintro ⟨⟩ _
        rcases hB.vo with ⟨q1, rfl⟩ | ⟨vid, rfl, q2, q3, q4, q5, q6, q7, q8⟩
        · refine W_runS mixed [33] ⟨[K_103, K_80, K_104], [K_103h, K_80h, K_104h], [82], 131, n0, [0, 1, 2, 3, 4, 5, 6, 7, 8, 9, 10, 11, 12, 13, 14, 16, 17, 18, 19, 34, 41, 42, 43, 44, 71, 87, 88, 89, 90, 99, 100, 101, 102], [34, 44, 71, 90, 102]⟩ (fun | 15 => [0, 2, 4, 7, 1, 3, 5, 6, 8, 9, 10, 11] | 29 => [0, 2, 3, 4, 1, 5, 6, 7, 8, 9, 10] | 33 => [1, 4, 5, 0, 2, 3, 6, 7, 8] | _ => []) (by kernel_rfl) ?_
          simp only [stripS, skip_cons, skip_nil, Nat.reduceBEq, Bool.or_false, Bool.or_self, Bool.or_true, Bool.true_or, cond_true, cond_false, stripX, stripOps, pickOps]
          simp [K_103_f, K_103_e, K_80_f, K_80_e, K_104_f, K_104_e, K_103h_f, K_103h_e, K_80h_f, K_80h_e, K_104h_f, K_104h_e, K_103h_g, K_80h_g, K_104h_g, -V.flat, -V.one, one_int, one_bool, one_str, one_nilp, one_rp, one_nilsl, one_ro, one_cl, one_nilf, one_nili, one_ifc, one_ptr, one_sl, one_clo, flat_d, flat_ptr, flat_sl, flat_clo, flat_agg, -decA, decA_int, decA_bool, decA_str, hjv, hio, g1, g2, hA, hB2, hS]
          subst q1
          refine ⟨i + 1, k + 1, _, _, _, ⟨by omega, fin2 (fun j h1 h2 h3 => ?_) ?_ ?_ (Nat.le_add_right _ 1) (by simp)⟩, by omega, rfl, wi⟩
          · rw [List.getElem?_append_left (by simpa using h1), List.getElem?_set_ne h2.symm]
          · rw [List.getElem?_append_left (by simpa using g3), List.getElem?_set_self g3]; rfl
          · rw [List.getElem?_append_right (by simp), List.length_set, Nat.add_sub_cancel_left]; rfl
        · obtain ⟨g6, g7, g8⟩ := g5 vid rfl q2
          have v4R : ∀ R : Heap, (H4 ++ R)[vid]? = some (.row 5 (lo.map Tr.cells)) := fun R => (List.getElem?_append_left g7).trans g6
          have sv4R : ∀ (R : Heap) p, (H4 ++ R).set vid p = H4.set vid p ++ R := fun R p => List.set_append_left _ _ g7
          have o4v : ∀ (R : Heap) p, (H4.set vid p ++ R)[t14]? = some (.row 2 [[.d (.int .i64 F.params_), .sl vid 5 0 lo.length]]) := fun R p => (List.getElem?_append_left (by simp; omega)).trans ((List.getElem?_set_ne q5).trans g1)
          have s4v : ∀ (R : Heap) p p', (H4.set vid p ++ R).set t14 p' = (H4.set vid p).set t14 p' ++ R := fun R p p' => List.set_append_left _ _ (by simp; omega)
          refine W_runS mixed [33] ⟨[K_103, K_80, K_104], [K_103h, K_80h, K_104h], [82], 131, n0, [0, 1, 2, 3, 4, 5, 6, 7, 8, 9, 10, 11, 12, 13, 14, 16, 17, 18, 19, 34, 41, 42, 43, 44, 71, 87, 88, 89, 90, 99, 100, 101, 102], [34, 44, 71, 90, 102]⟩ (fun | 15 => [0, 2, 4, 7, 1, 3, 5, 6, 8, 9, 10, 11] | 29 => [0, 2, 3, 4, 1, 5, 6, 7, 8, 9, 10] | 33 => [1, 4, 5, 0, 2, 3, 6, 7, 8] | _ => []) (by kernel_rfl) ?_
          simp only [stripS, skip_cons, skip_nil, Nat.reduceBEq, Bool.or_false, Bool.or_self, Bool.or_true, Bool.true_or, cond_true, cond_false, stripX, stripOps, pickOps]
          simp [K_103_f, K_103_e, K_80_f, K_80_e, K_104_f, K_104_e, K_103h_f, K_103h_e, K_80h_f, K_80h_e, K_104h_f, K_104h_e, K_103h_g, K_80h_g, K_104h_g, -V.flat, -V.one, one_int, one_bool, one_str, one_nilp, one_rp, one_nilsl, one_ro, one_cl, one_nilf, one_nili, one_ifc, one_ptr, one_sl, one_clo, flat_d, flat_ptr, flat_sl, flat_clo, flat_agg, -decA, decA_int, decA_bool, decA_str, hjv, hio, g1, g2, g6, hA, hB2, hS, v4R, sv4R, o4v, s4v]
          refine ⟨by omega, i + 1, k + 1, _, _, _, ⟨by omega, fin2 (fun j h1 h2 h3 => ?_) ?_ ?_ (Nat.le_add_right _ 1) (by simp)⟩, by omega, rfl, wi⟩
          · rw [List.getElem?_append_left (by simpa using h1), List.getElem?_set_ne h2.symm, List.getElem?_set_ne (show vid ≠ j from Ne.symm (h3 q2))]
          · rw [List.getElem?_append_left (by simpa using g3), List.getElem?_set_self (by simpa using g3)]
          · rw [List.getElem?_append_right (by simp), List.length_set, List.length_set, Nat.add_sub_cancel_left]; rfl
  · have hgap := hcB
    replace hB := hB.skips (k := nb) (by
      by_cases h : B ≤ nb
      · exact h
      · have := hB.le; omega) (by omega) fun j h1 h2 => cnt_gap (by omega) h1 h2
    refine W_runS mixed [33] ⟨[K_103, K_80, K_104], [K_103h, K_80h, K_104h], [82], 131, n0, [0, 1, 2, 3, 4, 5, 6, 7, 8, 9, 10, 11, 12, 13, 14, 16, 17, 18, 19, 34, 41, 42, 43, 44, 71, 87, 88, 89, 90, 99, 100, 101, 102], [34, 44, 71, 90, 102]⟩ (fun | 15 => [0, 2, 4, 7, 1, 3, 5, 6, 8, 9, 10, 11] | 29 => [0, 2, 3, 4, 1, 5, 6, 7, 8, 9, 10] | 33 => [1, 4, 5, 0, 2, 3, 6, 7, 8] | _ => []) (by kernel_rfl) ?_
    simp only [stripS, skip_cons, skip_nil, Nat.reduceBEq, Bool.or_false, Bool.or_self, Bool.or_true, Bool.true_or, cond_true, cond_false, stripX, stripOps, pickOps]
    simp [K_103_f, K_103_e, K_80_f, K_80_e, K_104_f, K_104_e, K_103h_f, K_103h_e, K_80h_f, K_80h_e, K_104h_f, K_104h_e, K_103h_g, K_80h_g, K_104h_g, -V.flat, -V.one, one_int, one_bool, one_str, one_nilp, one_rp, one_nilsl, one_ro, one_cl, one_nilf, one_nili, one_ifc, one_ptr, one_sl, one_clo, flat_d, flat_ptr, flat_sl, flat_clo, flat_agg, -decA, decA_int, decA_bool, decA_str, hil]
    exact hq _ _ _ _ (by simp) (by simp) (by simp) (by simp) hB
end Go.Proofs.YtbmloeahcdneaaaGreat
end
