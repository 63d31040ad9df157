/- The parameters of reached blocks, and the values that are told to be others. No condition. -/
import Derived.Test.YtbmloeahcdneaaaGreatQS75
namespace Go.Proofs.YtbmloeahcdneaaaGreat
set_option maxRecDepth 100000
set_option linter.unusedSimpArgs false
set_option linter.unusedVariables false
theorem cpJ_one {F : Func} (hg : goodF F = true) {k : Int} {i : Nat} (he : Ent0 F k i) {own : Int} {b : Block} (hb : b ∈ F.blocks_) : ∀ (l : List Jump) (one o : Int), (∀ j ∈ l, j ∈ b.jumps_) → one1 F one → one ≠ own → cpJ k i own l one = some o → one1 F o ∧ o ≠ own
  | [], one, o, _, h1, h2, h => by
    simp only [cpJ, Option.some.injEq] at h
    rw [← h]; exact ⟨h1, h2⟩
  | j :: l, one, o, hl, h1, h2, h => by
    simp only [cpJ] at h
    have ht : ∀ x ∈ l, x ∈ b.jumps_ := fun x hx => hl x (List.mem_cons_of_mem _ hx)
    split at h
    · rename_i q
      split at h
      · cases h
      · obtain ⟨_, a0, a1⟩ := jump_arg hg he hb (hl j List.mem_cons_self) q.1
        exact cpJ_one hg he hb l _ o ht (.inr ⟨a0, a1⟩) q.2.1 h
    · exact cpJ_one hg he hb l _ o ht h1 h2 h
theorem cpL_one {F : Func} (hg : goodF F = true) {k : Int} {i : Nat} (he : Ent0 F k i) {own : Int} : ∀ (L : List Int) (one o : Int), (∀ x ∈ L, 0 ≤ x ∧ x < F.blocks_.length) → one1 F one → one ≠ own → cpL F k i own L one = some o → one1 F o ∧ o ≠ own
  | [], one, o, _, h1, h2, h => by
    simp only [cpL, Option.some.injEq] at h
    rw [← h]; exact ⟨h1, h2⟩
  | f :: L, one, o, hL, h1, h2, h => by
    simp only [cpL] at h
    cases hc : cpJ k i own (jmps F f) one with
    | none => rw [hc] at h; cases h
    | some o1 =>
      rw [hc] at h
      have hf := hL f List.mem_cons_self
      have hfb : F.blocks_[f.toNat]?.getD default ∈ F.blocks_ := by rw [List.getElem?_eq_getElem (by omega)]; exact List.getElem_mem _
      obtain ⟨q1, q2⟩ := cpJ_one hg he hfb _ _ _ (fun j hj => hj) h1 h2 hc
      exact cpL_one hg he L o1 o (fun x hx => hL x (List.mem_cons_of_mem _ hx)) q1 q2 h
theorem cpC_lt {F : Func} (hg : goodF F = true) {k : Int} {i : Nat} (he : Ent0 F k i) : cpC F k i < many F ∧ (0 ≤ cpC F k i → cpC F k i ≠ ownN F k i) := by
  have hm := many_rng hg
  have hown : (-1 : Int) ≠ ownN F k i := by unfold ownN; omega
  unfold cpC
  cases hc : cpO F k i with
  | none => simp only [cpE]; omega
  | some o =>
    obtain ⟨q1, q2⟩ := cpL_one hg he _ _ _ (fun x hx => from_mem hg hx) (.inl rfl) hown hc
    simp only [cpE]
    split
    · rename_i q
      rcases q1 with w | w
      · omega
      · exact ⟨w.2, fun _ => q2⟩
    · omega
noncomputable def cpQ (F : Func) (v : Nat) : Bool := decide (0 < bk (viewD F) v) && ((rchB (nextL F.blocks_) 0 (-1))[(bk (viewD F) v).toNat]?.getD false && decide ((v : Int) < fstN F (bk (viewD F) v).toNat + (F.blocks_[(bk (viewD F) v).toNat]?.getD default).params_))
theorem cpyS_q (F : Func) (v : Nat) : cpyS F v = if cpQ F v = true then cpC F (bk (viewD F) v) ((v : Int) - fstN F (bk (viewD F) v).toNat).toNat else -1 := by
  unfold cpyS cpQ
  simp only [Bool.and_eq_true, decide_eq_true_eq]
structure Alk (F F' : Func) : Prop where
  par : F'.params_ = F.params_
  shp : shp F'.blocks_ = shp F.blocks_
  nxt : nextL F'.blocks_ = nextL F.blocks_
theorem Alk.rfl (F : Func) : Alk F F := ⟨Eq.refl _, Eq.refl _, Eq.refl _⟩
theorem Alk.mp {F F' : Func} (h : Alk F F') (g : Int → Int) : Alk F (mpF g F') := by
  refine ⟨h.par, (mpF_shp g F').trans h.shp, ?_⟩
  rw [← h.nxt]
  show (F'.blocks_.map (mpB g)).map tos = F'.blocks_.map tos
  rw [List.map_map]
  refine List.map_congr_left fun b _ => ?_
  show (b.jumps_.map (mpJ g)).map (·.to_) = b.jumps_.map (·.to_)
  rw [List.map_map]; rfl
theorem offN_shp : ∀ {bs bs' : List Block}, Go.Proofs.YtbmloeahcdneaaaGreat.shp bs = Go.Proofs.YtbmloeahcdneaaaGreat.shp bs' → ∀ k, offN bs k = offN bs' k
  | [], [], _, _ => Eq.refl _
  | [], b' :: bs', h, _ => by cases h
  | b :: bs, [], h, _ => by cases h
  | b :: bs, b' :: bs', h, k => by
    obtain ⟨h1, h2, h3⟩ := shp_cons h
    cases k with
    | zero => exact Eq.refl _
    | succ k => rw [offN_cons, offN_cons, offN_shp h3 k]; unfold szN; rw [h1, h2]
theorem Alk.fst {F F' : Func} (h : Alk F F') (k : Nat) : fstN F' k = fstN F k := by unfold fstN; rw [offN_shp h.shp, h.par]
theorem Alk.bk {F F' : Func} (h : Alk F F') (n : Int) : Go.Proofs.YtbmloeahcdneaaaGreat.bk (viewD F') n = Go.Proofs.YtbmloeahcdneaaaGreat.bk (viewD F) n := by
  have : (viewD F').block_ = (viewD F).block_ := by show List.replicate _ _ ++ blkOf _ _ = List.replicate _ _ ++ blkOf _ _; rw [blkOf_shp h.shp, h.par]
  unfold Go.Proofs.YtbmloeahcdneaaaGreat.bk; rw [this]
theorem Alk.pk {F F' : Func} (h : Alk F F') (k : Nat) : (F'.blocks_[k]?.getD default).params_ = (F.blocks_[k]?.getD default).params_ := (shp_get h.shp k).1
theorem Alk.q {F F' : Func} (h : Alk F F') (v : Nat) : cpQ F' v = cpQ F v := by
  unfold cpQ
  rw [h.bk, h.nxt, h.fst, h.pk]
theorem Alk.frm {F F' : Func} (h : Alk F F') : fromL F' 0 (-1) = fromL F 0 (-1) := by unfold fromL; rw [h.nxt]
theorem Alk.ra {F F' : Func} {m : Int} {v : Nat} {to : Func → Int → Int} (h : Alk F F') : Alk F (raS to (F', m) v).1 := by
  unfold raS
  split
  · exact h.mp _
  · exact h
def posK (F : Func) (k : Int) : List Nat := if 0 < k then (List.range (F.blocks_[k.toNat]?.getD default).params_.toNat).map (fstN F k.toNat + ·) else []
noncomputable def posN (F : Func) : List Nat := (fromL F 0 (-1)).flatMap (posK F)
theorem sorted_extN : ∀ {l l' : List Nat}, l.Pairwise (· < ·) → l'.Pairwise (· < ·) → (∀ x, x ∈ l ↔ x ∈ l') → l = l'
  | [], [], _, _, _ => Eq.refl _
  | [], y :: l', _, _, h => absurd ((h y).2 List.mem_cons_self) List.not_mem_nil
  | x :: l, [], _, _, h => absurd ((h x).1 List.mem_cons_self) List.not_mem_nil
  | x :: l, y :: l', h1, h2, h => by
    obtain ⟨a1, a2⟩ := List.pairwise_cons.1 h1
    obtain ⟨b1, b2⟩ := List.pairwise_cons.1 h2
    have e : x = y := by
      rcases List.mem_cons.1 ((h x).1 List.mem_cons_self) with q | q
      · exact q
      · rcases List.mem_cons.1 ((h y).2 List.mem_cons_self) with w | w
        · exact w.symm
        · have := a1 y w; have := b1 x q; omega
    subst e
    rw [sorted_extN a2 b2 fun z => ⟨fun q => ?_, fun q => ?_⟩]
    · rcases List.mem_cons.1 ((h z).1 (List.mem_cons_of_mem _ q)) with w | w
      · have := a1 z q; omega
      · exact w
    · rcases List.mem_cons.1 ((h z).2 (List.mem_cons_of_mem _ q)) with w | w
      · have := b1 z q; omega
      · exact w
theorem mem_from {F : Func} (hg : goodF F = true) {k : Int} : k ∈ fromL F 0 (-1) ↔ 0 ≤ k ∧ k < F.blocks_.length ∧ (rchB (nextL F.blocks_) 0 (-1))[k.toNat]?.getD false = true := by
  have : (rchB (nextL F.blocks_) 0 (-1)).length = F.blocks_.length := by simp [rchB, nextL]
  unfold fromL listB
  rw [mem_numsOf, this]
theorem mem_posK {F : Func} {k : Int} {x : Nat} : x ∈ posK F k ↔ 0 < k ∧ fstN F k.toNat ≤ x ∧ (x : Int) < fstN F k.toNat + (F.blocks_[k.toNat]?.getD default).params_ := by
  unfold posK
  split
  · rename_i h
    rw [List.mem_map]
    constructor
    · rintro ⟨i, hi, rfl⟩
      have := List.mem_range.1 hi
      exact ⟨h, by omega, by omega⟩
    · rintro ⟨_, h1, h2⟩
      exact ⟨x - fstN F k.toNat, List.mem_range.2 (by omega), by omega⟩
  · rename_i h
    exact ⟨fun q => absurd q List.not_mem_nil, fun q => absurd q.1 h⟩
theorem bk_in {F : Func} (hg : goodF F = true) {v : Nat} (hv : (v : Int) < many F) (hb : 0 ≤ bk (viewD F) v) : bk (viewD F) v < F.blocks_.length ∧ fstN F (bk (viewD F) v).toNat ≤ v ∧ v < fstN F ((bk (viewD F) v).toNat + 1) := by
  have hL := lay hg
  have hm := hL.many
  rcases hL.find v (by omega) with q | ⟨k, q1, q2, q3⟩
  · have := hL.bkP v q; omega
  · have := hL.bkB k v q1 q2 q3
    rw [this]
    exact ⟨by omega, by simpa using q2, by simpa using q3⟩
theorem posN_eq {F : Func} (hg : goodF F = true) : (List.range (many F).toNat).filter (cpQ F) = posN F := by
  have hL := lay hg
  have hm := hL.many
  have hm0 := many_rng hg
  refine sorted_extN (List.Pairwise.filter _ List.pairwise_lt_range) ?_ fun v => ?_
  · unfold posN
    rw [List.pairwise_flatMap]
    refine ⟨fun k _ => ?_, ?_⟩
    · unfold posK
      split
      · refine List.Pairwise.map _ (fun a b h => ?_) List.pairwise_lt_range
        omega
      · exact List.Pairwise.nil
    · have hs : (fromL F 0 (-1)).Pairwise fun a b => a < b := by
        unfold fromL listB numsOf
        refine List.Pairwise.map _ (fun a b h => ?_) (List.Pairwise.filter _ List.pairwise_lt_range)
        omega
      refine (List.Pairwise.and_mem.1 hs).imp fun {a b} h x hx y hy => ?_
      obtain ⟨ha, hb, hab⟩ := h
      obtain ⟨x0, x1, x2⟩ := mem_posK.1 hx
      obtain ⟨y0, y1, y2⟩ := mem_posK.1 hy
      have hb1 := from_mem hg hb
      have ha1 := from_mem hg ha
      have hsz := fstN_succ (F := F) (k := a.toNat) (by omega)
      have hmo := fstN_mono F (show a.toNat + 1 ≤ b.toNat by omega)
      have hh := blk_head hg (k := a.toNat) (by omega)
      unfold szN at hsz
      omega
  · rw [List.mem_filter, List.mem_range]
    unfold posN
    rw [List.mem_flatMap]
    constructor
    · rintro ⟨h1, h2⟩
      simp only [cpQ, Bool.and_eq_true, decide_eq_true_eq] at h2
      obtain ⟨q0, q1, q2⟩ := h2
      obtain ⟨r1, r2, r3⟩ := bk_in hg (v := v) (by omega) (by omega)
      exact ⟨bk (viewD F) v, (mem_from hg).2 ⟨by omega, r1, q1⟩, mem_posK.2 ⟨q0, r2, q2⟩⟩
    · rintro ⟨k, hk, hx⟩
      obtain ⟨k0, k1, k2⟩ := (mem_from hg).1 hk
      obtain ⟨x0, x1, x2⟩ := mem_posK.1 hx
      have hsz := fstN_succ (F := F) (k := k.toNat) (by omega)
      have hh := blk_head hg (k := k.toNat) (by omega)
      have hmo := fstN_mono F (show k.toNat + 1 ≤ F.blocks_.length by omega)
      unfold szN at hsz
      have hb := hL.bkB k.toNat v (by omega) x1 (by omega)
      have hb' : bk (viewD F) v = k := by omega
      refine ⟨by omega, ?_⟩
      simp only [cpQ, Bool.and_eq_true, decide_eq_true_eq, hb']
      exact ⟨x0, k2, x2⟩
theorem ra_filter {F : Func} : ∀ (l : List Nat) (F1 : Func) (m : Int), Alk F F1 → l.foldl (raS cpyS) (F1, m) = (l.filter (cpQ F)).foldl (raS cpyS) (F1, m)
  | [], _, _, _ => Eq.refl _
  | v :: l, F1, m, h => by
    by_cases q : cpQ F v = true
    · rw [List.filter_cons_of_pos q]
      simp only [List.foldl_cons]
      have := ra_filter l (raS cpyS (F1, m) v).1 (raS cpyS (F1, m) v).2 h.ra
      exact this
    · rw [List.filter_cons_of_neg q]
      simp only [List.foldl_cons]
      have e : raS cpyS (F1, m) v = (F1, m) := by
        unfold raS
        rw [if_neg]
        show ¬ 0 ≤ cpyS F1 v
        rw [cpyS_q, h.q, if_neg q]; decide
      rw [e]
      exact ra_filter l F1 m h
theorem raP_pos {F : Func} (hg : goodF F = true) : raP cpyS F = (posN F).foldl (raS cpyS) (F, 0) := by
  unfold raP
  rw [ra_filter _ _ _ (Alk.rfl F), posN_eq hg]
theorem cpyS_lt : ToOk cpyS := fun F v hg v0 v1 => by
  have hm := many_rng hg
  obtain ⟨n, rfl⟩ : ∃ n : Nat, v = n := ⟨v.toNat, by omega⟩
  rw [cpyS_q]
  split
  · rename_i h
    simp only [cpQ, Bool.and_eq_true, decide_eq_true_eq] at h
    obtain ⟨q0, q1, q2⟩ := h
    obtain ⟨r1, r2, r3⟩ := bk_in hg v1 (by omega)
    exact (cpC_lt hg ⟨by omega, r1, by omega⟩).1
  · omega
end Go.Proofs.YtbmloeahcdneaaaGreat
