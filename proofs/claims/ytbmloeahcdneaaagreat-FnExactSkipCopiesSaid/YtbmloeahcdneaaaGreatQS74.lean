/- The one value that a parameter of a block always is: of the program. No condition. -/
import Derived.Test.YtbmloeahcdneaaaGreatQS17
import Derived.Test.YtbmloeahcdneaaaGreatQS21
import Derived.Test.YtbmloeahcdneaaaGreatQS66
section
namespace Go.Proofs.YtbmloeahcdneaaaGreat
set_option maxRecDepth 100000
set_option linter.unusedSimpArgs false
set_option linter.unusedVariables false
def szN (b : Block) : Nat := b.params_.toNat + b.insts_.length
def offN (bs : List Block) (k : Nat) : Nat := ((bs.take k).map szN).sum
def fstN (F : Func) (k : Nat) : Nat := F.params_.toNat + offN F.blocks_ k
theorem offN_cons (b : Block) (bs : List Block) (k : Nat) : offN (b :: bs) (k + 1) = szN b + offN bs k := by simp [offN]
theorem offN_zero (bs : List Block) : offN bs 0 = 0 := rfl
theorem offN_succ {bs : List Block} {k : Nat} (h : k < bs.length) : offN bs (k + 1) = offN bs k + szN (bs[k]?.getD default) := by
  unfold offN
  rw [take_snocD h, List.map_append, List.sum_append]; simp
theorem headOk_szN {b : Block} (h : headOk b = true) : 0 ≤ b.params_ ∧ b.params_ ≤ 4 ∧ b.insts_.length ≤ 80 ∧ IntKind.i64.wrap (b.params_ + b.insts_.length) = (szN b : Int) := by
  simp only [headOk, Bool.and_eq_true, decide_eq_true_eq] at h
  obtain ⟨h1, h2⟩ := inR_t.1 h.1
  refine ⟨h1, h2, h.2, ?_⟩
  rw [wrap_id (by omega) (by omega)]
  unfold szN; omega
theorem cntB_N : ∀ (bs : List Block) (m : Nat), bs.all headOk = true → m + 84 * bs.length ≤ 1000000 → cntB bs m = ((m + offN bs bs.length : Nat) : Int)
  | [], m, _, _ => by simp [cntB, offN]
  | b :: bs, m, h, hm => by
    simp only [List.all_cons, Bool.and_eq_true] at h
    obtain ⟨p0, p1, p2, e⟩ := headOk_szN h.1
    have hs : szN b ≤ 84 := by unfold szN; omega
    simp only [List.length_cons] at hm
    rw [cntB_cons, e, wrap_id (by omega) (by omega), show ((m : Int) + (szN b : Int)) = ((m + szN b : Nat) : Int) by omega, cntB_N bs (m + szN b) h.2 (by omega), List.length_cons, offN_cons]
    omega
theorem firsts_N : ∀ (bs : List Block) (m : Nat), bs.all headOk = true → m + 84 * bs.length ≤ 1000000 → ∀ k, k < bs.length → (firsts bs m)[k]? = some ((m + offN bs k : Nat) : Int)
  | [], m, _, _, k, hk => by simp at hk
  | b :: bs, m, h, hm, k, hk => by
    simp only [List.all_cons, Bool.and_eq_true] at h
    obtain ⟨p0, p1, p2, e⟩ := headOk_szN h.1
    have hs : szN b ≤ 84 := by unfold szN; omega
    simp only [List.length_cons] at hm hk
    cases k with
    | zero => simp [firsts, offN]
    | succ k =>
      have e2 : firsts (b :: bs) (m : Int) = (m : Int) :: firsts bs ((m + szN b : Nat) : Int) := by
        simp only [firsts]
        rw [e, wrap_id (by omega) (by omega)]
        congr 2
      rw [e2, List.getElem?_cons_succ, firsts_N bs (m + szN b) h.2 (by omega) k (by omega), offN_cons]
      congr 2; omega
theorem blkOf_N : ∀ (bs : List Block) (i : Nat), bs.all headOk = true → ∀ k j, k < bs.length → offN bs k ≤ j → j < offN bs (k + 1) → (blkOf bs i)[j]? = some ((i + k : Nat) : Int)
  | [], i, _, k, j, hk, _, _ => by simp at hk
  | b :: bs, i, h, k, j, hk, h1, h2 => by
    simp only [List.all_cons, Bool.and_eq_true] at h
    obtain ⟨p0, p1, p2, e⟩ := headOk_szN h.1
    have e2 : blkOf (b :: bs) i = List.replicate (szN b) (i : Int) ++ blkOf bs (i + 1) := by
      simp only [blkOf]
      rw [e, Int.toNat_natCast]
    rw [e2]
    simp only [List.length_cons] at hk
    cases k with
    | zero =>
      rw [offN_cons, offN_zero] at h2
      rw [List.getElem?_append_left (by simp; omega), List.getElem?_replicate, if_pos (by omega)]; rfl
    | succ k =>
      rw [offN_cons] at h1 h2
      rw [List.getElem?_append_right (by simp; omega), List.length_replicate, blkOf_N bs (i + 1) h.2 k (j - szN b) (by omega) (by omega) (by omega)]
      congr 2; omega
theorem offN_mono (bs : List Block) : ∀ {k l : Nat}, k ≤ l → offN bs k ≤ offN bs l := by
  intro k l h
  induction h with
  | refl => exact Nat.le_refl _
  | step h ih =>
    rename_i m
    refine Nat.le_trans ih ?_
    by_cases hm : m < bs.length
    · rw [offN_succ hm]; omega
    · unfold offN
      rw [List.take_of_length_le (by omega), List.take_of_length_le (by omega)]
      exact Nat.le_refl _
theorem offN_find {bs : List Block} : ∀ {n : Nat}, n < offN bs bs.length → ∃ k, k < bs.length ∧ offN bs k ≤ n ∧ n < offN bs (k + 1) := by
  induction bs with
  | nil => intro n h; simp [offN] at h
  | cons b bs ih =>
    intro n h
    rw [List.length_cons, offN_cons] at h
    by_cases hn : n < szN b
    · exact ⟨0, by simp, Nat.zero_le _, by rw [offN_cons, offN_zero]; omega⟩
    · obtain ⟨k, h1, h2, h3⟩ := ih (n := n - szN b) (by omega)
      exact ⟨k + 1, by simp; omega, by rw [offN_cons]; omega, by rw [offN_cons]; omega⟩
structure Lay (F : Func) : Prop where
  par : ((F.params_.toNat : Nat) : Int) = F.params_
  len : F.blocks_.length ≤ 8 ∧ 0 < F.blocks_.length
  many : many F = ((fstN F F.blocks_.length : Nat) : Int)
  first : ∀ k, k < F.blocks_.length → (viewD F).first_[k]? = some ((fstN F k : Nat) : Int)
  bkP : ∀ n : Nat, n < F.params_.toNat → bk (viewD F) n = -1
  bkB : ∀ (k n : Nat), k < F.blocks_.length → fstN F k ≤ n → n < fstN F (k + 1) → bk (viewD F) n = k
  find : ∀ n : Nat, n < fstN F F.blocks_.length → n < F.params_.toNat ∨ ∃ k, k < F.blocks_.length ∧ fstN F k ≤ n ∧ n < fstN F (k + 1)
theorem lay {F : Func} (h : goodF F = true) : Lay F := by
  obtain ⟨hp, hl, hh, hm, hc, hs, _⟩ := goodF_spec h
  have e : ((F.params_.toNat : Nat) : Int) = F.params_ := by omega
  have ef : (viewD F).block_ = List.replicate F.params_.toNat (-1) ++ blkOf F.blocks_ 0 := rfl
  refine ⟨e, by omega, ?_, fun k hk => ?_, fun n hn => ?_, fun k n hk h1 h2 => ?_, fun n hn => ?_⟩
  · show cntB F.blocks_ F.params_ = _
    rw [← e, cntB_N _ _ hh (by omega)]; rfl
  · show (firsts F.blocks_ F.params_)[k]? = _
    rw [← e, firsts_N _ _ hh (by omega) k hk]; rfl
  · unfold bk
    rw [ef, Int.toNat_natCast, List.getElem?_append_left (by simpa using hn), List.getElem?_replicate, if_pos hn]; rfl
  · unfold bk
    unfold fstN at h1 h2
    rw [ef, Int.toNat_natCast, List.getElem?_append_right (by simp; omega), List.length_replicate, blkOf_N _ 0 hh k (n - F.params_.toNat) hk (by omega) (by omega)]
    simp
  · by_cases hn' : n < F.params_.toNat
    · exact .inl hn'
    · unfold fstN at hn
      obtain ⟨k, h1, h2, h3⟩ := offN_find (bs := F.blocks_) (n := n - F.params_.toNat) (by omega)
      exact .inr ⟨k, h1, by unfold fstN; omega, by unfold fstN; omega⟩
theorem fstN_succ {F : Func} {k : Nat} (h : k < F.blocks_.length) : fstN F (k + 1) = fstN F k + szN (F.blocks_[k]?.getD default) := by
  unfold fstN; rw [offN_succ h]; omega
theorem fstN_mono (F : Func) {k l : Nat} (h : k ≤ l) : fstN F k ≤ fstN F l := by
  unfold fstN; have := offN_mono F.blocks_ h; omega
theorem blk_head {F : Func} (h : goodF F = true) {k : Nat} (hk : k < F.blocks_.length) : 0 ≤ (F.blocks_[k]?.getD default).params_ ∧ (F.blocks_[k]?.getD default).params_ ≤ 4 ∧ (F.blocks_[k]?.getD default).insts_.length ≤ 80 := by
  obtain ⟨hp, hl, hh, _⟩ := goodF_spec h
  have := headOk_szN (List.all_eq_true.1 hh (F.blocks_[k]?.getD default) (by rw [List.getElem?_eq_getElem hk]; exact List.getElem_mem hk))
  exact ⟨this.1, this.2.1, this.2.2.1⟩
end Go.Proofs.YtbmloeahcdneaaaGreat
end

section
namespace Go.Proofs.YtbmloeahcdneaaaGreat
set_option maxRecDepth 100000
set_option linter.unusedSimpArgs false
set_option linter.unusedVariables false
def jmps (F : Func) (f : Int) : List Jump := (F.blocks_[f.toNat]?.getD default).jumps_
def cpJ (k : Int) (i : Nat) (own : Int) : List Jump → Int → Option Int
  | [], one => some one
  | j :: l, one => if j.to_ = k ∧ ¬ j.args_[i]?.getD 0 = own ∧ ¬ j.args_[i]?.getD 0 = one then (if 0 ≤ one then none else cpJ k i own l (j.args_[i]?.getD 0)) else cpJ k i own l one
def cpL (F : Func) (k : Int) (i : Nat) (own : Int) : List Int → Int → Option Int
  | [], one => some one
  | f :: L, one => (cpJ k i own (jmps F f) one).bind (cpL F k i own L)
def ownN (F : Func) (k : Int) (i : Nat) : Int := ((fstN F k.toNat + i : Nat) : Int)
noncomputable def cpO (F : Func) (k : Int) (i : Nat) : Option Int := cpL F k i (ownN F k i) (fromL F 0 (-1)) (-1)
noncomputable def cpE (F : Func) (k : Int) : Option Int → Int
  | none => -1
  | some one => if 0 ≤ one ∧ thereS F (allS F) one k 0 = true then one else -1
noncomputable def cpC (F : Func) (k : Int) (i : Nat) : Int := cpE F k (cpO F k i)
noncomputable def cpyS (F : Func) (v : Int) : Int :=
  if 0 < bk (viewD F) v ∧ (rchB (nextL F.blocks_) 0 (-1))[(bk (viewD F) v).toNat]?.getD false = true ∧ v < fstN F (bk (viewD F) v).toNat + (F.blocks_[(bk (viewD F) v).toNat]?.getD default).params_ then cpC F (bk (viewD F) v) (v - fstN F (bk (viewD F) v).toNat).toNat else -1
structure Ent0 (F : Func) (k : Int) (i : Nat) : Prop where
  k0 : 0 ≤ k
  k1 : k < F.blocks_.length
  i1 : (i : Int) < (F.blocks_[k.toNat]?.getD default).params_
theorem jump_arg {F : Func} (hg : goodF F = true) {k : Int} {i : Nat} (he : Ent0 F k i) {b : Block} (hb : b ∈ F.blocks_) {j : Jump} (hj : j ∈ b.jumps_) (ht : j.to_ = k) : i < j.args_.length ∧ 0 ≤ j.args_[i]?.getD 0 ∧ j.args_[i]?.getD 0 < many F := by
  obtain ⟨m0, m80⟩ := many_rng hg
  have h2 := (goodF_body hg hb).2
  have hjo : jumpOk F.blocks_ (many F) j = true := by
    have q : jumpsOk F.blocks_ (many F) b.jumps_ = true := by
      unfold endsOk at h2
      split at h2
      · simp only [Bool.and_eq_true] at h2; exact h2.2.2
      · split at h2
        · simp only [Bool.and_eq_true] at h2; exact h2.2.2
        · split at h2
          · simp only [Bool.and_eq_true] at h2; exact h2.2.2
          · cases h2
    exact List.all_eq_true.1 q j hj
  simp only [jumpOk, Bool.and_eq_true, decide_eq_true_eq] at hjo
  have hl := hjo.2.1
  rw [ht] at hl
  have hi : i < j.args_.length := by have := he.i1; omega
  have hm : j.args_[i]?.getD 0 ∈ j.args_ := by rw [List.getElem?_eq_getElem hi]; exact List.getElem_mem hi
  exact ⟨hi, (inR_many m0 m80).1 (List.all_eq_true.1 hjo.2.2 _ hm)⟩
def one1 (F : Func) (one : Int) : Prop := one = -1 ∨ (0 ≤ one ∧ one < many F)
theorem from_mem {F : Func} (hg : goodF F = true) {x : Int} (hx : x ∈ fromL F 0 (-1)) : 0 ≤ x ∧ x < F.blocks_.length := by
  unfold fromL listB at hx
  obtain ⟨q0, q1, _⟩ := mem_numsOf.1 hx
  have : (rchB (nextL F.blocks_) 0 (-1)).length = F.blocks_.length := by simp [rchB, nextL]
  omega
theorem handed_c (F : Func) (v : Int) (hg : goodF F = true) (v0 : 0 ≤ v) (v1 : v < many F) : PureP Tryz.prog 120 [.d (.rp 3 (dWays (waysV (viewD F)))), .d (.int .i64 v)] (· = .d (.int .i64 (cpyS F v))) := by
  have hL := lay hg
  obtain ⟨m0, m80⟩ := many_rng hg
  obtain ⟨⟨⟨_, hbl⟩, hok⟩, hcase⟩ := view_spec hg v0 v1
  have ea : (waysV (viewD F)).all_ = rchB (nextL F.blocks_) 0 (-1) := rfl
  have ev : (waysV (viewD F)).view_.v = viewD F := rfl
  have hbk : (viewD F).block_[v.toNat]?.getD 0 = bk (viewD F) v := rfl
  have hal : (rchB (nextL F.blocks_) 0 (-1)).length = F.blocks_.length := by simp [rchB, nextL]
  have hbk' : ∀ h : v.toNat < (viewD F).block_.length, (viewD F).block_[v.toNat] = bk (viewD F) v := fun h => by rw [← hbk, List.getElem?_eq_getElem h]; rfl
  have eal : (waysV (viewD F)).all_.length = F.blocks_.length := hal
  have h8 := hL.len.1
  by_cases hk0 : bk (viewD F) v ≤ 0
  · have e : cpyS F v = -1 := if_neg fun q => by omega
    refine pure_of Tryz.func120 en_120 rfl rfl (W_run mixed ⟨[K_145, K_110, K_144], [K_145h, K_110h, K_144h], [], 124, 0, [0, 1, 4, 5, 6, 7, 9, 11, 43, 60, 61, 62, 63, 77, 78, 79, 80, 95, 106, 122], [24, 34, 43, 63, 80, 87, 95, 98, 106, 116, 122]⟩ (fun _ => []) (by kernel_rfl) ?_)
    simp only [Tryz.f120, stripX, stripOps, pickOps]
    simp [K_145_f, K_145_e, K_110_f, K_110_e, K_144_f, K_144_e, K_145h_f, K_145h_e, K_110h_f, K_110h_e, K_144h_f, K_144h_e, K_145h_g, K_110h_g, K_144h_g, v0, hbl, ev, hbk, hbk', hk0, e]
  have hk : 0 < bk (viewD F) v := by omega
  obtain ⟨hk1, hk2, _⟩ := hok (by omega)
  have hkl : bk (viewD F) v < F.blocks_.length := hk2
  have hh := blk_head hg (k := (bk (viewD F) v).toNat) (by omega)
  have hfs : fsV (viewD F) (bk (viewD F) v) = fstN F (bk (viewD F) v).toNat + (F.blocks_[(bk (viewD F) v).toNat]?.getD default).params_ := by
    unfold fsV
    rw [hL.first _ (by omega)]
    have : fstN F (bk (viewD F) v).toNat ≤ fstN F F.blocks_.length := fstN_mono F (by omega)
    have := hL.many
    rw [wrap_id] <;> simp [viewD_blocks] <;> omega
  have hfst : (viewD F).first_[(bk (viewD F) v).toNat]?.getD 0 = fstN F (bk (viewD F) v).toNat := by rw [hL.first _ (by omega)]; rfl
  have hfst' : ∀ h : (bk (viewD F) v).toNat < (viewD F).first_.length, (viewD F).first_[(bk (viewD F) v).toNat] = (fstN F (bk (viewD F) v).toNat : Int) := fun h => by rw [← hfst, List.getElem?_eq_getElem h]; rfl
  have hfi : ∃ n : Nat, v = n ∧ fstN F (bk (viewD F) v).toNat ≤ n := by
    refine ⟨v.toNat, by omega, ?_⟩
    have hm := hL.many
    rcases hL.find v.toNat (by omega) with q | ⟨k', q1, q2, q3⟩
    · have := hL.bkP _ q
      rw [Int.toNat_of_nonneg v0] at this; omega
    · have := hL.bkB _ _ q1 q2 q3
      rw [Int.toNat_of_nonneg v0] at this
      rw [this]; simpa using q2
  obtain ⟨vn, hvn, hvf⟩ := hfi
  unfold cpyS
  generalize hkk : bk (viewD F) v = k at *
  have hk00 : 0 ≤ k := by omega
  have hkr : k < ((rchB (nextL F.blocks_) 0 (-1)).length : Int) := by omega
  have hr8 : (rchB (nextL F.blocks_) 0 (-1)).length ≤ 8 := by omega
  have hwf : IntKind.i64.wrap ((fstN F k.toNat : Int) + (F.blocks_[k.toNat]?.getD default).params_) = fstN F k.toNat + (F.blocks_[k.toNat]?.getD default).params_ := by
    have : fstN F k.toNat ≤ fstN F F.blocks_.length := fstN_mono F (by omega)
    have := hL.many
    rw [wrap_id] <;> omega
  have hwv : ∀ h : k.toNat < F.blocks_.length, F.blocks_[k.toNat] = F.blocks_[k.toNat]?.getD default := fun h => by rw [List.getElem?_eq_getElem h]; rfl
  have hrv : ∀ h : k.toNat < (rchB (nextL F.blocks_) 0 (-1)).length, (rchB (nextL F.blocks_) 0 (-1))[k.toNat] = (rchB (nextL F.blocks_) 0 (-1))[k.toNat]?.getD false := fun h => by rw [List.getElem?_eq_getElem h]; rfl
  have hE0 : ∀ i : Nat, (i : Int) < (F.blocks_[k.toNat]?.getD default).params_ → Ent0 F k i := fun i hi => ⟨hk00, hkl, hi⟩
  generalize hbK : F.blocks_[k.toNat]?.getD default = bK at *
  generalize hab : (rchB (nextL F.blocks_) 0 (-1))[k.toNat]?.getD false = ab at *
  by_cases hall : ab = true
  · by_cases hpar : v < fstN F k.toNat + bK.params_
    · rw [if_pos ⟨hk, hall, hpar⟩]
      have hw : IntKind.i64.wrap (v - (fstN F k.toNat : Int)) = ((vn - fstN F k.toNat : Nat) : Int) := by rw [wrap_id] <;> omega
      have hi : (v - (fstN F k.toNat : Int)).toNat = vn - fstN F k.toNat := by omega
      rw [hi]
      have hent : Ent0 F k (vn - fstN F k.toNat) := hE0 _ (by omega)
      have hown : ownN F k (vn - fstN F k.toNat) = v := by unfold ownN; omega
      have hkf : ¬ (fstN F k.toNat : Int) + bK.params_ ≤ v := by omega
      refine pure_of Tryz.func120 en_120 rfl rfl (W_run mixed ⟨[K_145, K_110, K_144], [K_145h, K_110h, K_144h], [], 124, 0, [0, 1, 4, 5, 6, 7, 9, 11, 43, 60, 61, 62, 63, 77, 78, 79, 80, 95, 106, 122], [24, 34, 43, 63, 80, 87, 95, 98, 106, 116, 122]⟩ (fun _ => []) (by kernel_rfl) ?_)
      simp only [Tryz.f120, stripX, stripOps, pickOps]
      simp [K_145_f, K_145_e, K_110_f, K_110_e, K_144_f, K_144_e, K_145h_f, K_145h_e, K_110h_f, K_110h_e, K_144h_f, K_144h_e, K_145h_g, K_110h_g, K_144h_g, v0, hbl, ev, hbk, hbk', hk0, hk, hk1, hk2, hkl, eal, h8, ea, hab, hbK, hwv, hrv, hall, hfs, hkf, hfst, hfst', hw, hpar, hk00, hkr, hr8, hwf]
      have hRn : cpC F k (vn - fstN F k.toNat) = cpE F k (cpO F k (vn - fstN F k.toNat)) := rfl
      have hR : cpO F k (vn - fstN F k.toNat) = cpL F k (vn - fstN F k.toNat) v (fromL F 0 (-1)) (-1) := by unfold cpO; rw [hown]
      rw [hRn]
      generalize cpO F k (vn - fstN F k.toNat) = R at hR ⊢
      generalize hiN : vn - fstN F k.toNat = i at *
      have hfm := fun x => from_mem (x := x) hg
      have hLL : listB (rchB (nextL F.blocks_) 0 (-1)) = fromL F 0 (-1) := rfl
      have hL8 : (fromL F 0 (-1)).length ≤ 8 := by
        have := numsOf_len (fun k => (rchB (nextL F.blocks_) 0 (-1))[k]?.getD false) (rchB (nextL F.blocks_) 0 (-1)).length
        show (numsOf _ _).length ≤ 8
        omega
      rw [hLL]
      generalize hLf : fromL F 0 (-1) = L at *
      refine W_loopH (α := Nat × Int × Heap) (fun a => [(0, .d (.rp 3 (dWays (waysV (viewD F))))), (1, .d (.int .i64 v)), (5, .d (.int .i64 k)), (6, .d (.int .i64 i)), (7, .d (.int .i64 a.2.1)), (60, .d (dIntS L)), (61, .d (.int .i64 L.length)), (62, .d (.int .i64 a.1))]) (fun a => a.2.2)
        (fun a => a.1 ≤ L.length ∧ one1 F a.2.1 ∧ cpL F k i v (L.drop a.1) a.2.1 = R) (fun a => L.length - a.1) (0, -1, []) ?_ ⟨Nat.zero_le _, .inl rfl, hR.symm⟩ ?_
      · simp
      rintro ⟨x, one, H1⟩ ⟨hx, h1, hcp⟩
      simp only [] at hx h1 hcp
      by_cases hin : x < L.length
      · have hf := hfm (L[x]?.getD default) (by rw [List.getElem?_eq_getElem hin]; exact List.getElem_mem hin)
        rw [drop_cons hin, cpL] at hcp
        generalize hfx : L[x]?.getD default = f at *
        have hfx0 : L[x]?.getD 0 = f := hfx
        have hfx' : ∀ h : x < L.length, L[x] = f := fun h => by rw [← hfx, List.getElem?_eq_getElem h]; rfl
        have hfl : f < ((viewD F).blocks_.length : Int) := hf.2
        have hfb : F.blocks_[f.toNat]?.getD default ∈ F.blocks_ := by rw [List.getElem?_eq_getElem (by omega)]; exact List.getElem_mem _
        have hj2 : (jmps F f).length ≤ 2 := ((good_flow hg).1.2 _ hfb)
        have hjm : (F.blocks_[f.toNat]?.getD default).jumps_ = jmps F f := rfl
        have hjm' : ∀ h : f.toNat < F.blocks_.length, F.blocks_[f.toNat].jumps_ = jmps F f := fun h => by rw [← hjm, List.getElem?_eq_getElem h]; rfl
        have wx : IntKind.i64.wrap ((x : Int) + 1) = ((x + 1 : Nat) : Int) := by rw [wrap_id] <;> omega
        refine W_run mixed ⟨[K_145, K_110, K_144], [K_145h, K_110h, K_144h], [], 124, 0, [0, 1, 4, 5, 6, 7, 9, 11, 43, 60, 61, 62, 63, 77, 78, 79, 80, 95, 106, 122], [24, 34, 43, 63, 80, 87, 95, 98, 106, 116, 122]⟩ (fun _ => []) (by kernel_rfl) ?_
        simp only [stripX, stripOps, pickOps]
        simp [K_145_f, K_145_e, K_110_f, K_110_e, K_144_f, K_144_e, K_145h_f, K_145h_e, K_110h_f, K_110h_e, K_144h_f, K_144h_e, K_145h_g, K_110h_g, K_144h_g, ev, viewD_blocks, hin, hfx, hfx0, hfx', hf, hfl, hjm, hjm']
        generalize hjs : jmps F f = js at *
        have hjb : ∀ j ∈ js, j.to_ = k → i < j.args_.length ∧ 0 ≤ j.args_[i]?.getD 0 ∧ j.args_[i]?.getD 0 < many F := fun j hj ht => jump_arg hg hent hfb (by rw [← hjs] at hj; exact hj) ht
        refine W_loopH (α := Nat × Int × Heap) (fun a => [(0, .d (.rp 3 (dWays (waysV (viewD F))))), (1, .d (.int .i64 v)), (5, .d (.int .i64 k)), (6, .d (.int .i64 i)), (7, .d (.int .i64 a.2.1)), (60, .d (dIntS L)), (61, .d (.int .i64 L.length)), (62, .d (.int .i64 x)), (77, .d (dJumpS js)), (78, .d (.int .i64 js.length)), (79, .d (.int .i64 a.1))]) (fun a => a.2.2)
          (fun a => a.1 ≤ js.length ∧ one1 F a.2.1 ∧ (cpJ k i v (js.drop a.1) a.2.1).bind (cpL F k i v (L.drop (x + 1))) = R) (fun a => js.length - a.1) (0, one, H1) ?_ ⟨Nat.zero_le _, h1, hcp⟩ ?_
        · simp
        rintro ⟨y, one2, H2⟩ ⟨hy, h2, hcq⟩
        simp only [] at hy h2 hcq
        by_cases hyn : y < js.length
        · have wy : IntKind.i64.wrap ((y : Int) + 1) = ((y + 1 : Nat) : Int) := by rw [wrap_id] <;> omega
          have hjm2 : js[y]?.getD default ∈ js := by rw [List.getElem?_eq_getElem hyn]; exact List.getElem_mem hyn
          have hjq := hjb _ hjm2
          rw [drop_cons hyn, cpJ] at hcq
          generalize hjy : js[y]?.getD default = j at *
          have hjy' : ∀ h : y < js.length, js[y] = j := fun h => by rw [← hjy, List.getElem?_eq_getElem h]; rfl
          by_cases hto : j.to_ = k
          · obtain ⟨ia, a0, a1⟩ := hjq hto
            generalize haa : j.args_[i]?.getD 0 = aa at *
            have haa' : ∀ h : i < j.args_.length, j.args_[i] = aa := fun h => by rw [← haa, List.getElem?_eq_getElem h]; rfl
            by_cases hav : aa = v
            · rw [if_neg fun q => q.2.1 hav] at hcq
              refine W_run mixed ⟨[K_145, K_110, K_144], [K_145h, K_110h, K_144h], [], 124, 0, [0, 1, 4, 5, 6, 7, 9, 11, 43, 60, 61, 62, 63, 77, 78, 79, 80, 95, 106, 122], [24, 34, 43, 63, 80, 87, 95, 98, 106, 116, 122]⟩ (fun _ => []) (by kernel_rfl) ?_
              simp only [stripX, stripOps, pickOps]
              simp [K_145_f, K_145_e, K_110_f, K_110_e, K_144_f, K_144_e, K_145h_f, K_145h_e, K_110h_f, K_110h_e, K_144h_f, K_144h_e, K_145h_g, K_110h_g, K_144h_g, hyn, hjy, hjy', hto, ia, haa, haa', hav]
              exact ⟨y + 1, one2, ⟨by omega, h2, hcq⟩, by omega, rfl, wy⟩
            · by_cases hao : aa = one2
              · rw [if_neg fun q => q.2.2 hao] at hcq
                refine W_run mixed ⟨[K_145, K_110, K_144], [K_145h, K_110h, K_144h], [], 124, 0, [0, 1, 4, 5, 6, 7, 9, 11, 43, 60, 61, 62, 63, 77, 78, 79, 80, 95, 106, 122], [24, 34, 43, 63, 80, 87, 95, 98, 106, 116, 122]⟩ (fun _ => []) (by kernel_rfl) ?_
                simp only [stripX, stripOps, pickOps]
                simp [K_145_f, K_145_e, K_110_f, K_110_e, K_144_f, K_144_e, K_145h_f, K_145h_e, K_110h_f, K_110h_e, K_144h_f, K_144h_e, K_145h_g, K_110h_g, K_144h_g, hyn, hjy, hjy', hto, ia, haa, haa', hav, hao]
                exact ⟨fun _ => ⟨y + 1, one2, ⟨by omega, h2, hcq⟩, by omega, rfl, wy⟩, fun _ => ⟨fun _ => ⟨y + 1, one2, ⟨by omega, h2, hcq⟩, by omega, rfl, wy⟩, fun _ => ⟨y + 1, one2, ⟨by omega, h2, hcq⟩, by omega, rfl, wy⟩⟩⟩
              · rw [if_pos ⟨hto, hav, hao⟩] at hcq
                have hao' : ¬ one2 = aa := fun q => hao q.symm
                by_cases h0 : 0 ≤ one2
                · rw [if_pos h0] at hcq
                  refine W_run mixed ⟨[K_145, K_110, K_144], [K_145h, K_110h, K_144h], [], 124, 0, [0, 1, 4, 5, 6, 7, 9, 11, 43, 60, 61, 62, 63, 77, 78, 79, 80, 95, 106, 122], [24, 34, 43, 63, 80, 87, 95, 98, 106, 116, 122]⟩ (fun _ => []) (by kernel_rfl) ?_
                  simp only [stripX, stripOps, pickOps]
                  simp [K_145_f, K_145_e, K_110_f, K_110_e, K_144_f, K_144_e, K_145h_f, K_145h_e, K_110h_f, K_110h_e, K_144h_f, K_144h_e, K_145h_g, K_110h_g, K_144h_g, hyn, hjy, hjy', hto, ia, haa, haa', hav, hao, hao', h0]
                  rw [← hcq]; rfl
                · rw [if_neg h0] at hcq
                  refine W_run mixed ⟨[K_145, K_110, K_144], [K_145h, K_110h, K_144h], [], 124, 0, [0, 1, 4, 5, 6, 7, 9, 11, 43, 60, 61, 62, 63, 77, 78, 79, 80, 95, 106, 122], [24, 34, 43, 63, 80, 87, 95, 98, 106, 116, 122]⟩ (fun _ => []) (by kernel_rfl) ?_
                  simp only [stripX, stripOps, pickOps]
                  simp [K_145_f, K_145_e, K_110_f, K_110_e, K_144_f, K_144_e, K_145h_f, K_145h_e, K_110h_f, K_110h_e, K_144h_f, K_144h_e, K_145h_g, K_110h_g, K_144h_g, hyn, hjy, hjy', hto, ia, haa, haa', hav, hao, hao', h0]
                  exact ⟨y + 1, aa, ⟨by omega, .inr ⟨a0, a1⟩, hcq⟩, by omega, rfl, wy⟩
          · rw [if_neg fun q => hto q.1] at hcq
            refine W_run mixed ⟨[K_145, K_110, K_144], [K_145h, K_110h, K_144h], [], 124, 0, [0, 1, 4, 5, 6, 7, 9, 11, 43, 60, 61, 62, 63, 77, 78, 79, 80, 95, 106, 122], [24, 34, 43, 63, 80, 87, 95, 98, 106, 116, 122]⟩ (fun _ => []) (by kernel_rfl) ?_
            simp only [stripX, stripOps, pickOps]
            simp [K_145_f, K_145_e, K_110_f, K_110_e, K_144_f, K_144_e, K_145h_f, K_145h_e, K_110h_f, K_110h_e, K_144h_f, K_144h_e, K_145h_g, K_110h_g, K_144h_g, hyn, hjy, hjy', hto]
            exact ⟨y + 1, one2, ⟨by omega, h2, hcq⟩, by omega, rfl, wy⟩
        · have e : y = js.length := by omega
          rw [e, List.drop_length, cpJ] at hcq
          refine W_run mixed ⟨[K_145, K_110, K_144], [K_145h, K_110h, K_144h], [], 124, 0, [0, 1, 4, 5, 6, 7, 9, 11, 43, 60, 61, 62, 63, 77, 78, 79, 80, 95, 106, 122], [24, 34, 43, 63, 80, 87, 95, 98, 106, 116, 122]⟩ (fun _ => []) (by kernel_rfl) ?_
          simp only [stripX, stripOps, pickOps]
          simp [K_145_f, K_145_e, K_110_f, K_110_e, K_144_f, K_144_e, K_145h_f, K_145h_e, K_110h_f, K_110h_e, K_144h_f, K_144h_e, K_145h_g, K_110h_g, K_144h_g, hyn]
          exact ⟨x + 1, one2, ⟨by omega, h2, hcq⟩, by omega, rfl, wx⟩
      · refine W_run mixed ⟨[K_145, K_110, K_144], [K_145h, K_110h, K_144h], [], 124, 0, [0, 1, 4, 5, 6, 7, 9, 11, 43, 60, 61, 62, 63, 77, 78, 79, 80, 95, 106, 122], [24, 34, 43, 63, 80, 87, 95, 98, 106, 116, 122]⟩ (fun _ => []) (by kernel_rfl) ?_
        simp only [stripX, stripOps, pickOps]
        simp [K_145_f, K_145_e, K_110_f, K_110_e, K_144_f, K_144_e, K_145h_f, K_145h_e, K_110h_f, K_110h_e, K_144h_f, K_144h_e, K_145h_g, K_110h_g, K_144h_g, ev, hin]
        have e : x = L.length := by omega
        rw [e, List.drop_length, cpL] at hcp
        rw [← hcp]
        refine ⟨fun q => by simp only [cpE]; rw [if_neg fun w => by omega], fun q => ?_⟩
        have hlt : one < many F := by rcases h1 with w | w <;> omega
        rw [there_same hg q hlt hk00 hkl]
        refine ⟨okW_good hg q hlt hk00 hkl, fun w => by simp only [cpE]; rw [if_neg fun z => by rw [w] at z; exact absurd z.2 (by decide)], fun w => by simp only [cpE]; rw [if_pos ⟨q, w⟩]⟩
    · rw [if_neg fun q => hpar q.2.2]
      have hkf : (fstN F k.toNat : Int) + bK.params_ ≤ v := by omega
      refine pure_of Tryz.func120 en_120 rfl rfl (W_run mixed ⟨[K_145, K_110, K_144], [K_145h, K_110h, K_144h], [], 124, 0, [0, 1, 4, 5, 6, 7, 9, 11, 43, 60, 61, 62, 63, 77, 78, 79, 80, 95, 106, 122], [24, 34, 43, 63, 80, 87, 95, 98, 106, 116, 122]⟩ (fun _ => []) (by kernel_rfl) ?_)
      simp only [Tryz.f120, stripX, stripOps, pickOps]
      simp [K_145_f, K_145_e, K_110_f, K_110_e, K_144_f, K_144_e, K_145h_f, K_145h_e, K_110h_f, K_110h_e, K_144h_f, K_144h_e, K_145h_g, K_110h_g, K_144h_g, v0, hbl, ev, hbk, hbk', hk0, hk, hk1, hk2, hkl, eal, ea, hab, hbK, hwv, hrv, hall, hfs, hkf, hpar, hk00, hkr, hwf]
  · rw [if_neg fun q => hall q.2.1]
    refine pure_of Tryz.func120 en_120 rfl rfl (W_run mixed ⟨[K_145, K_110, K_144], [K_145h, K_110h, K_144h], [], 124, 0, [0, 1, 4, 5, 6, 7, 9, 11, 43, 60, 61, 62, 63, 77, 78, 79, 80, 95, 106, 122], [24, 34, 43, 63, 80, 87, 95, 98, 106, 116, 122]⟩ (fun _ => []) (by kernel_rfl) ?_)
    simp only [Tryz.f120, stripX, stripOps, pickOps]
    simp [K_145_f, K_145_e, K_110_f, K_110_e, K_144_f, K_144_e, K_145h_f, K_145h_e, K_110h_f, K_110h_e, K_144h_f, K_144h_e, K_145h_g, K_110h_g, K_144h_g, v0, hbl, ev, hbk, hbk', hk0, hk, hk1, hk2, hkl, eal, ea, hab, hbK, hwv, hrv, hall, hk00, hkr]
end Go.Proofs.YtbmloeahcdneaaaGreat
end
