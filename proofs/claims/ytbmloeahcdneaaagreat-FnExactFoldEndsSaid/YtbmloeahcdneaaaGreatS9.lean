/- Contracts of IsPure of both programs, and that they are the same. No condition. -/
import Derived.Test.YtbmloeahcdneaaaGreatS8
import Derived.Test.YtbmloeahcdneaaaGreatRd
import Derived.Test.YtbmloeahcdneaaaGreatRows
namespace Go.Proofs.YtbmloeahcdneaaaGreat
set_option maxRecDepth 100000
set_option linter.unusedSimpArgs false
set_option linter.unusedVariables false
theorem goodF_spec {F : Func} (h : goodF F = true) : (0 ≤ F.params_ ∧ F.params_ ≤ 4) ∧ (1 ≤ (F.blocks_.length : Int) ∧ F.blocks_.length ≤ 8) ∧ F.blocks_.all headOk = true ∧ many F ≤ 80 ∧ many F = F.params_ + sumI F.blocks_ ∧ 0 ≤ sumI F.blocks_ ∧ F.blocks_.all (bodyOk F.blocks_ (many F)) = true := by
  simp only [goodF, Bool.and_eq_true, decide_eq_true_eq] at h
  obtain ⟨h1, h2, h3, h4, h5, h6⟩ := h
  have h1' := inR_t.1 h1
  have h2' := inR_t.1 h2
  obtain ⟨c1, c2, c3⟩ := cntB_sum F.blocks_ F.params_ h4 h1'.1 (by omega)
  exact ⟨h1', ⟨h2'.1, by omega⟩, h4, h5, c1, c2, h6⟩
theorem view_spec {F : Func} {n : Int} (h : goodF F = true) (h0 : 0 ≤ n) (h1 : n < many F) : okV (viewD F) n ∧
    ((bk (viewD F) n = -1 ∧ n < F.params_ ∧ instS F n F.blocks_ 0 = (-1, -1)) ∨
     (0 ≤ bk (viewD F) n ∧ bk (viewD F) n < F.blocks_.length ∧ F.params_ ≤ n ∧ atV (viewD F) n < (blkAt (viewD F) n).insts_.length ∧ -4 ≤ atV (viewD F) n ∧ instS F n F.blocks_ 0 = if 0 ≤ atV (viewD F) n then (bk (viewD F) n, atV (viewD F) n) else (-1, -1))) := by
  obtain ⟨hp, hl, hh, hm, hc, hs, _⟩ := goodF_spec h
  have ec : cntB (F.blocks_.take 0) F.params_ = F.params_ := rfl
  by_cases hn : n < F.params_
  · have hg : (viewD F).block_[n.toNat]? = some (-1) := by
      show (List.replicate F.params_.toNat (-1) ++ blkOf F.blocks_ 0)[n.toNat]? = _
      rw [List.getElem?_append_left (by simp; omega), List.getElem?_replicate, if_pos (by omega)]
    have hb : bk (viewD F) n = -1 := by simp only [bk, hg, Option.getD_some]
    have hlt := (List.getElem?_eq_some_iff.1 hg).1
    refine ⟨⟨⟨h0, by omega⟩, fun q => by omega⟩, .inl ⟨hb, hn, ?_⟩⟩
    exact instS_none F n hh hp (by omega) (by omega) F.blocks_ 0 rfl (by rw [ec]; exact hn)
  · obtain ⟨k, q1, q2, q3, s, q4, q5, q6, q7, q8, q9⟩ := loc_spec n F.blocks_ 0 F.params_ hh hp.1 (by omega) (by omega) (by omega)
    have hg : (viewD F).block_[n.toNat]? = some ((0 + k : Nat) : Int) := by
      show (List.replicate F.params_.toNat (-1) ++ blkOf F.blocks_ 0)[n.toNat]? = _
      rw [List.getElem?_append_right (by simp; omega), List.length_replicate, show n.toNat - F.params_.toNat = (n - F.params_).toNat by omega]
      exact q3
    have hb : bk (viewD F) n = (k : Int) := by simp only [bk, hg, Option.getD_some]; omega
    have hblk : blkAt (viewD F) n = F.blocks_[k]?.getD default := by simp only [blkAt, hb, viewD_blocks]; rfl
    obtain ⟨p0, p1, p2, e, e1, e2⟩ := headOk_sz q8
    have hat : atV (viewD F) n = (loc n F.blocks_ 0 F.params_).2 := by
      have hf : (viewD F).first_[k]?.getD 0 = s := by show (firsts F.blocks_ F.params_)[k]?.getD 0 = s; rw [q4]; rfl
      simp only [atV, hblk, hb, Int.toNat_natCast]
      have w1 : IntKind.i64.wrap (n - s) = n - s := wrap_sub (by omega) (by omega)
      rw [hf, q7, w1, wrap_sub (by omega) (by omega)]
    have hlt := (List.getElem?_eq_some_iff.1 hg).1
    have hfl := (List.getElem?_eq_some_iff.1 q4).1
    have hbl : (viewD F).blocks_.length = F.blocks_.length := rfl
    have hff : (viewD F).first_ = firsts F.blocks_ F.params_ := rfl
    have hi := instS_loc F n hh hp (by omega) (by omega) F.blocks_ 0 rfl (by rw [ec]; omega) (by rw [ec]; omega)
    rw [ec] at hi
    refine ⟨⟨⟨h0, by omega⟩, fun _ => ⟨by rw [hb, hff]; omega, by rw [hb, hbl]; omega, fun _ => by rw [hat, hblk]; exact q9⟩⟩, .inr ⟨by omega, by omega, by omega, by rw [hat, hblk]; exact q9, by rw [hat, q7]; omega, ?_⟩⟩
    rw [hi, hat, hb, q2]
    simp
def opAt (F : Func) (p : Int × Int) : Int := ((F.blocks_[p.1.toNat]?.getD default).insts_[p.2.toNat]?.getD default).op_
def pureS (F : Func) (n : Int) : Bool := decide (0 ≤ (instS F n F.blocks_ 0).1) && pureOp (opAt F (instS F n F.blocks_ 0))
theorem pure_same {F : Func} {n : Int} (h : goodF F = true) (h0 : 0 ≤ n) (h1 : n < many F) : pureV (viewD F) n = pureS F n := by
  rcases (view_spec h h0 h1).2 with ⟨q1, _, q2⟩ | ⟨q1, _, _, q3, _, q2⟩
  · simp [pureV, pureS, q1, q2]
  · by_cases ha : 0 ≤ atV (viewD F) n
    · rw [if_pos ha] at q2
      simp only [pureV, pureS, q2, q1, ha, decide_true, Bool.true_and]
      rfl
    · rw [if_neg ha] at q2
      simp [pureV, pureS, q2, ha]
def isPureR (F : Func) (n : Int) : V := .tup [.d (.bool (isVal F n && pureS F n)), .d (.bool (isVal F n))]
theorem isVal_t {F : Func} {n : Int} (h : isVal F n = true) : goodF F = true ∧ 0 ≤ n ∧ n < many F := by
  simp only [isVal, Bool.and_eq_true] at h
  obtain ⟨hp, hl, hh, hm, hc, hs, _⟩ := goodF_spec h.1
  have := inR_t.1 h.2
  rw [wrap_sub (by omega) (by omega)] at this
  exact ⟨h.1, by omega, by omega⟩
theorem instS_ok {F : Func} {n : Int} (h : isVal F n = true) (h0 : 0 ≤ (instS F n F.blocks_ 0).1) :
    (instS F n F.blocks_ 0).1 < F.blocks_.length ∧ 0 ≤ (instS F n F.blocks_ 0).2 ∧ (instS F n F.blocks_ 0).2 < (F.blocks_[(instS F n F.blocks_ 0).1.toNat]?.getD default).insts_.length := by
  obtain ⟨hg, g0, g1⟩ := isVal_t h
  rcases (view_spec hg g0 g1).2 with ⟨q1, _, q2⟩ | ⟨q1, q4, _, q3, _, q2⟩
  · rw [q2] at h0; exact absurd h0 (by decide)
  · by_cases ha : 0 ≤ atV (viewD F) n
    · rw [if_pos ha] at q2
      rw [q2]
      exact ⟨q4, ha, q3⟩
    · rw [if_neg ha] at q2
      rw [q2] at h0; exact absurd h0 (by decide)
/-- A weight that is not too much: nothing is long. -/
theorem small_ints {l : List Int} (h : l.length ≤ 1048576) : Sm.sm l := ⟨h, fun _ _ => trivial⟩
end Go.Proofs.YtbmloeahcdneaaaGreat
