/- Where the values of a function lie: by blocks. No condition. -/
import Derived.Test.YtbmloeahcdneaaaGreatQS17
import Derived.Test.YtbmloeahcdneaaaGreatQS65
import Derived.Test.YtbmloeahcdneaaaGreatQS42
import Derived.Test.YtbmloeahcdneaaaGreatQS49
section
namespace Go.Proofs.YtbmloeahcdneaaaGreat
set_option maxRecDepth 100000
set_option linter.unusedSimpArgs false
set_option linter.unusedVariables false
theorem goodF_body {F : Func} (h : goodF F = true) {b : Block} (hb : b ∈ F.blocks_) : b.insts_.all (instOk (many F)) = true ∧ endsOk F.blocks_ b (many F) = true := by
  obtain ⟨_, _, _, _, _, _, hbo⟩ := goodF_spec h
  have h1 := List.all_eq_true.1 hbo _ hb
  simp only [bodyOk, Bool.and_eq_true] at h1
  exact h1
def setB (b : Block) (i : Nat) (x : Inst) : Block := ⟨b.params_, b.insts_.set i x, b.end_, b.value_, b.jumps_⟩
def setI (F : Func) (k i : Nat) (x : Inst) : Func := ⟨F.params_, F.blocks_.set k (setB (F.blocks_[k]?.getD default) i x)⟩
def opTr (op : Int) (x : List Int) : Bool := decide (op = 8) && decide (x[1]?.getD 0 = 0)
def opNr (op : Int) (x : List Int) : Int :=
  let a := x[0]?.getD 0
  let b := x[1]?.getD 0
  if op = 3 then IntKind.i64.wrap (-a) else if op = 4 then IntKind.i64.wrap (a + b) else if op = 5 then IntKind.i64.wrap (a - b) else if op = 6 then IntKind.i64.wrap (a * b)
  else if op = 7 then IntKind.i64.wrap (a * 2 ^ (b % 64).toNat) else if op = 8 then (if b = 0 then 0 else IntKind.i64.wrap (a.tdiv b)) else if op = 9 then (if a = b then 1 else 0)
  else if op = 10 then (if a < b then 1 else 0) else if a = 0 then x[2]?.getD 0 else b
def canI (F : Func) (x : Inst) : Bool := decide (3 ≤ x.op_) && (decide (x.op_ ≤ 11) && (x.args_.all (nuB F) && !opTr x.op_ (x.args_.map (nuN F))))
def insOf (F : Func) (k i : Nat) : Inst := (F.blocks_[k]?.getD default).insts_[i]?.getD default
def numI (F : Func) (x : Inst) : Inst := ⟨1, opNr x.op_ (x.args_.map (nuN F)), []⟩
def stepI (k : Nat) (p : Func × Int) (i : Nat) : Func × Int := if canI p.1 (insOf p.1 k i) = true then (setI p.1 k i (numI p.1 (insOf p.1 k i)), p.2 + 1) else p
end Go.Proofs.YtbmloeahcdneaaaGreat
end

section
namespace Go.Proofs.YtbmloeahcdneaaaGreat
set_option maxRecDepth 100000
set_option linter.unusedSimpArgs false
set_option linter.unusedVariables false
theorem mpF_congr {g h : Int → Int} {F : Func} (he : ∀ b ∈ F.blocks_, ∀ x ∈ allU b, g x = h x) : mpF g F = mpF h F := by
  unfold mpF
  congr 1
  refine List.map_congr_left fun b hb => ?_
  have hu := he b hb
  have e1 : b.insts_.map (mpI g) = b.insts_.map (mpI h) := List.map_congr_left fun x hx => by
    unfold mpI
    congr 1
    exact List.map_congr_left fun n hn => hu n (List.mem_append_left _ (List.mem_flatMap.2 ⟨x, hx, hn⟩))
  have e2 : b.jumps_.map (mpJ g) = b.jumps_.map (mpJ h) := List.map_congr_left fun x hx => by
    unfold mpJ
    congr 1
    exact List.map_congr_left fun n hn => hu n (List.mem_append_right _ (List.mem_append_right _ (List.mem_flatMap.2 ⟨x, hx, hn⟩)))
  unfold mpB
  rw [e1, e2]
  by_cases h2 : b.end_ = 2
  · rw [if_pos h2, if_pos h2]
  · rw [if_neg h2, if_neg h2, hu b.value_ (List.mem_append_right _ (List.mem_append_left _ (by rw [if_neg h2]; exact List.mem_singleton.2 rfl)))]
theorem good_value {F : Func} (h : goodF F = true) {b : Block} (hb : b ∈ F.blocks_) (h2 : b.end_ = 2) : b.value_ = 0 := by
  obtain ⟨_, _, _, _, _, _, hbo⟩ := goodF_spec h
  have h1 := List.all_eq_true.1 hbo b hb
  simp only [bodyOk, Bool.and_eq_true, endsOk, h2] at h1
  simp at h1
  exact h1.2.1
theorem good_all {F : Func} (h : goodF F = true) {b : Block} (hb : b ∈ F.blocks_) : ∀ x ∈ allU b, 0 ≤ x ∧ x < many F := by
  obtain ⟨_, h2, h3⟩ := good_vals h hb
  intro x hx
  rcases List.mem_append.1 hx with q | q
  · obtain ⟨y, hy, hn⟩ := List.mem_flatMap.1 q
    exact (h2 y hy).2 x hn
  · exact h3 x q
theorem good_small {F : Func} (h : goodF F = true) : smallF F := by
  obtain ⟨_, hl, _, _, _, _, _⟩ := goodF_spec h
  refine ⟨by omega, fun b hb => ?_⟩
  obtain ⟨h1, h2, _⟩ := good_vals h hb
  obtain ⟨h3, h4⟩ := good_end h b hb
  exact ⟨h1, h3, fun x hx => (h2 x hx).1, fun j hj => by have := h4 j hj; omega⟩
theorem good_map {F : Func} (h : goodF F = true) {T : List Int} (hT : T.length = (many F).toNat) : ∀ b ∈ F.blocks_, okMap T b := fun b hb => by
  obtain ⟨_, s2⟩ := good_small h
  obtain ⟨q1, q2, q3, q4⟩ := s2 b hb
  exact ⟨by omega, by omega, q3, q4, fun v hv => by have := good_all h hb v hv; omega, good_value h hb⟩
theorem dle_closeK {K : List Nat} {H : Heap} {id : Nat} {l : List Int} (hid : id ∉ K) (hr : H[id]? = some (.row 1 (rI l))) : DLe (closeK K H 4 (.sl id 1 0 l.length)) (dIntS l) := by
  have hl : (rI l).length = l.length := by simp
  simp only [closeK]
  rw [if_neg hid, hr]
  simp only [Nat.zero_add, hl]
  rw [if_pos ⟨trivial, Nat.le_refl _⟩]
  refine ⟨rfl, rfl, fun k hk j hj => ?_⟩
  have : j = 0 := by omega
  subst this
  dsimp only
  rw [List.getElem?_map, List.getElem?_eq_getElem hk]
  simp [closeK]
end Go.Proofs.YtbmloeahcdneaaaGreat
end

section
namespace Go.Proofs.YtbmloeahcdneaaaGreat
set_option maxRecDepth 100000
set_option linter.unusedSimpArgs false
set_option linter.unusedVariables false
theorem fin_nilF {H R : Heap} {r : V} {Q : V → Heap → Prop} (hq : ∀ (A : AFunc) H', Tr.cells A = [.d (.int .i64 0), .d .nilsl] → Tr.era A = ⟨0, []⟩ → New H H' A → Q r H') : ∃ r' H', Fin H.length (H ++ R) r H' r' ∧ Q r' H' :=
  fin_new (a := (⟨0, ⟨.d .nilsl, []⟩⟩ : AFunc)) (AFunc.own ⟨⟨.inr ⟨rfl, .inl rfl⟩, fun a ha => absurd ha List.not_mem_nil⟩, fun q hq => absurd hq List.not_mem_nil, List.nodup_nil⟩) (Only.app _ _ _) (fun j hj => absurd hj List.not_mem_nil) fun H' h' => hq _ H' rfl rfl h'
theorem smallA_of {A : AFunc} {F : Func} (h : smallF F) (e : Tr.era A = F) : smallA A := by
  have eb : (Tr.era A).blocks_ = A.blocks_.l.map Tr.era := rfl
  have hl : A.blocks_.l.length = F.blocks_.length := by rw [← e, eb, List.length_map]
  refine ⟨by rw [hl]; have := h.1; omega, fun b hb => ?_⟩
  have hm : Tr.era b ∈ F.blocks_ := by rw [← e, eb]; exact List.mem_map.2 ⟨b, hb, rfl⟩
  obtain ⟨h1, h2, h3, h4⟩ := h.2 _ hm
  have i1 : (Tr.era b).insts_ = b.insts_.l.map Tr.era := rfl
  have j1 : (Tr.era b).jumps_ = b.jumps_.l.map Tr.era := rfl
  rw [i1] at h1 h3
  rw [j1] at h2 h4
  rw [List.length_map] at h1 h2
  refine ⟨by omega, by omega, fun x hx => ?_, fun x hx => ?_⟩
  · have := h3 _ (List.mem_map.2 ⟨x, hx, rfl⟩)
    have e2 : (Tr.era x).args_ = x.args_.l.map Tr.era := rfl
    rw [e2, List.length_map] at this; exact this
  · have := h4 _ (List.mem_map.2 ⟨x, hx, rfl⟩)
    have e2 : (Tr.era x).args_ = x.args_.l.map Tr.era := rfl
    rw [e2, List.length_map] at this; exact this
end Go.Proofs.YtbmloeahcdneaaaGreat
end

section
namespace Go.Proofs.YtbmloeahcdneaaaGreat
set_option maxRecDepth 100000
set_option linter.unusedSimpArgs false
set_option linter.unusedVariables false
structure At (H : Heap) (idf : Nat) (A : AFunc) : Prop where
  row : H[idf]? = some (.row 2 [[.d (.int .i64 A.params_), A.blocks_.v]])
  own : Own H A
  sol : solF A
  nin : idf ∉ ids A
  good : goodF (Tr.era A) = true
  enc : Enc.good (Tr.era A)
structure PR (H : Heap) (idf : Nat) (A A' : AFunc) (H' : Heap) : Prop where
  at_ : At H' idf A'
  ids : ∀ j ∈ ids A', j ∈ ids A ∨ H.length ≤ j
  only : Only (idf :: Go.Proofs.YtbmloeahcdneaaaGreat.ids A) H H'
theorem At.frame {H H' : Heap} {idf : Nat} {A : AFunc} {S : List Nat} (q : At H idf A) (ho : Only S H H') (h1 : idf ∉ S) (h2 : ∀ j ∈ ids A, j ∉ S) : At H' idf A :=
  ⟨(ho.at_ _ (List.getElem?_eq_some_iff.1 q.row).1 h1).trans q.row, q.own.frame ho h2, q.sol, q.nin, q.good, q.enc⟩
noncomputable def paF (G : Func → Func) (F : Func) : Func := if soundF F = true then G F else ⟨0, []⟩
noncomputable def paK (K : Func → Int) (F : Func) : Int := if soundF F = true then K F else 0
theorem sm_paF {G : Func → Func} (h : ∀ F, goodF F = true → Sm.sm F → Sm.sm (G F)) {F : Func} (hs : Sm.sm F) : Sm.sm (paF G F) := by
  unfold paF
  split
  · exact h F (sound_good ‹_›) hs
  · exact ⟨trivial, Nat.zero_le _, fun a h => absurd h List.not_mem_nil⟩
end Go.Proofs.YtbmloeahcdneaaaGreat
end

section
namespace Go.Proofs.YtbmloeahcdneaaaGreat
set_option maxRecDepth 100000
set_option linter.unusedSimpArgs false
set_option linter.unusedVariables false
theorem many_rng {F : Func} (h : goodF F = true) : 0 ≤ many F ∧ many F ≤ 80 := by
  obtain ⟨hp, hl, hh, hm, hc, hs, _⟩ := goodF_spec h
  omega
end Go.Proofs.YtbmloeahcdneaaaGreat
end

section
namespace Go.Proofs.YtbmloeahcdneaaaGreat
set_option maxRecDepth 100000
set_option linter.unusedSimpArgs false
set_option linter.unusedVariables false
def szN (b : Block) : Nat := b.params_.toNat + b.insts_.length
def offN (bs : List Block) (k : Nat) : Nat := ((bs.take k).map szN).sum
def fstN (F : Func) (k : Nat) : Nat := F.params_.toNat + offN F.blocks_ k
theorem offN_cons (b : Block) (bs : List Block) (k : Nat) : offN (b :: bs) (k + 1) = szN b + offN bs k := by simp [offN]
theorem offN_zero (bs : List Block) : offN bs 0 = 0 := rfl
theorem offN_succ {bs : List Block} {k : Nat} (h : k < bs.length) : offN bs (k + 1) = offN bs k + szN (bs[k]?.getD default) := by
  unfold offN
  rw [take_snocD h, List.map_append, List.sum_append]; simp
theorem headOk_szN {b : Block} (h : headOk b = true) : 0 ≤ b.params_ ∧ b.params_ ≤ 4 ∧ b.insts_.length ≤ 80 ∧ IntKind.i64.wrap (b.params_ + b.insts_.length) = (szN b : Int) := by
  simp only [headOk, Bool.and_eq_true, decide_eq_true_eq] at h
  obtain ⟨h1, h2⟩ := inR_t.1 h.1
  refine ⟨h1, h2, h.2, ?_⟩
  rw [wrap_id (by omega) (by omega)]
  unfold szN; omega
theorem cntB_N : ∀ (bs : List Block) (m : Nat), bs.all headOk = true → m + 84 * bs.length ≤ 1000000 → cntB bs m = ((m + offN bs bs.length : Nat) : Int)
  | [], m, _, _ => by simp [cntB, offN]
  | b :: bs, m, h, hm => by
    simp only [List.all_cons, Bool.and_eq_true] at h
    obtain ⟨p0, p1, p2, e⟩ := headOk_szN h.1
    have hs : szN b ≤ 84 := by unfold szN; omega
    simp only [List.length_cons] at hm
    rw [cntB_cons, e, wrap_id (by omega) (by omega), show ((m : Int) + (szN b : Int)) = ((m + szN b : Nat) : Int) by omega, cntB_N bs (m + szN b) h.2 (by omega), List.length_cons, offN_cons]
    omega
theorem firsts_N : ∀ (bs : List Block) (m : Nat), bs.all headOk = true → m + 84 * bs.length ≤ 1000000 → ∀ k, k < bs.length → (firsts bs m)[k]? = some ((m + offN bs k : Nat) : Int)
  | [], m, _, _, k, hk => by simp at hk
  | b :: bs, m, h, hm, k, hk => by
    simp only [List.all_cons, Bool.and_eq_true] at h
    obtain ⟨p0, p1, p2, e⟩ := headOk_szN h.1
    have hs : szN b ≤ 84 := by unfold szN; omega
    simp only [List.length_cons] at hm hk
    cases k with
    | zero => simp [firsts, offN]
    | succ k =>
      have e2 : firsts (b :: bs) (m : Int) = (m : Int) :: firsts bs ((m + szN b : Nat) : Int) := by
        simp only [firsts]
        rw [e, wrap_id (by omega) (by omega)]
        congr 2
      rw [e2, List.getElem?_cons_succ, firsts_N bs (m + szN b) h.2 (by omega) k (by omega), offN_cons]
      congr 2; omega
theorem blkOf_N : ∀ (bs : List Block) (i : Nat), bs.all headOk = true → ∀ k j, k < bs.length → offN bs k ≤ j → j < offN bs (k + 1) → (blkOf bs i)[j]? = some ((i + k : Nat) : Int)
  | [], i, _, k, j, hk, _, _ => by simp at hk
  | b :: bs, i, h, k, j, hk, h1, h2 => by
    simp only [List.all_cons, Bool.and_eq_true] at h
    obtain ⟨p0, p1, p2, e⟩ := headOk_szN h.1
    have e2 : blkOf (b :: bs) i = List.replicate (szN b) (i : Int) ++ blkOf bs (i + 1) := by
      simp only [blkOf]
      rw [e, Int.toNat_natCast]
    rw [e2]
    simp only [List.length_cons] at hk
    cases k with
    | zero =>
      rw [offN_cons, offN_zero] at h2
      rw [List.getElem?_append_left (by simp; omega), List.getElem?_replicate, if_pos (by omega)]; rfl
    | succ k =>
      rw [offN_cons] at h1 h2
      rw [List.getElem?_append_right (by simp; omega), List.length_replicate, blkOf_N bs (i + 1) h.2 k (j - szN b) (by omega) (by omega) (by omega)]
      congr 2; omega
theorem offN_mono (bs : List Block) : ∀ {k l : Nat}, k ≤ l → offN bs k ≤ offN bs l := by
  intro k l h
  induction h with
  | refl => exact Nat.le_refl _
  | step h ih =>
    rename_i m
    refine Nat.le_trans ih ?_
    by_cases hm : m < bs.length
    · rw [offN_succ hm]; omega
    · unfold offN
      rw [List.take_of_length_le (by omega), List.take_of_length_le (by omega)]
      exact Nat.le_refl _
theorem offN_find {bs : List Block} : ∀ {n : Nat}, n < offN bs bs.length → ∃ k, k < bs.length ∧ offN bs k ≤ n ∧ n < offN bs (k + 1) := by
  induction bs with
  | nil => intro n h; simp [offN] at h
  | cons b bs ih =>
    intro n h
    rw [List.length_cons, offN_cons] at h
    by_cases hn : n < szN b
    · exact ⟨0, by simp, Nat.zero_le _, by rw [offN_cons, offN_zero]; omega⟩
    · obtain ⟨k, h1, h2, h3⟩ := ih (n := n - szN b) (by omega)
      exact ⟨k + 1, by simp; omega, by rw [offN_cons]; omega, by rw [offN_cons]; omega⟩
structure Lay (F : Func) : Prop where
  par : ((F.params_.toNat : Nat) : Int) = F.params_
  len : F.blocks_.length ≤ 8 ∧ 0 < F.blocks_.length
  many : many F = ((fstN F F.blocks_.length : Nat) : Int)
  first : ∀ k, k < F.blocks_.length → (viewD F).first_[k]? = some ((fstN F k : Nat) : Int)
  bkP : ∀ n : Nat, n < F.params_.toNat → bk (viewD F) n = -1
  bkB : ∀ (k n : Nat), k < F.blocks_.length → fstN F k ≤ n → n < fstN F (k + 1) → bk (viewD F) n = k
  find : ∀ n : Nat, n < fstN F F.blocks_.length → n < F.params_.toNat ∨ ∃ k, k < F.blocks_.length ∧ fstN F k ≤ n ∧ n < fstN F (k + 1)
theorem lay {F : Func} (h : goodF F = true) : Lay F := by
  obtain ⟨hp, hl, hh, hm, hc, hs, _⟩ := goodF_spec h
  have e : ((F.params_.toNat : Nat) : Int) = F.params_ := by omega
  have ef : (viewD F).block_ = List.replicate F.params_.toNat (-1) ++ blkOf F.blocks_ 0 := rfl
  refine ⟨e, by omega, ?_, fun k hk => ?_, fun n hn => ?_, fun k n hk h1 h2 => ?_, fun n hn => ?_⟩
  · show cntB F.blocks_ F.params_ = _
    rw [← e, cntB_N _ _ hh (by omega)]; rfl
  · show (firsts F.blocks_ F.params_)[k]? = _
    rw [← e, firsts_N _ _ hh (by omega) k hk]; rfl
  · unfold bk
    rw [ef, Int.toNat_natCast, List.getElem?_append_left (by simpa using hn), List.getElem?_replicate, if_pos hn]; rfl
  · unfold bk
    unfold fstN at h1 h2
    rw [ef, Int.toNat_natCast, List.getElem?_append_right (by simp; omega), List.length_replicate, blkOf_N _ 0 hh k (n - F.params_.toNat) hk (by omega) (by omega)]
    simp
  · by_cases hn' : n < F.params_.toNat
    · exact .inl hn'
    · unfold fstN at hn
      obtain ⟨k, h1, h2, h3⟩ := offN_find (bs := F.blocks_) (n := n - F.params_.toNat) (by omega)
      exact .inr ⟨k, h1, by unfold fstN; omega, by unfold fstN; omega⟩
theorem fstN_succ {F : Func} {k : Nat} (h : k < F.blocks_.length) : fstN F (k + 1) = fstN F k + szN (F.blocks_[k]?.getD default) := by
  unfold fstN; rw [offN_succ h]; omega
theorem fstN_mono (F : Func) {k l : Nat} (h : k ≤ l) : fstN F k ≤ fstN F l := by
  unfold fstN; have := offN_mono F.blocks_ h; omega
theorem blk_head {F : Func} (h : goodF F = true) {k : Nat} (hk : k < F.blocks_.length) : 0 ≤ (F.blocks_[k]?.getD default).params_ ∧ (F.blocks_[k]?.getD default).params_ ≤ 4 ∧ (F.blocks_[k]?.getD default).insts_.length ≤ 80 := by
  obtain ⟨hp, hl, hh, _⟩ := goodF_spec h
  have := headOk_szN (List.all_eq_true.1 hh (F.blocks_[k]?.getD default) (by rw [List.getElem?_eq_getElem hk]; exact List.getElem_mem hk))
  exact ⟨this.1, this.2.1, this.2.2.1⟩
end Go.Proofs.YtbmloeahcdneaaaGreat
end
