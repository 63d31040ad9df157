/- slices.ContainsFunc over numbers, with a closure that looks into places of its caller. No condition. -/
import Derived.Test.YtbmloeahcdneaaaGreatQS17
namespace Go.Proofs.YtbmloeahcdneaaaGreat
set_option maxRecDepth 100000
set_option linter.unusedSimpArgs false
set_option linter.unusedVariables false
theorem indexOwn (l : List Int) (fn : Nat) (caps : List V) (H : Heap) (p : Int → Bool) (hl : l.length ≤ 1000) (hb : placesBelow H.length H) (hc : belowL H.length caps = true)
    (h : ∀ x ∈ l, CallsD Tryz.prog fn (.d (.int .i64 x) :: caps) H fun r H' => r = .d (.bool (p x)) ∧ H' = H) :
    CallsD Tryz.prog 148 [.d (dIntS l), .clo fn caps] H fun r H' => (∃ k, r = .d (.int .i64 k) ∧ (0 ≤ k ↔ l.any p = true)) ∧ H' = H := by
  refine calls_of Tryz.func148 en_148 rfl (of_decide_eq_true rfl) (W_run mixed ⟨[], [], [], 19, H.length, [0, 1, 4, 5, 7, 8, 9, 16], [9, 16]⟩ (fun _ => []) (by kernel_rfl) ?_)
  simp only [Tryz.f148, stripX, stripOps, pickOps]
  simp []
  refine W_loopA (fun i : Nat => [(0, .d (dIntS l)), (1, .clo fn caps), (7, .d (.int .i64 l.length)), (8, .d (.int .i64 i))]) (fun _ => H) (fun i => i ≤ l.length ∧ (l.take i).any p = false) (fun i => l.length - i) 0 ?_ ?_ ?_
  · simp [hb, hc]
  · simp
  rintro i ⟨hi, hp⟩
  refine W_run mixed ⟨[], [], [], 19, H.length, [0, 1, 4, 5, 7, 8, 9, 16], [9, 16]⟩ (fun _ => []) (by kernel_rfl) ?_
  simp only [stripX, stripOps, pickOps]
  simp [retQ]
  refine ⟨fun hil => ⟨hil, ?_⟩, fun hil => ?_⟩
  · have hx : l[i]?.getD 0 ∈ l := by rw [List.getElem?_eq_getElem hil]; exact List.getElem_mem hil
    refine (h _ hx).mono ?_
    rintro r H' ⟨rfl, rfl⟩
    cases hpx : p (l[i]?.getD 0) with
    | true =>
      simp [retQ]
      exact ⟨_, Fin.drop (by simp) hb rfl (Nat.le_refl _), _, rfl, ⟨fun _ => ⟨_, hx, hpx⟩, fun _ => by omega⟩⟩
    | false =>
      simp [retQ]
      refine ⟨i + 1, ⟨by omega, fun x hx => ?_⟩, by omega, hb, hc, by rw [wrap_id] <;> omega⟩
      rw [List.take_succ_eq_append_getElem hil] at hx
      rcases List.mem_append.1 hx with q | q
      · cases e : p x with
        | false => rfl
        | true => rw [List.any_eq_true.2 ⟨x, q, e⟩] at hp; cases hp
      · have e : x = l[i]?.getD 0 := by rw [List.getElem?_eq_getElem hil]; simpa using q
        rw [e]; exact hpx
  · refine ⟨_, Fin.drop (by simp) hb rfl (Nat.le_refl _), _, rfl, ⟨fun h => absurd h (by decide), fun ⟨x, hx, q⟩ => ?_⟩⟩
    rw [List.take_of_length_le hil, List.any_eq_true.2 ⟨x, hx, q⟩] at hp
    cases hp
theorem containsOwn (l : List Int) (fn : Nat) (caps : List V) (H : Heap) (p : Int → Bool) (hl : l.length ≤ 1000) (hb : placesBelow H.length H) (hc : belowL H.length caps = true)
    (h : ∀ x ∈ l, CallsD Tryz.prog fn (.d (.int .i64 x) :: caps) H fun r H' => r = .d (.bool (p x)) ∧ H' = H) :
    CallsD Tryz.prog 87 [.d (dIntS l), .clo fn caps] H fun r H' => r = .d (.bool (l.any p)) ∧ H' = H := by
  refine calls_of Tryz.func87 en_87 rfl (of_decide_eq_true rfl) (W_run mixed ⟨[], [], [148], 9, H.length, [0, 1, 4], []⟩ (fun _ => []) (by kernel_rfl) ?_)
  simp only [Tryz.f87, stripX, stripOps, pickOps]
  simp []
  refine (indexOwn l fn caps H p hl hb hc h).mono ?_
  rintro r H' ⟨⟨k, rfl, hk⟩, rfl⟩
  simp [retQ]
  have e : decide (0 ≤ k) = l.any p := by rw [Bool.eq_iff_iff, decide_eq_true_eq]; exact hk
  rw [e]
  exact Fin.drop (by simp) hb rfl (Nat.le_refl _)
def usedL (b : Block) : List Int := (if b.end_ = 2 then [] else [b.value_]) ++ b.jumps_.flatMap (·.args_)
section
variable {α : Type} {b : Block} {fn : Nat} {caps : List V} {L : Nat} {Hs : α → Heap} {f : α → Int → α}
theorem used_loop (s1 : α) (hj : b.jumps_.length ≤ 1000) (ha : ∀ j ∈ b.jumps_, j.args_.length ≤ 1000) (hL : ∀ s, (Hs s).length = L) (hb : ∀ s, placesBelow L (Hs s)) (hc : belowL L caps = true)
    (h : ∀ s x n g, x ∈ usedL b → 1 ≤ n → g 0 = D.int .i64 x → CallsD Tryz.prog fn (.d (.rp n g) :: caps) (Hs s) fun r H' => r = .tup [] ∧ H' = Hs (f s x))
    {c : Code} (hcd : (loopsIn (Tryz.f146.body.getD .skip))[0]? = some c) {Q : Exit → St → Prop} {s : St}
    (hs : Into L s [(0, .d (.rp 5 (dBlock b))), (1, .clo fn caps), (20, .d (.int .i64 b.jumps_.length)), (21, .d (.int .i64 0))] (Hs s1))
    (hq : ∀ l', Q (.exit 0) ⟨mk l', Hs ((b.jumps_.flatMap (·.args_)).foldl f s1)⟩) : W Tryz.prog 50 L c Q s := by
  cases hcd
  have tk : ∀ s, List.take L (Hs s) = Hs s := fun s => List.take_of_length_le (by rw [hL]; exact Nat.le_refl _)
  refine W_loopA (α := α × Nat) (fun a => [(0, .d (.rp 5 (dBlock b))), (1, .clo fn caps), (20, .d (.int .i64 b.jumps_.length)), (21, .d (.int .i64 a.2))]) (fun a => Hs a.1)
    (fun a => a.2 ≤ b.jumps_.length ∧ ((b.jumps_.drop a.2).flatMap (·.args_)).foldl f a.1 = (b.jumps_.flatMap (·.args_)).foldl f s1) (fun a => b.jumps_.length - a.2) (s1, 0) hs ?_ ?_
  · simp
  rintro ⟨s, i⟩ ⟨hi, hT⟩
  dsimp only at hi hT
  refine W_run mixed ⟨[], [], [], 50, L, [0, 1, 4, 5, 10, 20, 21, 22, 32, 33, 34], [10, 22, 34]⟩ (fun _ => []) (by kernel_rfl) ?_
  simp only [stripX, stripOps, pickOps]
  simp []
  refine ⟨fun hil => ⟨hil, ?_⟩, fun hil => ?_⟩
  · have hmem : b.jumps_[i]?.getD default ∈ b.jumps_ := by rw [List.getElem?_eq_getElem hil]; exact List.getElem_mem hil
    have hal := ha _ hmem
    have hin : ∀ x ∈ (b.jumps_[i]?.getD default).args_, x ∈ usedL b := fun x hx => List.mem_append_right _ (List.mem_flatMap.2 ⟨_, hmem, hx⟩)
    rw [drop_cons hil, List.flatMap_cons, List.foldl_append] at hT
    have hjn : (i : Int) < b.jumps_.length := by omega
    generalize hargs : (b.jumps_[i]?.getD default).args_ = av at hal hin hT
    refine W_loopA (α := α × Nat) (fun a => [(0, .d (.rp 5 (dBlock b))), (1, .clo fn caps), (4, .d (.int .i64 i)), (20, .d (.int .i64 b.jumps_.length)), (21, .d (.int .i64 i)), (32, .d (.int .i64 av.length)), (33, .d (.int .i64 a.2))]) (fun a => Hs a.1)
      (fun a => a.2 ≤ av.length ∧ (av.drop a.2).foldl f a.1 = av.foldl f s) (fun a => av.length - a.2) (s, 0) ?_ ?_ ?_
    · simp [hL, hb, hc, tk]
    · simp
    rintro ⟨s', j⟩ ⟨hj', hT'⟩
    dsimp only at hj' hT'
    refine W_run mixed ⟨[], [], [], 50, L, [0, 1, 4, 5, 10, 20, 21, 22, 32, 33, 34], [10, 22, 34]⟩ (fun _ => []) (by kernel_rfl) ?_
    simp only [stripX, stripOps, pickOps]
    simp [hL, hb, hc, tk, hargs]
    refine ⟨fun hja => ⟨hil, hja, ?_⟩, fun hja => ?_⟩
    · have hx : av[j]?.getD 0 ∈ av := by rw [List.getElem?_eq_getElem hja]; exact List.getElem_mem hja
      have hdr : av.drop j = av[j]?.getD 0 :: av.drop (j + 1) := by
        rw [List.drop_eq_getElem_cons hja, List.getElem?_eq_getElem hja]; rfl
      rw [hdr, List.foldl_cons] at hT'
      refine (h s' (av[j]?.getD 0) _ _ (hin _ hx) (Nat.le_refl _) rfl).mono ?_
      rintro r H' ⟨rfl, rfl⟩
      simp [hL, hb, hc, tk]
      exact ⟨_, j + 1, ⟨by omega, hT'⟩, by omega, rfl, by rw [wrap_id] <;> omega⟩
    · rw [List.drop_eq_nil_of_le hja] at hT'
      have e : s' = av.foldl f s := hT'
      exact ⟨s', i + 1, ⟨by omega, by rw [e]; exact hT⟩, by omega, rfl, by rw [wrap_id] <;> omega⟩
  · rw [List.drop_eq_nil_of_le hil] at hT
    have : Hs s = Hs ((b.jumps_.flatMap (·.args_)).foldl f s1) := by rw [← hT]; rfl
    rw [this]
    exact hq _
theorem usedOwn (s0 : α) (hj : b.jumps_.length ≤ 1000) (ha : ∀ j ∈ b.jumps_, j.args_.length ≤ 1000) (hL : ∀ s, (Hs s).length = L) (hb : ∀ s, placesBelow L (Hs s)) (hc : belowL L caps = true)
    (h : ∀ s x n g, x ∈ usedL b → 1 ≤ n → g 0 = D.int .i64 x → CallsD Tryz.prog fn (.d (.rp n g) :: caps) (Hs s) fun r H' => r = .tup [] ∧ H' = Hs (f s x)) :
    CallsD Tryz.prog 146 [.d (.rp 5 (dBlock b)), .clo fn caps] (Hs s0) fun r H' => r = .tup [] ∧ H' = Hs ((usedL b).foldl f s0) := by
  have tk : ∀ s, List.take L (Hs s) = Hs s := fun s => List.take_of_length_le (by rw [hL]; exact Nat.le_refl _)
  have fin : ∀ T, Fin L (Hs T) (.tup []) (Hs T) (.tup []) := fun T => Fin.drop (by simp) (by rw [hL]; exact hb T) rfl (by rw [hL]; exact Nat.le_refl _)
  by_cases e : b.end_ = 2
  · refine calls_of Tryz.func146 en_146 rfl (of_decide_eq_true rfl) (W_run mixed ⟨[], [], [], 50, (Hs s0).length, [0, 1, 4, 5, 10, 20, 21, 22, 32, 33, 34], [10, 22, 34]⟩ (fun _ => []) (by kernel_rfl) ?_)
    simp only [Tryz.f146, stripX, stripOps, pickOps]
    simp [e]
    rw [hL s0]
    refine used_loop s0 hj ha hL hb hc h rfl ?_ fun l' => ?_
    · simp [hL, hb, hc, tk]
    · simp [retQ]
      have eu : (usedL b).foldl f s0 = (b.jumps_.flatMap (·.args_)).foldl f s0 := by simp [usedL, e]
      rw [eu]; exact fin _
  · refine calls_of Tryz.func146 en_146 rfl (of_decide_eq_true rfl) (W_run mixed ⟨[], [], [], 50, (Hs s0).length, [0, 1, 4, 5, 10, 20, 21, 22, 32, 33, 34], [10, 22, 34]⟩ (fun _ => []) (by kernel_rfl) ?_)
    simp only [Tryz.f146, stripX, stripOps, pickOps]
    simp [e]
    refine (h s0 b.value_ _ _ (by simp [usedL, e]) (by decide) rfl).mono ?_
    rintro r H' ⟨rfl, rfl⟩
    rw [hL s0]
    simp []
    refine used_loop (f s0 b.value_) hj ha hL hb hc h rfl ?_ fun l' => ?_
    · simp [hL, hb, hc, tk]
    · simp [retQ]
      have eu : (usedL b).foldl f s0 = (b.jumps_.flatMap (·.args_)).foldl f (f s0 b.value_) := by simp [usedL, e]
      rw [eu]; exact fin _
end
end Go.Proofs.YtbmloeahcdneaaaGreat
