/- The abstract machine, part 30: calls that work in the caller's places: places that are left behind are dropped at the end. No condition. -/
import Derived.Test.YtpakdkiceoknjaaC9
namespace Go.Proofs.Ytpakdkiceoknjaa
set_option linter.unusedVariables false
set_option linter.unusedSimpArgs false

mutual
theorem V.ren_id {n : Nat} : ∀ (c : V), c.under n = true → c.ren (List.range n) = c
  | .d x, _ => rfl
  | .ptr id e i j, h => by
    have : id < n := by simpa [V.under] using h
    simp [V.ren, this]
  | .sl id e off m, h => by
    have : id < n := by simpa [V.under] using h
    simp [V.ren, this]
  | .agg l, h => by simp only [V.ren]; rw [renL_id l (by simpa [V.under] using h)]
  | .tup l, h => by simp only [V.ren]; rw [renL_id l (by simpa [V.under] using h)]
  | .clo f l, h => by simp only [V.ren]; rw [renL_id l (by simpa [V.under] using h)]
theorem renL_id {n : Nat} : ∀ (l : List V), belowL n l = true → renL (List.range n) l = l
  | [], _ => rfl
  | c :: l, h => by
    simp only [belowL, Bool.and_eq_true] at h
    simp only [renL]
    rw [V.ren_id c h.1, renL_id l h.2]
end
theorem belowL_all {n : Nat} : ∀ {l : List V}, l.all (V.under n) = true → belowL n l = true
  | [], _ => rfl
  | c :: l, h => by
    simp only [List.all_cons, Bool.and_eq_true] at h
    simp only [belowL, Bool.and_eq_true]
    exact ⟨h.1, belowL_all h.2⟩
theorem Place.ren_id {n : Nat} : ∀ (p : Place), placeBelow n p = true → p.ren (List.range n) = p
  | .dead, _ => rfl
  | .row e es, h => by
    simp only [placeBelow, List.all_eq_true] at h
    simp only [Place.ren]
    congr 1
    have : ∀ l ∈ es, renL (List.range n) l = l := fun l hl => renL_id l (belowL_all (List.all_eq_true.2 (h l hl)))
    rw [List.map_congr_left this, List.map_id']
theorem placesR_id {n : Nat} {H0 : Heap} : ∀ (k : Nat) (H : Heap), (∀ i p, H[i]? = some p → H0[k + i]? = some p ∧ placeBelow n p = true) → placesR (List.range n) H0 (List.range' k H.length) H
  | k, [], _ => rfl
  | k, p :: H, h => by
    have h0 := h 0 p rfl
    simp only [List.length_cons, List.range'_succ, placesR, List.length_range]
    refine ⟨⟨by rw [Place.ren_id p h0.2]; exact h0.1, h0.2⟩, placesR_id (k + 1) H fun i q hq => ?_⟩
    have := h (i + 1) q (by simpa using hq)
    rw [show k + 1 + i = k + (i + 1) by omega]
    exact this
/-- What lies behind the first places is dropped. -/
theorem Fin.drop {n0 : Nat} {H0 H : Heap} {r : V} (hH : H0.take H.length = H) (hb : placesBelow H.length H) (hr : r.under H.length = true) (hn : n0 ≤ H.length) : Fin n0 H0 r H r := by
  have hle : H.length ≤ H0.length := by
    have := congrArg List.length hH
    rw [List.length_take] at this
    omega
  have hp : placesR (List.range H.length) H0 (List.range H.length) H := by
    have := placesR_id (n := H.length) (H0 := H0) 0 H fun i p hi => by
      have hlt := (List.getElem?_eq_some_iff.1 hi).1
      refine ⟨?_, placesBelow_get hb hi⟩
      have e := congrArg (fun l => l[i]?) hH
      simp only [List.getElem?_take, if_pos hlt] at e
      rw [Nat.zero_add, e, hi]
    rw [List.range_eq_range']
    rw [List.range_eq_range'] at this
    exact this
  refine Fin.ren (List.range H.length) ?_ hp (V.ren_id r hr).symm (by rw [List.length_range]; exact hr) (by omega)
  simp only [okσ, Bool.and_eq_true, beq_iff_eq, decide_eq_true_eq, List.length_range]
  refine ⟨⟨⟨trivial, List.nodup_range⟩, hn⟩, ?_⟩
  rw [List.take_range, Nat.min_eq_left hn]
/-- The end of a call that answers a value and leaves the places H. -/
theorem fin_drop {n0 : Nat} {H0 H : Heap} {r : V} {Q : V → Heap → Prop} (hq : Q r H) (hH : H0.take H.length = H) (hb : placesBelow H.length H) (hr : r.under H.length = true) (hn : n0 ≤ H.length) : ∃ r' H', Fin n0 H0 r H' r' ∧ Q r' H' := ⟨r, H, Fin.drop hH hb hr hn, hq⟩
end Go.Proofs.Ytpakdkiceoknjaa
