/- The abstract machine, part 7: what makes memory and what writes it. No condition. -/
import Derived.Test.YtpakdkiceoknjaaA6
namespace Go.Proofs.Ytpakdkiceoknjaa
set_option linter.unusedVariables false
set_option linter.unusedSimpArgs false

section
variable {P : Program} {x : Ctx} {N : Nat} {env : Env} {H : Heap} {φ : List (Nat × Nat)} {a : Act} {w : World}

theorem ones_get {l : List V} (h : ones l = true) {j : Nat} {c : V} (hc : l[j]? = some c) : c.one = true := by
  unfold ones at h
  rw [List.all_eq_true] at h
  exact h c (List.mem_of_getElem? hc)

theorem VS.flat {own : Nat → Prop} {c : V} {v : Value} (h : VS w own φ c v) (ho : ones c.flat = true) : VSs w own φ c.flat v.cells.toList := by
  cases c with
  | agg l =>
    simp only [VS] at h
    obtain ⟨cs, rfl, h⟩ := h
    exact h
  | tup l => simp [V.flat, ones, V.one] at ho
  | d y =>
    have h1 := VS.one h (by simpa [V.flat, ones] using ho)
    have : v.cells = #[v] := by cases v <;> simp [Value.cells, Value.oneCell'] at h1 ⊢
    rw [this]
    simp only [V.flat, VSs]
    exact ⟨v, [], by simp, h, rfl⟩
  | ptr id e i j =>
    have h1 := VS.one h (by simpa [V.flat, ones] using ho)
    have : v.cells = #[v] := by cases v <;> simp [Value.cells, Value.oneCell'] at h1 ⊢
    rw [this]
    simp only [V.flat, VSs]
    exact ⟨v, [], by simp, h, rfl⟩
  | sl id e off n =>
    have h1 := VS.one h (by simpa [V.flat, ones] using ho)
    have : v.cells = #[v] := by cases v <;> simp [Value.cells, Value.oneCell'] at h1 ⊢
    rw [this]
    simp only [V.flat, VSs]
    exact ⟨v, [], by simp, h, rfl⟩
  | clo fn l =>
    have h1 := VS.one h (by simpa [V.flat, ones] using ho)
    have : v.cells = #[v] := by cases v <;> simp [Value.cells, Value.oneCell'] at h1 ⊢
    rw [this]
    simp only [V.flat, VSs]
    exact ⟨v, [], by simp, h, rfl⟩

/-- A new variable. -/
theorem newVar_gives (h : Sim x N ⟨env, H⟩ φ a w) (t : TypeId) {l : List V} {cs : Array Value} (hv : VSs w (owned x.X φ H) φ l cs.toList) (ho : ones l = true)
    {k : V → Heap → Prop} (hk : k (.ptr H.length l.length 0 0) (H ++ [.row l.length [l]])) :
    Gives P x N env a w (do pure (.pointer (some (← newRow t cs)))) k := by
  have hl := VSs.length _ _ hv
  have hs := h.alloc l.length [l] cs t (by simp; simp at hl; omega) (by
    intro i m hm
    cases i with
    | zero =>
      simp at hm
      subst hm
      refine ⟨rfl, fun j c hc => ⟨ones_get ho hc, ?_⟩⟩
      obtain ⟨v, h1, h2⟩ := VSs.get _ _ hv j c hc
      exact ⟨v, by simpa using h1, h2⟩
    | succ i => simp at hm)
  refine ⟨.pointer (some ⟨w.heap.size, 0, none⟩), w.alloc (.cells cs t), _, _, _, ?_, hk, hs, ?_⟩
  · simp [newRow]
  · simp only [VS]
    exact ⟨w.heap.size, 0, by rw [← h.hs.len]; simp, by simp⟩

theorem boxD_gives (h : Sim x N ⟨env, H⟩ φ a w) (t : TypeId) {c : V} {v : Value} (hv : VS w (owned x.X φ H) φ c v)
    {k : V → Heap → Prop} (hk : boxD (tinfo P t) c H k) : Gives P x N env a w (Instr.box t v) k := by
  unfold boxD at hk
  split at hk
  · exact hk.elim
  · exact newVar_gives h t (VS.flat hv hk.1) hk.1 hk.2

theorem dOf_cells (l : List Value) {own : Nat → Prop} : VSs w own φ ((l.map dOf).map .d) l := by
  refine VSs_of _ _ (by simp) fun j c v hc hv => ?_
  simp only [List.map_map, List.getElem?_map, Option.map_eq_some_iff, Function.comp] at hc
  obtain ⟨u, hu, rfl⟩ := hc
  rw [hv] at hu
  cases hu
  exact dOf_spec w own v

theorem allocD_gives (h : Sim x N ⟨env, H⟩ φ a w) (t : TypeId) {k : V → Heap → Prop} (hk : allocD (tinfo P t) H k) : Gives P x N env a w (Instr.alloc t true (.tuple #[])) k := by
  unfold allocD at hk
  split at hk
  · exact hk.elim
  · rename_i ti hti
    obtain ⟨i, u, z, hi, hu, hz, rfl⟩ := tinfo_spec hti
    obtain ⟨ho, hk⟩ := hk
    simp only at ho hk
    have hv : VSs w (owned x.X φ H) φ ((z.cells.toList.map dOf).map .d) z.cells.toList := dOf_cells _
    have := newVar_gives (P := P) h t hv ho (k := k) (by simpa using hk)
    obtain ⟨v, w', c, H', φ', hr, rest⟩ := this
    refine ⟨v, w', c, H', φ', ?_, rest⟩
    rw [← hr]
    simp [Instr.alloc, zeroValue, typeInfo, hi, hz, newVar]

theorem add_sub_cells {g o e i j m : Nat} : (⟨g, o + i * e + j, none⟩ : Addr).add m = ⟨g, o + i * e + (j + m), none⟩ := by rw [add_plain', Nat.add_assoc]

theorem setMany_length (l cs : List V) (j : Nat) : (setMany l j cs).length = l.length := by
  induction cs generalizing l j with
  | nil => rfl
  | cons c cs ih => simp [setMany, ih]
theorem setMany_get (l cs : List V) (j m : Nat) (hj : j + cs.length ≤ l.length) : (setMany l j cs)[m]? = if j ≤ m ∧ m < j + cs.length then cs[m - j]? else l[m]? := by
  induction cs generalizing l j with
  | nil => simp [setMany]; omega
  | cons c cs ih =>
    simp only [setMany]
    rw [ih _ _ (by simp at hj ⊢; omega)]
    simp only [List.length_cons] at hj ⊢
    by_cases h1 : j + 1 ≤ m ∧ m < j + 1 + cs.length
    · rw [if_pos h1, if_pos (by omega)]
      obtain ⟨d, rfl⟩ : ∃ d, m = j + 1 + d := ⟨m - (j + 1), by omega⟩
      simp [show j + 1 + d - j = d + 1 by omega]
    · rw [if_neg h1]
      by_cases h2 : m = j
      · subst h2
        rw [if_pos (by omega), List.getElem?_set_self (by omega)]
        simp
      · rw [if_neg (by omega), List.getElem?_set_ne (fun e => h2 e.symm)]

theorem storeD_gives (h : Sim x N ⟨env, H⟩ φ a w) (t : TypeId) {p c : V} {vp vc : Value} (hp : VS w (owned x.X φ H) φ p vp) (hc : VS w (owned x.X φ H) φ c vc)
    {k : Heap → Prop} (hk : storeD (tinfo P t) p c H k) : ∃ w' H', (Instr.storeAt t vp vc).run P w = .ok () w' ∧ k H' ∧ Sim x N ⟨env, H'⟩ φ a w' := by
  unfold storeD at hk
  split at hk
  · exact hk.elim
  · rename_i ti hti
    obtain ⟨i, u, z, hi, hu, hz, rfl⟩ := tinfo_spec hti
    split at hk
    case h_2 => exact hk.elim
    rename_i id e i1 j1
    split at hk
    case h_2 => exact hk.elim
    rename_i e' es hid
    obtain ⟨rfl, l, hes, hlen, hj, ho, hk⟩ := hk
    simp only at hlen hj hk
    simp only [VS] at hp
    obtain ⟨g, o, hφ, rfl⟩ := hp
    obtain ⟨g', o', cs, t1, h1, h2, h3, h4⟩ := h.hs.live id _ es hid
    rw [hφ] at h1
    obtain ⟨rfl, rfl⟩ := Prod.mk.inj (Option.some.inj h1)
    have hcells := VS.flat hc ho
    have hcl := VSs.length _ _ hcells
    have hi1 : i1 < es.length := (List.getElem?_eq_some_iff.1 hes).1
    obtain ⟨hll, hlc⟩ := h4 i1 l hes
    have hfit : o + i1 * e' + j1 + vc.cells.toList.length ≤ cs.size := by
      have : (i1 + 1) * e' ≤ es.length * e' := Nat.mul_le_mul_right _ hi1
      rw [Nat.add_mul] at this
      omega
    have hone : ∀ v ∈ vc.cells.toList, v.oneCell' = true := by
      intro v hv
      obtain ⟨m, hm⟩ := List.getElem?_of_mem hv
      have hm' : m < c.flat.length := by rw [hcl]; exact (List.getElem?_eq_some_iff.1 hm).1
      obtain ⟨v', hv1, hv2⟩ := VSs.get _ _ hcells m c.flat[m] (List.getElem?_eq_getElem hm')
      rw [hm] at hv1
      cases hv1
      exact VS.one hv2 (ones_get ho (List.getElem?_eq_getElem hm'))
    have hst := run_storeCells_at P g (o + i1 * e' + j1) t1 vc.cells.toList 0 cs w h2 (by simpa using hfit) hone
    have hsize : vc.cells.size = i.size := by simp at hcl; omega
    have hrun : (Instr.storeAt t (.pointer (some ⟨g, o + i1 * e' + j1, none⟩)) vc).run P w = (storeCells ⟨g, o + i1 * e' + j1, none⟩ vc.cells.toList).run P w := by
      simp [Instr.storeAt, Instr.sureAddr, storeVar, sizeOf, typeInfo, hi, hsize]
    refine ⟨_, _, hrun.trans hst, hk, ?_⟩
    have hsz : ((cs.toList.take (o + i1 * e' + j1 + 0) ++ vc.cells.toList ++ cs.toList.drop (o + i1 * e' + j1 + 0 + vc.cells.toList.length)).toArray).size = cs.size := by
      simp
      simp at hfit
      omega
    have hget : ∀ m, (cs.toList.take (o + i1 * e' + j1 + 0) ++ vc.cells.toList ++ cs.toList.drop (o + i1 * e' + j1 + 0 + vc.cells.toList.length)).toArray[m]? =
        if o + i1 * e' + j1 ≤ m ∧ m < o + i1 * e' + j1 + vc.cells.toList.length then vc.cells.toList[m - (o + i1 * e' + j1)]? else cs[m]? := by
      intro m
      rw [List.getElem?_toArray]
      have hA : (cs.toList.take (o + i1 * e' + j1 + 0)).length = o + i1 * e' + j1 := by simp; simp at hfit; omega
      by_cases hm1 : m < o + i1 * e' + j1
      · rw [if_neg (by omega), List.append_assoc, List.getElem?_append_left (by omega), List.getElem?_take, if_pos (by omega)]
        simp
      · by_cases hm2 : m < o + i1 * e' + j1 + vc.cells.toList.length
        · rw [if_pos ⟨by omega, hm2⟩, List.append_assoc, List.getElem?_append_right (by omega), List.getElem?_append_left (by omega), hA]
        · rw [if_neg (by omega), List.getElem?_append_right (by rw [List.length_append]; omega), List.getElem?_drop, List.length_append, hA]
          rw [show o + i1 * e' + j1 + 0 + vc.cells.toList.length + (m - (o + i1 * e' + j1 + vc.cells.toList.length)) = m by omega]
          simp
    refine h.setRow hid hφ h2 hsz (by rw [hsz]; simpa using h3) ?_
    intro i2 l2 hl2
    by_cases hii : i2 = i1
    · subst hii
      simp [hi1] at hl2
      subst hl2
      refine ⟨by rw [setMany_length]; exact hll, fun j c' hc' => ?_⟩
      rw [setMany_get _ _ _ _ (by omega)] at hc'
      split at hc'
      · rename_i hjj
        obtain ⟨v', hv1, hv2⟩ := VSs.get _ _ hcells _ c' hc'
        refine ⟨ones_get ho hc', v', ?_, hv2⟩
        rw [hget, if_pos (by omega)]
        rw [← hv1]
        congr 1
        omega
      · rename_i hjj
        obtain ⟨h5, y, hy, hv⟩ := hlc j c' hc'
        refine ⟨h5, y, ?_, hv⟩
        rw [hget, if_neg (by omega)]
        exact hy
    · rw [List.getElem?_set_ne (fun e => hii e.symm)] at hl2
      obtain ⟨h5, h6⟩ := h4 i2 l2 hl2
      refine ⟨h5, fun j c' hc' => ?_⟩
      obtain ⟨h7, y, hy, hv⟩ := h6 j c' hc'
      refine ⟨h7, y, ?_, hv⟩
      have hjlt : j < e' := by rw [← h5]; exact (List.getElem?_eq_some_iff.1 hc').1
      rw [hget, if_neg, hy]
      rintro ⟨q1, q2⟩
      rcases Nat.lt_or_gt_of_ne hii with q | q
      · have : (i2 + 1) * e' ≤ i1 * e' := Nat.mul_le_mul_right _ q
        rw [Nat.add_mul] at this
        omega
      · have : (i1 + 1) * e' ≤ i2 * e' := Nat.mul_le_mul_right _ q
        rw [Nat.add_mul] at this
        omega
end
end Go.Proofs.Ytpakdkiceoknjaa
