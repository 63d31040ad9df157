/- The abstract machine, part 9: make, append, and parts of slices. No condition. -/
import Derived.Test.YtpakdkiceoknjaaA8
namespace Go.Proofs.Ytpakdkiceoknjaa
set_option linter.unusedVariables false
set_option linter.unusedSimpArgs false

section
variable {P : Program} {x : Ctx} {N : Nat} {env : Env} {H : Heap} {φ : List (Nat × Nat)} {a : Act} {w : World}

theorem flatten_elem {e : Nat} {es : List (List V)} (he : ∀ l ∈ es, l.length = e) {j : Nat} {c : V} (h : es.flatten[j]? = some c) :
    ∃ i l m, es[i]? = some l ∧ l[m]? = some c ∧ j = i * e + m := by
  induction es generalizing j with
  | nil => simp at h
  | cons l es ih =>
    rw [List.flatten_cons] at h
    have hl : l.length = e := he l (by simp)
    by_cases hj : j < l.length
    · rw [List.getElem?_append_left hj] at h
      exact ⟨0, l, j, rfl, h, by simp⟩
    · rw [List.getElem?_append_right (by omega)] at h
      obtain ⟨i, l', m, h1, h2, h3⟩ := ih (fun l hl => he l (by simp [hl])) h
      exact ⟨i + 1, l', m, by simpa using h1, h2, by rw [Nat.add_mul]; omega⟩

theorem makeSliceD_gives (h : Sim x N ⟨env, H⟩ φ a w) (t : TypeId) {p q : V} {vp vq : Value} (hp : VS w (owned x.X φ H) φ p vp) (hq : VS w (owned x.X φ H) φ q vq)
    {k : V → Heap → Prop} (hk : makeSliceD P t p q H k) : Gives P x N env a w (Instr.makeSlice t vp vq) k := by
  unfold makeSliceD at hk
  split at hk
  case h_2 => exact hk.elim
  rename_i et hti
  obtain ⟨i, u, z, hi, hu, hz, e⟩ := tinfo_spec hti
  obtain rfl := tk_slice (u := u) (by injection e; symm; assumption)
  split at hk
  case h_2 => exact hk.elim
  rename_i te hte
  obtain ⟨i', u', z', hi', hu', hz', rfl⟩ := tinfo_spec hte
  simp only at hk
  split at hk
  case h_2 => exact hk.elim
  rename_i kl l kc c
  obtain ⟨⟨h0, hlc, hbytes, h47, hpos, hzl, hones⟩, hk⟩ := hk
  simp only [VS, DS] at hp hq
  subst hp
  subst hq
  have hzs : z'.cells.size = i'.size := by simpa using hzl
  have hr := run_make (P := P) w t et i' z' hu hi' hz' kl kc l c h0 hlc (by rw [Int.mul_comm]; omega) (by omega)
  have hzero : ((z'.cells.toList.map dOf).map V.d).length = i'.size := by simp [hzs]
  have hnew := newRow_gives h et (e := i'.size) (n := l.toNat) (cap := c.toNat) (es := List.replicate l.toNat ((z'.cells.toList.map dOf).map V.d)) (cs := madeCells z'.cells (c.toNat * i'.size))
    (fun m hm => by rw [List.eq_of_mem_replicate hm]; exact hzero) (fun m hm => by rw [List.eq_of_mem_replicate hm]; exact hones) (by simp) (by omega) (by rw [size_madeCells]; exact Nat.le_refl _)
    (fun j c' hc => by
      obtain ⟨i2, l2, m, h1, h2, h3⟩ := flatten_elem (e := i'.size) (fun m hm => by rw [List.eq_of_mem_replicate hm]; exact hzero) hc
      have hl2 : l2 = ((z'.cells.toList.map dOf).map V.d) := List.eq_of_mem_replicate (List.mem_of_getElem? h1)
      have hi2 : i2 < l.toNat := by have := (List.getElem?_eq_some_iff.1 h1).1; simpa using this
      have hm : m < i'.size := by rw [← hzero, ← hl2]; exact (List.getElem?_eq_some_iff.1 h2).1
      subst h3
      have hlt : i2 * i'.size + m < c.toNat * i'.size := by
        have : (i2 + 1) * i'.size ≤ c.toNat * i'.size := Nat.mul_le_mul_right _ (by omega)
        rw [Nat.add_mul] at this
        omega
      have hmod : (i2 * i'.size + m) % i'.size = m := by rw [Nat.mul_comm, Nat.mul_add_mod, Nat.mod_eq_of_lt hm]
      have hcell : (madeCells z'.cells (c.toNat * i'.size))[i2 * i'.size + m]? = some (z'.cells[m]!) := by
        unfold madeCells
        rw [Array.getElem?_map, Array.getElem?_range, if_pos hlt]
        simp [hzs, hmod]
      refine ⟨_, hcell, ?_⟩
      rw [hl2] at h2
      obtain ⟨v, q1, q2⟩ := VSs.get _ _ (dOf_cells (own := owned x.X φ H) (w := w) (φ := φ) z'.cells.toList) m c' h2
      have : z'.cells[m]! = v := by
        have hm' : m < z'.cells.size := by omega
        rw [getElem!_pos z'.cells m hm']
        simpa [hm'] using q1
      rw [this]
      exact q2) hk
  obtain ⟨k1, k2, k3⟩ := hnew
  exact ⟨_, _, _, _, _, hr, k1, k2, k3⟩

/-! ### Parts of a slice -/
def OptS (w : World) (own : Nat → Prop) (φ : List (Nat × Nat)) : Option V → Option Value → Prop
  | none, none => True
  | some c, some u => VS w own φ c u
  | _, _ => False

theorem boundD_spec {v : Option V} {vv : Option Value} {dflt : Nat} {k : Nat → Prop} (hk : boundD v dflt k)
    (hv : OptS w (owned x.X φ H) φ v vv) :
    ∃ n, k n ∧ ((vv = none ∧ n = dflt) ∨ ∃ kd i, vv = some (.int kd i) ∧ 0 ≤ i ∧ n = i.toNat) := by
  unfold boundD at hk
  split at hk
  · cases vv with
    | none => exact ⟨dflt, hk, .inl ⟨rfl, rfl⟩⟩
    | some u => exact hv.elim
  · rename_i kd i
    cases vv with
    | none => exact hv.elim
    | some u =>
      simp only [OptS, VS, DS] at hv
      subst hv
      exact ⟨_, hk.2, .inr ⟨kd, i, rfl, hk.1, rfl⟩⟩
  · exact hk.elim

theorem run_sliceBounds_gen (isSlice : Bool) (len cap : Nat) (lo hi : Option Value) (l h : Nat) (hl : (lo = none ∧ l = 0) ∨ ∃ kd i, lo = some (.int kd i) ∧ 0 ≤ i ∧ l = i.toNat)
    (hh : (hi = none ∧ h = len) ∨ ∃ kd i, hi = some (.int kd i) ∧ 0 ≤ i ∧ h = i.toNat) (h1 : l ≤ h) (h2 : h ≤ cap) :
    (Instr.sliceBounds isSlice len cap lo hi none).run P w = .ok (l, h, cap) w := by
  rcases hl with ⟨rfl, rfl⟩ | ⟨kl, il, rfl, hl0, rfl⟩ <;> rcases hh with ⟨rfl, rfl⟩ | ⟨kh, ih, rfl, hh0, rfl⟩
  · simp [Instr.sliceBounds]
  · have a1 : ih ≤ (cap : Int) := by omega
    simp [Instr.sliceBounds, Instr.sliceBound, asIntOf, hh0, a1]
  · have a1 : il ≤ (h : Int) := by omega
    simp [Instr.sliceBounds, Instr.sliceBound, asIntOf, hl0, a1]
  · have a1 : ih ≤ (cap : Int) := by omega
    have a2 : il ≤ ((ih.toNat : Nat) : Int) := by omega
    have a3 : il ≤ max ih 0 := by omega
    simp [Instr.sliceBounds, Instr.sliceBound, asIntOf, hh0, hl0, a1, a2, a3]

theorem sliceD_gives (h : Sim x N ⟨env, H⟩ φ a w) (t : TypeId) {p : V} {vp : Value} (hp : VS w (owned x.X φ H) φ p vp) (lo hi : Option Operand)
    {k : V → Prop} (hk : sliceD P t p (lo.map (ev env)) (hi.map (ev env)) none k) : Gives P x N env a w (Instr.sliceAt t vp (lo.map a.eval) (hi.map a.eval) none) fun v H' => k v ∧ H' = H := by
  have hlo : ∀ o : Option Operand, OptS w (owned x.X φ H) φ (o.map (ev env)) (o.map a.eval) := by
    intro o
    cases o with
    | none => trivial
    | some o => exact ev_spec h o
  unfold sliceD at hk
  split at hk
  case h_3 => exact hk.elim
  · rename_i et hti hmx
    obtain ⟨i, u, z, hi', hu, hz, e⟩ := tinfo_spec hti
    obtain rfl := tk_slice (u := u) (by injection e; symm; assumption)
    split at hk
    case h_2 => exact hk.elim
    rename_i te hte
    obtain ⟨i', u', z', hi'', hu', hz', rfl⟩ := tinfo_spec hte
    simp only at hk
    have hrun : ∀ (A : Option Addr) (n cap l hh : Nat), ((lo.map a.eval) = none ∧ l = 0 ∨ ∃ kd i, (lo.map a.eval) = some (.int kd i) ∧ 0 ≤ i ∧ l = i.toNat) →
        ((hi.map a.eval) = none ∧ hh = n ∨ ∃ kd i, (hi.map a.eval) = some (.int kd i) ∧ 0 ≤ i ∧ hh = i.toNat) → l ≤ hh → hh ≤ cap →
        (Instr.sliceAt t (.slice A n cap) (lo.map a.eval) (hi.map a.eval) none).run P w = .ok (.slice (if cap = l then A else A.map (·.add (l * i'.size))) (hh - l) (cap - l)) w := by
      intro A n cap l hh h1 h2 h3 h4
      have := run_sliceBounds_gen (P := P) (w := w) true n cap _ _ l hh h1 h2 h3 h4
      simp [Instr.sliceAt, run_underlying hu, Instr.slice, this, sizeOf, typeInfo, hi'']
    split at hk
    · rename_i e1 n f
      obtain ⟨rfl, hk⟩ := hk
      obtain ⟨hh, hk, hh'⟩ := boundD_spec (x := x) (φ := φ) (H := H) (w := w) hk (hlo hi)
      obtain ⟨l, hk, hl'⟩ := boundD_spec (x := x) (φ := φ) (H := H) (w := w) hk (hlo lo)
      obtain ⟨⟨h1, h2⟩, hk⟩ := hk
      simp only [VS, DS] at hp
      obtain ⟨A, cap, rfl, hcap, hf⟩ := hp
      refine Gives.same h (hrun A n cap l hh hl' hh' h1 (by omega)) ⟨hk, rfl⟩ ?_
      simp only [VS, DS]
      refine ⟨_, _, rfl, by omega, fun i2 j2 hi2 hj2 => ?_⟩
      obtain ⟨ad, rfl, g1, c, g2, g3⟩ := hf (l + i2) j2 (by omega) hj2
      rw [if_neg (by omega)]
      refine ⟨_, rfl, by rw [add_block]; exact g1, c, ?_, g3⟩
      rw [add_add, ← g2]
      congr 1
      rw [Nat.add_mul, Nat.add_assoc]
    · rename_i id e1 off n
      obtain ⟨rfl, hk⟩ := hk
      obtain ⟨hh, hk, hh'⟩ := boundD_spec (x := x) (φ := φ) (H := H) (w := w) hk (hlo hi)
      obtain ⟨l, hk, hl'⟩ := boundD_spec (x := x) (φ := φ) (H := H) (w := w) hk (hlo lo)
      obtain ⟨⟨h1, h2⟩, hk⟩ := hk
      simp only [VS] at hp
      obtain ⟨g, o, A, cap, hφ, rfl, hcap, hA, hroom⟩ := hp
      refine Gives.same h (hrun (some A) n cap l hh hl' hh' h1 (by omega)) ⟨hk, rfl⟩ ?_
      simp only [VS]
      by_cases hc : cap = l
      · rw [if_pos hc]
        refine ⟨g, o, A, cap - l, hφ, rfl, by omega, .inl (by omega), ?_⟩
        rw [show off + l + (cap - l) = off + cap by omega]
        exact hroom
      · rw [if_neg hc]
        refine ⟨g, o, A.add (l * i'.size), cap - l, hφ, rfl, by omega, .inr ?_, ?_⟩
        · rw [hA.resolve_left (by omega), add_plain', Nat.add_mul, Nat.add_assoc]
        · rw [show off + l + (cap - l) = off + cap by omega]
          exact hroom
    · obtain ⟨hh, hk, hh'⟩ := boundD_spec (x := x) (φ := φ) (H := H) (w := w) hk (hlo hi)
      obtain ⟨l, hk, hl'⟩ := boundD_spec (x := x) (φ := φ) (H := H) (w := w) hk (hlo lo)
      obtain ⟨⟨h1, h2⟩, hk3⟩ := hk
      simp only [VS, DS] at hp
      subst hp
      have := hrun none 0 0 l hh hl' hh' h1 h2
      obtain rfl : l = 0 := by omega
      obtain rfl : hh = 0 := by omega
      exact Gives.same h this ⟨hk3, rfl⟩ (by simp [VS, DS])
    · exact hk.elim
  · rename_i hti hmx
    obtain ⟨i, u, z, hi', hu, hz, e⟩ := tinfo_spec hti
    obtain rfl := tk_str (u := u) (by injection e; symm; assumption)
    split at hk
    case h_2 => exact hk.elim
    rename_i s
    obtain ⟨hh, hk, hh'⟩ := boundD_spec (x := x) (φ := φ) (H := H) (w := w) hk (hlo hi)
    obtain ⟨l, hk, hl'⟩ := boundD_spec (x := x) (φ := φ) (H := H) (w := w) hk (hlo lo)
    obtain ⟨⟨h1, h2⟩, hk⟩ := hk
    simp only [VS, DS] at hp
    subst hp
    have hb := run_sliceBounds_gen (P := P) (w := w) false s.size s.size _ _ l hh hl' hh' h1 h2
    refine Gives.same h (v := .string (s.extract l hh)) ?_ ⟨hk, rfl⟩ (by simp [VS, DS])
    simp [Instr.sliceAt, run_underlying hu, Instr.slice, hb]


/-! ### append -/
/-- What is appended: so many elements, whose cells are these. -/
structure Src (P : Program) (w : World) (sz : Nat) (v : Value) (m : Nat) (vals : List Value) : Prop where
  len : ∀ W : World, (Builtin.lenOf v).run P W = .ok m W
  part : ∀ n, n ≤ m → ∀ W : World, W.heap = w.heap → (Builtin.firstCells sz n v).run P W = .ok (vals.take (n * sz)).toArray W
  size : vals.length = m * sz
theorem Src.cells {sz : Nat} {v : Value} {m : Nat} {vals : List Value} (h : Src P w sz v m vals) (W : World) (hW : W.heap = w.heap) : (Builtin.firstCells sz m v).run P W = .ok vals.toArray W := by
  have := h.part m (Nat.le_refl _) W hW
  rwa [List.take_of_length_le (by rw [h.size]; exact Nat.le_refl _)] at this

theorem Src.slice {sz : Nat} {ad : Option Addr} {m cap : Nat} {vals : List Value} (hs : vals.length = m * sz) (hsz : 0 < sz)
    (hc : ∀ j v, vals[j]? = some v → ∃ p, ad = some p ∧ w.cell? (p.add j) = some v) : Src P w sz (.slice ad m cap) m vals := by
  refine ⟨fun W => by simp [Builtin.lenOf], fun n hn W hW => ?_, hs⟩
  cases ad with
  | none =>
    have : vals = [] := by
      cases vals with
      | nil => rfl
      | cons v vs => obtain ⟨p, hp, _⟩ := hc 0 v rfl; cases hp
    subst this
    simp [Builtin.firstCells]
  | some p =>
    refine run_firstCells_some W sz n p m cap (vals.take (n * sz)) (by rw [List.length_take, hs]; exact Nat.min_eq_left (Nat.mul_le_mul_right _ hn)) fun j v hv => ?_
    obtain ⟨p', hp, h1⟩ := hc j v (by rw [List.getElem?_take] at hv; split at hv; exact hv; cases hv)
    cases hp
    unfold World.cell? at h1 ⊢
    rw [hW]
    exact h1

theorem elemsD_spec (h : Sim x N ⟨env, H⟩ φ a w) {e : Nat} (hpos : 0 < e) {p : V} {vp : Value} (hp : VS w (owned x.X φ H) φ p vp) {k : List (List V) → Prop} (hk : elemsD e p H k) :
    ∃ news vals, k news ∧ (∀ l ∈ news, l.length = e) ∧ (∀ l ∈ news, ones l = true) ∧ VSs w (owned x.X φ H) φ news.flatten vals ∧ Src P w e vp news.length vals := by
  unfold elemsD at hk
  split at hk
  · rename_i id e' off n
    obtain ⟨rfl, hk⟩ := hk
    split at hk
    case h_2 => exact hk.elim
    rename_i e'' es hid
    obtain ⟨rfl, hlen, hk⟩ := hk
    simp only [VS] at hp
    obtain ⟨g, o, A, cap, hφ, rfl, hcap, hA, hroom⟩ := hp
    obtain ⟨g', o', cs1, t1, h1, h2, h3, h4⟩ := h.hs.live id _ es hid
    rw [hφ] at h1
    obtain ⟨rfl, rfl⟩ := Prod.mk.inj (Option.some.inj h1)
    have hmem : ∀ l ∈ (es.drop off).take n, l.length = e'' ∧ ones l = true := by
      intro l hl
      obtain ⟨i, hi⟩ := List.getElem?_of_mem hl
      rw [List.getElem?_take] at hi
      split at hi
      · rw [List.getElem?_drop] at hi
        obtain ⟨q1, q2⟩ := h4 _ l hi
        refine ⟨q1, ?_⟩
        unfold ones
        rw [List.all_eq_true]
        intro c hc
        obtain ⟨j, hj⟩ := List.getElem?_of_mem hc
        exact (q2 j c hj).1
      · cases hi
    have hn : ((es.drop off).take n).length = n := by simp; omega
    have hfl : ((es.drop off).take n).flatten.length = n * e'' := by rw [flatten_length (fun l hl => (hmem l hl).1), hn]
    have hcell : ∀ j, j < n * e'' → ∃ v, w.cell? ((⟨g, o + off * e'', none⟩ : Addr).add j) = some v ∧ ∃ c, ((es.drop off).take n).flatten[j]? = some c ∧ VS w (owned x.X φ H) φ c v := by
      intro j hj
      have hj' : j < ((es.drop off).take n).flatten.length := by omega
      obtain ⟨i, l, m, q1, q2, rfl⟩ := flatten_elem (fun l hl => (hmem l hl).1) (List.getElem?_eq_getElem hj')
      have q1' := q1
      rw [List.getElem?_take] at q1
      split at q1
      · rw [List.getElem?_drop] at q1
        obtain ⟨_, r2⟩ := h4 _ l q1
        obtain ⟨_, y, hy, hv⟩ := r2 m _ q2
        refine ⟨y, ?_, _, List.getElem?_eq_getElem hj', hv⟩
        rw [add_plain', cell_of_row w g _ cs1 t1 _ h2, ← hy]
        congr 1
        rw [Nat.add_mul]
        omega
      · cases q1
    obtain ⟨vals, hvl, hvv⟩ := exists_list (n * e'') _ hcell
    refine ⟨_, vals, hk, fun l hl => (hmem l hl).1, fun l hl => (hmem l hl).2, VSs_of _ _ (by omega) fun j c v hc hv => ?_, ?_⟩
    · obtain ⟨_, c', hc', hv'⟩ := hvv j v hv
      rw [hc] at hc'
      cases hc'
      exact hv'
    · rw [hn]
      refine Src.slice hvl hpos fun j v hv => ⟨A, rfl, ?_⟩
      have hjn : j < n * e'' := by rw [← hvl]; exact (List.getElem?_eq_some_iff.1 hv).1
      have hcap0 : cap ≠ 0 := by
        rintro rfl
        have : n = 0 := by omega
        subst this
        simp at hjn
      rw [hA.resolve_left hcap0]
      exact (hvv j v hv).1
  · rename_i e' n f
    obtain ⟨rfl, hone, hk⟩ := hk
    simp only [VS, DS] at hp
    obtain ⟨A, cap, rfl, hcap, hf⟩ := hp
    have hmem : ∀ l ∈ upto n (fun i => upto e' fun j => V.d (f i j)), l.length = e' ∧ ones l = true := by
      intro l hl
      obtain ⟨i, hi⟩ := List.getElem?_of_mem hl
      rw [upto_get] at hi
      split at hi
      · rename_i hin
        cases hi
        refine ⟨upto_length _ _, ?_⟩
        unfold ones
        rw [List.all_eq_true]
        intro c hc
        obtain ⟨j, hj⟩ := List.getElem?_of_mem hc
        rw [upto_get] at hj
        split at hj
        · cases hj
          exact hone i j hin (by assumption)
        · cases hj
      · cases hi
    have hfl : (upto n (fun i => upto e' fun j => V.d (f i j))).flatten.length = n * e' := by rw [flatten_length (fun l hl => (hmem l hl).1), upto_length]
    have hcell : ∀ j, j < n * e' → ∃ v, (∃ p, A = some p ∧ w.cell? (p.add j) = some v) ∧ ∃ c, (upto n (fun i => upto e' fun j => V.d (f i j))).flatten[j]? = some c ∧ VS w (owned x.X φ H) φ c v := by
      intro j hj
      have hj' : j < (upto n (fun i => upto e' fun j => V.d (f i j))).flatten.length := by omega
      obtain ⟨i, l, m, q1, q2, hji⟩ := flatten_elem (fun l hl => (hmem l hl).1) (List.getElem?_eq_getElem hj')
      subst hji
      rw [upto_get] at q1
      split at q1
      · rename_i hin
        cases q1
        rw [upto_get] at q2
        split at q2
        · rename_i hme
          obtain ⟨p, hp, _, c, hc, hd⟩ := hf i m hin hme
          have q3 := Option.some.inj q2
          exact ⟨c, ⟨p, hp, hc⟩, _, List.getElem?_eq_getElem hj', by rw [← q3]; simpa [VS] using hd⟩
        · cases q2
      · cases q1
    obtain ⟨vals, hvl, hvv⟩ := exists_list (n * e') _ hcell
    refine ⟨_, vals, hk, fun l hl => (hmem l hl).1, fun l hl => (hmem l hl).2, VSs_of _ _ (by omega) fun j c v hc hv => ?_, ?_⟩
    · obtain ⟨_, c', hc', hv'⟩ := hvv j v hv
      rw [hc] at hc'
      cases hc'
      exact hv'
    · rw [upto_length]
      exact Src.slice hvl hpos fun j v hv => (hvv j v hv).1
  · simp only [VS, DS] at hp
    subst hp
    exact ⟨[], [], hk, by simp, by simp, by simp [VSs], Src.slice (by simp) hpos (by simp)⟩
  · exact hk.elim

theorem run_append_in {t ty e : TypeId} {i : TypeInfo} (ht : P.underlying t = some (.slice e)) (hi : P.info? e = some i) {v : Value} {m : Nat} {vals : List Value} (hs : Src P w i.size v m vals)
    (g o sLen sCap : Nat) (cs : Array Value) (t1 : TypeId) (hg : w.heap[g]? = some (.cells cs t1 (0, 0))) (h1 : ∀ u ∈ vals, u.oneCell' = true) (hroom : sLen + m ≤ sCap)
    (hfit : o + sLen * i.size + vals.length ≤ cs.size) :
    (Builtin.append_ #[t, t] ty #[.slice (some ⟨g, o, none⟩) sLen sCap, v]).run P w =
      .ok (.slice (some ⟨g, o, none⟩) (sLen + m) sCap) (w.setRow g (cs.toList.take (o + sLen * i.size) ++ vals ++ cs.toList.drop (o + sLen * i.size + vals.length)).toArray) := by
  have hst := run_storeCells_at P g (o + sLen * i.size) t1 vals 0 cs w hg (by simpa using hfit) h1
  simp only [Nat.add_zero] at hst
  simp [Builtin.append_, run_underlying ht, sizeOf, typeInfo, hi, hs.len w, hroom, hs.cells w rfl, add_plain', hst]
theorem run_append_in0 {t ty e : TypeId} {i : TypeInfo} (ht : P.underlying t = some (.slice e)) (hi : P.info? e = some i) {v : Value} (hs : Src P w i.size v 0 [])
    (A : Option Addr) (sLen sCap : Nat) (hroom : sLen ≤ sCap) :
    (Builtin.append_ #[t, t] ty #[.slice A sLen sCap, v]).run P w = .ok (.slice A sLen sCap) w := by
  have hc := hs.cells w rfl
  cases A <;> simp [Builtin.append_, run_underlying ht, sizeOf, typeInfo, hi, hs.len w, hroom, hc, storeCells]
theorem run_append_up {t ty e : TypeId} {i : TypeInfo} {z : Value} (ht : P.underlying t = some (.slice e)) (hi : P.info? e = some i) (hz : i.zero = some z) {v : Value} {m : Nat} {vals : List Value}
    (hs : Src P w i.size v m vals) (A : Option Addr) (sLen sCap : Nat) (olds : List Value) (ho : ∀ W : World, W.heap = w.heap → (Builtin.firstCells i.size sLen (.slice A sLen sCap)).run P W = .ok olds.toArray W)
    (hg : sCap < sLen + m) (h63 : sLen + m ≤ 140737488355328) (hb : (sLen + m) * i.bytes ≤ 140737488355328) :
    (Builtin.append_ #[t, t] ty #[.slice A sLen sCap, v]).run P w =
      .ok (.slice (some ⟨w.heap.size, 0, none⟩) (sLen + m) (grownCap w (sLen + m) sCap e))
        (w.drew.alloc (.cells (olds.toArray ++ vals.toArray ++ Builtin.zeroCells z.cells (grownCap w (sLen + m) sCap e - (sLen + m))) e)) := by
  have hn : ¬ (sLen + m ≤ sCap) := by omega
  have h63' : ¬ (9223372036854775807 < ((sLen : Int) + (m : Int))) := by omega
  have hfit := growslice_fits (old := sCap) (need := sLen + m) (bytes := i.bytes) hg hb
  have h48' : ¬ (281474976710656 < Builtin.nextslicecap (sLen + m) sCap * i.bytes) := by omega
  have h1 := ho w.drew rfl
  have h2 := hs.cells w.drew rfl
  simp [Builtin.append_, run_underlying ht, sizeOf, typeInfo, zeroValue, hi, hz, hs.len w, hn, h63', h48', Question.forced, h1, h2, newRow, grownCap]
  congr 2
  apply Array.ext'
  simp [List.append_assoc]
end
end Go.Proofs.Ytpakdkiceoknjaa
