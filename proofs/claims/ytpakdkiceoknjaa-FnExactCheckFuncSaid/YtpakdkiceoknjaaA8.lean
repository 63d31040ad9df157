/- The abstract machine, part 8: structs and slices that are made, slices that are appended to. No condition. -/
import Derived.Test.YtpakdkiceoknjaaA7
namespace Go.Proofs.Ytpakdkiceoknjaa
set_option linter.unusedVariables false
set_option linter.unusedSimpArgs false

section
variable {P : Program} {x : Ctx} {N : Nat} {env : Env} {H : Heap} {φ : List (Nat × Nat)} {a : Act} {w : World}

theorem foldl_set_list (off : Nat) : ∀ (cs : List Value) (n : Nat) (cells : Array Value) (m : Nat), off + n + cs.length ≤ cells.size →
    ((cs.zipIdx n).foldl (fun (c : Array Value) (q : Value × Nat) => c.setIfInBounds (off + q.2) q.1) cells)[m]? =
      if off + n ≤ m ∧ m < off + n + cs.length then cs[m - (off + n)]? else cells[m]?
  | [], n, cells, m, _ => by simp; omega
  | c :: cs, n, cells, m, h => by
    simp only [List.zipIdx_cons, List.foldl_cons, List.length_cons] at h ⊢
    rw [foldl_set_list off cs (n + 1) _ m (by simp; omega)]
    by_cases h1 : off + (n + 1) ≤ m ∧ m < off + (n + 1) + cs.length
    · rw [if_pos h1, if_pos (by omega)]
      obtain ⟨d, rfl⟩ : ∃ d, m = off + (n + 1) + d := ⟨m - (off + (n + 1)), by omega⟩
      simp [show off + (n + 1) + d - (off + n) = d + 1 by omega]
    · rw [if_neg h1]
      by_cases h2 : m = off + n
      · subst h2
        rw [if_pos (by omega), Array.getElem?_setIfInBounds_self_of_lt (by omega)]
        simp
      · rw [if_neg (by omega), Array.getElem?_setIfInBounds_ne (fun e => h2 e.symm)]
theorem foldl_set_size (off : Nat) : ∀ (cs : List Value) (n : Nat) (cells : Array Value), ((cs.zipIdx n).foldl (fun (c : Array Value) (q : Value × Nat) => c.setIfInBounds (off + q.2) q.1) cells).size = cells.size
  | [], n, cells => rfl
  | c :: cs, n, cells => by simp only [List.zipIdx_cons, List.foldl_cons]; rw [foldl_set_size off cs (n + 1)]; simp

def PartsS (w : World) (own : Nat → Prop) (φ : List (Nat × Nat)) : List (Nat × V) → List (Nat × Value) → Prop
  | [], l => l = []
  | (i, c) :: rest, l => ∃ v l', l = (i, v) :: l' ∧ VS w own φ c v ∧ PartsS w own φ rest l'

theorem fill_sim {own : Nat → Prop} (place : Nat → Option (Nat × Nat)) : ∀ (parts : List (Nat × V)) (parts' : List (Nat × Value)) (l : List V) (cs : Array Value) (l' : List V),
    PartsS w own φ parts parts' → VSs w own φ l cs.toList → fillV place l parts = some l' → ∃ cs', Instr.fill place cs parts' = some cs' ∧ VSs w own φ l' cs'.toList ∧ cs'.size = cs.size
  | [], parts', l, cs, l', hp, hv, hf => by
    simp only [PartsS] at hp
    subst hp
    simp only [fillV, Option.some.injEq] at hf
    subst hf
    exact ⟨cs, rfl, hv, rfl⟩
  | (i, c) :: rest, parts', l, cs, l', hp, hv, hf => by
    simp only [PartsS] at hp
    obtain ⟨v, rest', rfl, hc, hp⟩ := hp
    simp only [fillV] at hf
    split at hf
    · cases hf
    · rename_i off size hpl
      split at hf
      · rename_i hcond
        obtain ⟨h1, h2, h3⟩ := hcond
        have hcells := VS.flat hc h3
        have hcl := VSs.length _ _ hcells
        have hl := VSs.length _ _ hv
        have hsz : v.cells.size = size := by simp at hcl; omega
        have hlen : l.length = cs.size := by simpa using hl
        have hget := foldl_set_list off v.cells.toList 0 cs
        have hv' : VSs w own φ (setMany l off c.flat) ((v.cells.zipIdx.foldl (fun (cs : Array Value) (q : Value × Nat) => cs.setIfInBounds (off + q.2) q.1) cs)).toList := by
          have e : v.cells.zipIdx.foldl (fun (cs : Array Value) (q : Value × Nat) => cs.setIfInBounds (off + q.2) q.1) cs = (v.cells.toList.zipIdx 0).foldl (fun (cs : Array Value) (q : Value × Nat) => cs.setIfInBounds (off + q.2) q.1) cs := by
            rw [← Array.foldl_toList, Array.toList_zipIdx]
          rw [e]
          refine VSs_of _ _ ?_ fun j c' u hc' hu => ?_
          · rw [setMany_length, hlen]
            exact (foldl_set_size off v.cells.toList 0 cs).symm
          · rw [setMany_get _ _ _ _ (by omega)] at hc'
            rw [Array.getElem?_toList, hget j (by simp; omega)] at hu
            simp only [Nat.add_zero, Array.length_toList] at hu
            by_cases hj : off ≤ j ∧ j < off + size
            · rw [if_pos (by omega)] at hc' hu
              obtain ⟨u', q1, q2⟩ := VSs.get _ _ hcells _ c' hc'
              rw [hu] at q1
              cases q1
              exact q2
            · rw [if_neg (by omega)] at hc' hu
              obtain ⟨u', q1, q2⟩ := VSs.get _ _ hv _ c' hc'
              rw [Array.getElem?_toList, hu] at q1
              cases q1
              exact q2
        obtain ⟨cs', r1, r2, r3⟩ := fill_sim place rest rest' _ _ l' hp hv' hf
        refine ⟨cs', ?_, r2, ?_⟩
        · simp only [Instr.fill, hpl]
          have hno : ¬ (v.cells.size ≠ size ∨ off + v.cells.size > cs.size) := by omega
          simp only [decide_eq_true_eq, Bool.or_eq_true] 
          rw [if_neg (by simpa using hno)]
          exact r1
        · rw [r3]
          have e : v.cells.zipIdx.foldl (fun (cs : Array Value) (q : Value × Nat) => cs.setIfInBounds (off + q.2) q.1) cs = (v.cells.toList.zipIdx 0).foldl (fun (cs : Array Value) (q : Value × Nat) => cs.setIfInBounds (off + q.2) q.1) cs := by
            rw [← Array.foldl_toList, Array.toList_zipIdx]
          rw [e, foldl_set_size]
      · cases hf

theorem parts_spec (h : Sim x N ⟨env, H⟩ φ a w) : ∀ (parts : List (Nat × Operand)), PartsS w (owned x.X φ H) φ (parts.map fun p => (p.1, ev env p.2)) (parts.map fun p => (p.1, a.eval p.2))
  | [] => rfl
  | (i, o) :: rest => by
    simp only [List.map_cons, PartsS]
    exact ⟨a.eval o, _, rfl, ev_spec h o, parts_spec h rest⟩

theorem run_mapM_fields : ∀ (fs : List Field), (fs.all fun f => P.cellsOf f.type != 0) = true →
    ((fs.mapM fun f => (do pure (f.offset, ← sizeOf f.type) : Sem (Nat × Nat))) : Sem (List (Nat × Nat))).run P w = .ok (fs.map fun f => (f.offset, P.cellsOf f.type)) w
  | [], _ => by simp
  | f :: fs, h => by
    simp only [List.all_cons, Bool.and_eq_true] at h
    have ih := run_mapM_fields fs h.2
    have hne : P.cellsOf f.type ≠ 0 := by simpa using h.1
    unfold Program.cellsOf at hne
    cases hq : P.info? f.type with
    | none => rw [hq] at hne; simp at hne
    | some i =>
      have hs : (sizeOf f.type).run P w = .ok i.size w := by simp [sizeOf, typeInfo, hq]
      have hc : P.cellsOf f.type = i.size := by simp [Program.cellsOf, hq]
      have hp : ∀ {α : Type} (q : α) (w : World), (pure q : Sem α).run P w = .ok q w := fun _ _ => rfl
      simp only [List.mapM_cons, List.map_cons, Sem.run_bind, hs, Result.andThen_ok, hp, ih, hc]

theorem buildD_gives (h : Sim x N ⟨env, H⟩ φ a w) (t : TypeId) (parts : List (Nat × Operand)) {k : V → Prop} (hk : buildD (tinfo P t) (parts.map fun p => (p.1, ev env p.2)) k) :
    Gives P x N env a w (Instr.build t (parts.map fun p => (p.1, a.eval p.2)).toArray) fun v H' => k v ∧ H' = H := by
  unfold buildD at hk
  split at hk
  · exact hk.elim
  · rename_i ti hti
    obtain ⟨i, u, z, hi, hu, hz, rfl⟩ := tinfo_spec hti
    simp only at hk
    split at hk
    case h_2 => exact hk.elim
    rename_i flds hkind
    obtain ⟨fs, rfl, rfl⟩ := tk_struct hkind
    obtain ⟨hall, l, hl, hk⟩ := hk
    obtain ⟨cs', r1, r2, _⟩ := fill_sim (w := w) (φ := φ) (own := owned x.X φ H) _ _ _ _ z.cells l (parts_spec h parts) (dOf_cells _) hl
    refine Gives.same h (v := .agg cs') ?_ ⟨hk, rfl⟩ (by simp only [VS]; exact ⟨cs', rfl, r2⟩)
    have hm := run_mapM_fields (P := P) (w := w) fs.toList (by simpa using hall)
    have hm' : ((fs.mapM fun f => (do pure (f.offset, ← sizeOf f.type) : Sem (Nat × Nat))) : Sem (Array (Nat × Nat))).run P w = .ok (fs.toList.map fun f => (f.offset, P.cellsOf f.type)).toArray w := by
      rw [Array.mapM_eq_mapM_toList, ← bind_pure_comp, Sem.run_bind, hm]
      rfl
    have hplace : (fun (i : Nat) => ((fs.toList.map fun f => (f.offset, P.cellsOf f.type)).toArray)[i]?) = fun (i : Nat) => ((fs.toList.map fun f => (f.offset, f.type, P.cellsOf f.type))[i]?).map fun (f : Nat × Nat × Nat) => (f.1, f.2.2) := by
      funext i
      simp
      cases fs[i]? <;> rfl
    simp only [Instr.build, Sem.run_bind, zeroValue, typeInfo]
    simp [hi, hz, run_underlying hu]
    simp only [bind_pure_comp] at hm'
    rw [hm']
    simp only [Result.andThen_ok]
    have e : Instr.fill (fun i => ((fs.toList.map fun f => (f.offset, P.cellsOf f.type)).toArray)[i]?) z.cells (parts.map fun p => (p.1, a.eval p.2)) = some cs' := by rw [hplace]; exact r1
    simp at e ⊢
    rw [e]
    rfl

theorem elems_get {e : Nat} {es : List (List V)} (he : ∀ l ∈ es, l.length = e) {i j : Nat} {l : List V} (hi : es[i]? = some l) (hj : j < e) : (es.flatten)[i * e + j]? = l[j]? := by
  induction es generalizing i with
  | nil => simp at hi
  | cons m es ih =>
    have hm : m.length = e := he m (by simp)
    cases i with
    | zero =>
      simp at hi
      subst hi
      rw [List.flatten_cons, List.getElem?_append_left (by omega)]
      simp
    | succ i =>
      simp at hi
      rw [List.flatten_cons, List.getElem?_append_right (by rw [hm, Nat.add_mul]; omega), hm]
      rw [show (i + 1) * e + j - e = i * e + j by rw [Nat.add_mul]; omega]
      exact ih (fun l hl => he l (by simp [hl])) hi
theorem flatten_length {e : Nat} {es : List (List V)} (he : ∀ l ∈ es, l.length = e) : es.flatten.length = es.length * e := by
  induction es with
  | nil => simp
  | cons m es ih =>
    rw [List.flatten_cons, List.length_append, ih (fun l hl => he l (by simp [hl])), he m (by simp), List.length_cons, Nat.add_mul]
    omega

/-- A new row of elements, whose cells are known as one list. -/
theorem newRow_gives (h : Sim x N ⟨env, H⟩ φ a w) (t : TypeId) {e n cap : Nat} {es : List (List V)} (he : ∀ l ∈ es, l.length = e) (ho : ∀ l ∈ es, ones l = true) {cs : Array Value}
    (hlen : es.length = n) (hn : n ≤ cap) (hsz : cap * e ≤ cs.size) (hv : ∀ (j : Nat) (c : V), (es.flatten)[j]? = some c → ∃ v, cs[j]? = some v ∧ VS w (owned x.X φ H) φ c v)
    {k : V → Heap → Prop} (hk : k (.sl H.length e 0 n) (H ++ [.row e es])) :
    k (.sl H.length e 0 n) (H ++ [.row e es]) ∧ Sim x N ⟨env, H ++ [.row e es]⟩ (φ ++ [(w.heap.size, 0)]) a (w.alloc (.cells cs t)) ∧
      VS (w.alloc (.cells cs t)) (owned x.X (φ ++ [(w.heap.size, 0)]) (H ++ [.row e es])) (φ ++ [(w.heap.size, 0)]) (.sl H.length e 0 n) (.slice (some ⟨w.heap.size, 0, none⟩) n cap) := by
  have hs := h.alloc e es cs t (by subst hlen; exact Nat.le_trans (Nat.mul_le_mul_right _ hn) hsz) (by
    intro i l hl
    have hl' := he l (List.mem_of_getElem? hl)
    refine ⟨hl', fun j c hc => ⟨ones_get (ho l (List.mem_of_getElem? hl)) hc, ?_⟩⟩
    have hj : j < e := by rw [← hl']; exact (List.getElem?_eq_some_iff.1 hc).1
    have := elems_get he hl hj
    rw [hc] at this
    obtain ⟨v, h1, h2⟩ := hv _ c this
    exact ⟨v, h1, h2⟩)
  refine ⟨hk, hs, ?_⟩
  simp only [VS]
  refine ⟨w.heap.size, 0, ⟨w.heap.size, 0, none⟩, cap, by rw [← h.hs.len]; simp, rfl, hn, .inr (by simp), ?_⟩
  exact ⟨cs, t, (0, 0), heap_alloc_new w _, by simpa using hsz⟩

theorem setMany_append (p q cs : List V) (hl : cs.length ≤ q.length) : setMany (p ++ q) p.length cs = p ++ cs ++ q.drop cs.length := by
  apply List.ext_getElem?
  intro m
  rw [setMany_get _ _ _ _ (by simp; omega)]
  by_cases h1 : m < p.length
  · rw [if_neg (by omega), List.getElem?_append_left h1, List.append_assoc, List.getElem?_append_left h1]
  · by_cases h2 : m < p.length + cs.length
    · rw [if_pos ⟨by omega, h2⟩, List.append_assoc, List.getElem?_append_right (by omega), List.getElem?_append_left (by omega)]
    · rw [if_neg (by omega), List.getElem?_append_right (by omega), List.getElem?_append_right (by rw [List.length_append]; omega), List.getElem?_drop, List.length_append]
      congr 1
      omega

theorem fillV_inOrder (e : Nat) : ∀ (parts : List (Nat × V)) (n : Nat) (p q : List V), inOrder e n parts = true → p.length = n * e → q.length = parts.length * e →
    fillV (fun i => some (i * e, e)) (p ++ q) parts = some (p ++ (parts.map fun r => r.2.flat).flatten)
  | [], n, p, q, _, _, hq => by
    have : q = [] := List.eq_nil_of_length_eq_zero (by simpa using hq)
    simp [fillV, this]
  | (i, v) :: rest, n, p, q, ho, hp, hq => by
    simp only [inOrder, Bool.and_eq_true, beq_iff_eq] at ho
    obtain ⟨⟨⟨rfl, h2⟩, h3⟩, h4⟩ := ho
    simp only [List.length_cons, Nat.add_mul] at hq
    simp only [fillV]
    rw [if_pos ⟨h2, by rw [List.length_append, hp]; omega, h3⟩, ← hp, setMany_append p q v.flat (by omega)]
    have ih := fillV_inOrder e rest (i + 1) (p ++ v.flat) (q.drop v.flat.length) h4 (by rw [List.length_append, hp, h2, Nat.add_mul]; omega) (by rw [List.length_drop, h2]; omega)
    rw [ih]
    simp

theorem inOrder_mem (e : Nat) : ∀ (parts : List (Nat × V)) (n : Nat), inOrder e n parts = true → ∀ l ∈ parts.map (fun r => r.2.flat), l.length = e ∧ ones l = true
  | [], _, _, l, hl => by simp at hl
  | (i, v) :: rest, n, ho, l, hl => by
    simp only [inOrder, Bool.and_eq_true, beq_iff_eq] at ho
    obtain ⟨⟨⟨_, h2⟩, h3⟩, h4⟩ := ho
    simp only [List.map_cons, List.mem_cons] at hl
    rcases hl with rfl | hl
    · exact ⟨h2, h3⟩
    · exact inOrder_mem e rest (n + 1) h4 l hl

theorem buildSliceD_gives (h : Sim x N ⟨env, H⟩ φ a w) (t : TypeId) (len : Nat) (parts : List (Nat × Operand)) {k : V → Heap → Prop}
    (hk : buildSliceD P t len (parts.map fun p => (p.1, ev env p.2)) H k) :
    Gives P x N env a w (Instr.buildSlice t len (parts.map fun p => (p.1, a.eval p.2)).toArray) k := by
  unfold buildSliceD at hk
  split at hk
  case h_2 => exact hk.elim
  rename_i et hti
  obtain ⟨i, u, z, hi, hu, hz, e⟩ := tinfo_spec hti
  obtain rfl := tk_slice (u := u) (by injection e; symm; assumption)
  split at hk
  case h_2 => exact hk.elim
  rename_i te hte
  obtain ⟨i', u', z', hi', hu', hz', rfl⟩ := tinfo_spec hte
  simp only at hk
  obtain ⟨⟨hlen, hord, hpos, hzl, h24⟩, hk⟩ := hk
  have hmem := inOrder_mem _ _ _ hord
  have hzs : z'.cells.size = i'.size := by simpa using hzl
  -- the cells before they are filled
  obtain ⟨cells, hc0⟩ : ∃ cells : Array Value, cells = ((Array.range (len * i'.size)).map (z'.cells[· % z'.cells.size]!)) := ⟨_, rfl⟩
  have hcs : cells.size = len * i'.size := by rw [hc0]; simp
  obtain ⟨l0, hl0, hv0⟩ : ∃ l0 : List V, l0.length = len * i'.size ∧ VSs w (owned x.X φ H) φ l0 cells.toList := by
    refine ⟨(cells.toList.map dOf).map .d, by simp [hcs], dOf_cells _⟩
  have hf := fillV_inOrder i'.size (parts.map fun p => (p.1, ev env p.2)) 0 [] l0 hord (by simp) (by rw [hl0, hlen])
  simp only [List.nil_append] at hf
  obtain ⟨cs', r1, r2, r3⟩ := fill_sim (w := w) (φ := φ) (own := owned x.X φ H) (fun i => some (i * i'.size, i'.size)) _ _ _ cells _ (parts_spec h parts) hv0 hf
  have hnew := newRow_gives h et (e := i'.size) (n := len) (cap := len) (es := (parts.map fun p => (p.1, ev env p.2)).map fun p => p.2.flat) (fun l hl => (hmem l hl).1) (fun l hl => (hmem l hl).2) (cs := cs')
    (by simp at hlen ⊢; omega) (Nat.le_refl _) (by rw [r3, hcs]; omega) (fun j c hc => by
      obtain ⟨v, q1, q2⟩ := VSs.get _ _ r2 j c hc
      exact ⟨v, by simpa using q1, q2⟩) hk
  obtain ⟨k1, k2, k3⟩ := hnew
  refine ⟨_, _, _, _, _, ?_, k1, k2, k3⟩
  have hno : ¬ (2 ^ 24 < len * i'.size) := by simpa using h24
  have hfill : Instr.fill (fun i => some (i * i'.size, i'.size)) cells (parts.map fun p => (p.1, a.eval p.2)) = some cs' := r1
  simp only [Instr.buildSlice, Sem.run_bind, run_underlying hu, Result.andThen_ok]
  by_cases hz0 : len = 0
  · subst hz0
    have hc : cells = #[] := by rw [hc0]; simp [Array.range_zero']
    rw [hc] at hfill
    simp [sizeOf, typeInfo, hi', newRow, Array.range_zero']
    rw [hfill]
    simp
  · have hne : ¬ len * i'.size = 0 := by
      intro hh
      rcases Nat.mul_eq_zero.1 hh with q | q <;> omega
    have hne' : ¬ (len = 0 ∨ i'.size = 0) := by omega
    simp [sizeOf, typeInfo, hi', newRow, hno, hne, hne', zeroValue, hz']
    rw [← hc0]
    rw [hfill]
    simp
end
end Go.Proofs.Ytpakdkiceoknjaa
