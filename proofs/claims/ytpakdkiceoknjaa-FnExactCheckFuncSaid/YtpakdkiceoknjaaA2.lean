/- The abstract machine, part 2: what becomes of an abstract state where memory is made, written, given up or closed. No condition. -/
import Derived.Test.YtpakdkiceoknjaaA1
namespace Go.Proofs.Ytpakdkiceoknjaa
set_option linter.unusedVariables false

theorem owned_lt {X : Nat → Prop} {w : World} {φ : List (Nat × Nat)} {H : Heap} (h : HS X w φ H) {g : Nat} (ho : ownOf φ H g) : g < w.heap.size := by
  obtain ⟨id, e, es, o, h1, h2⟩ := ho
  obtain ⟨g', o', cs, t, h3, h4, _⟩ := h.live id e es h1
  rw [h2] at h3
  obtain ⟨rfl, rfl⟩ := Prod.mk.inj (Option.some.inj h3)
  exact (Array.getElem?_eq_some_iff.1 h4).1

theorem Sim.put {x : Ctx} {N : Nat} {env : Env} {H : Heap} {φ : List (Nat × Nat)} {a : Act} {w : World} (h : Sim x N ⟨env, H⟩ φ a w) {t : Nat} (ht : t < N) {c : V} {v : Value}
    (hv : VS w (owned x.X φ H) φ c v) : Sim x N ⟨upd env t c, H⟩ φ (a.put (some t) v) w := by
  refine ⟨h.hs, ?_, h.low, h.defers, ?_, h.fr, h.old, h.ext, h.long, h.len0⟩
  · intro y
    simp only [upd, Act.put]
    by_cases hy : y = t
    · subst hy
      have : y < a.tmps.size := by rw [h.size]; exact ht
      simp [this]
      exact hv
    · have e := h.env y
      simp only [if_neg hy]
      rw [Array.getD_eq_getD_getElem?, Array.getElem?_setIfInBounds_ne (fun h => hy h.symm), ← Array.getD_eq_getD_getElem?]
      exact e
  · simp [Act.put, h.size]

theorem Sim.to {x : Ctx} {N : Nat} {env : Env} {H : Heap} {φ : List (Nat × Nat)} {a : Act} {w : World} (h : Sim x N ⟨env, H⟩ φ a w) {H' : Heap} {φ' : List (Nat × Nat)} {w' : World}
    (hs : HS x.X w' φ' H') (hfr : Fr w (ownOf φ H) w') (hold : ∀ g, g < w.heap.size → ownOf φ' H' g → ownOf φ H g) (he : Ext φ φ') (hl : H.length ≤ H'.length) :
    Sim x N ⟨env, H'⟩ φ' a w' := by
  have hX : ∀ b, b < w.heap.size → ¬ owned x.X φ H b → w'.heap[b]? = w.heap[b]? ∧ ¬ owned x.X φ' H' b := fun b hb hn =>
    ⟨hfr.block b hb (fun ho => hn (.inr ho)), fun ho => hn (ho.imp id (hold b hb))⟩
  refine ⟨hs, fun t => VS.keeps hX hfr.sizes he _ _ (h.env t), h.low, h.defers, h.size, h.fr.trans hfr h.old, ?_, ?_, Nat.le_trans h.long hl, h.len0⟩
  · intro g hg ho
    exact h.old g hg (hold g (Nat.lt_of_lt_of_le hg h.fr.size) ho)
  · refine h.ext.trans he ?_
    rw [h.len0, h.hs.len]
    exact h.long

theorem keepsX {X : Nat → Prop} {w w' : World} {φ φ' : List (Nat × Nat)} {H H' : Heap} (hfr : Fr w (ownOf φ H) w') (hold : ∀ g, g < w.heap.size → ownOf φ' H' g → ownOf φ H g) :
    Keeps w (owned X φ H) w' (owned X φ' H') := fun b hb hn =>
  ⟨hfr.block b hb (fun ho => hn (.inr ho)), fun ho => hn (ho.imp id (hold b hb))⟩

/-! ### An answer is drawn -/
theorem Fr.drawn {w0 w : World} {own : Nat → Prop} (h : Fr w0 own w) (n : Nat) : Fr w0 own { w with drawn := n } := ⟨h.os, h.tape, h.output, h.size, h.block, h.sizes⟩
theorem DS.heap {w w' : World} {own : Nat → Prop} (h : w'.heap = w.heap) {x : D} {v : Value} (hv : DS w own x v) : DS w' own x v :=
  DS.keeps (fun b _ hn => ⟨by rw [h], hn⟩) x v hv
theorem Keeps.heap {w w' : World} {own : Nat → Prop} (h : w'.heap = w.heap) : Keeps w own w' own := fun b _ hn => ⟨by rw [h], hn⟩
theorem Sizes.heap {w w' : World} (h : w'.heap = w.heap) : Sizes w w' := fun g cs t fr hg => ⟨cs, fr, by rw [h]; exact hg, rfl⟩
theorem Sim.drawn {x : Ctx} {N : Nat} {s : St} {φ : List (Nat × Nat)} {a : Act} {w : World} (h : Sim x N s φ a w) (n : Nat) : Sim x N s φ a { w with drawn := n } := by
  have k : Keeps w (owned x.X φ s.H) { w with drawn := n } (owned x.X φ s.H) := Keeps.heap rfl
  have z : Sizes w { w with drawn := n } := Sizes.heap rfl
  refine ⟨⟨h.hs.len, h.hs.inj, h.hs.disj, ?_⟩, fun t => VS.keeps k z (Ext.refl _) _ _ (h.env t), h.low, h.defers, h.size, h.fr.drawn n, h.old, h.ext, h.long, h.len0⟩
  intro id e es hid
  obtain ⟨g, o, cs, t, h1, h2, h3, h4⟩ := h.hs.live id e es hid
  refine ⟨g, o, cs, t, h1, h2, h3, fun i l hi => ⟨(h4 i l hi).1, fun j c hj => ?_⟩⟩
  obtain ⟨ho, y, hy, hv⟩ := (h4 i l hi).2 j c hj
  exact ⟨ho, y, hy, VS.keeps k z (Ext.refl _) _ _ hv⟩

/-! ### A new place -/
theorem ownOf_snoc {X : Nat → Prop} {w : World} {φ : List (Nat × Nat)} {H : Heap} (h : HS X w φ H) {g g0 e : Nat} {es : List (List V)} (ho : ownOf (φ ++ [(g0, 0)]) (H ++ [.row e es]) g) : ownOf φ H g ∨ g = g0 := by
  obtain ⟨id, e', es', o, h1, h2⟩ := ho
  by_cases hid : id < H.length
  · rw [List.getElem?_append_left hid] at h1
    rw [List.getElem?_append_left (by rw [h.len]; exact hid)] at h2
    exact .inl ⟨id, e', es', o, h1, h2⟩
  · have hid' : id = H.length := by
      have := (List.getElem?_eq_some_iff.1 h1).1
      simp at this
      omega
    subst hid'
    rw [← h.len] at h2
    simp at h2
    exact .inr h2.1.symm
theorem Fr.alloc (w : World) (own : Nat → Prop) (o : Obj) : Fr w own (w.alloc o) :=
  ⟨rfl, rfl, rfl, by simp, fun b hb _ => heap_alloc_old w o b hb, fun g cs t fr hg => ⟨cs, fr, by rw [heap_alloc_old w o g (Array.getElem?_eq_some_iff.1 hg).1]; exact hg, rfl⟩⟩

theorem HS.alloc {X : Nat → Prop} {w : World} {φ : List (Nat × Nat)} {H : Heap} (h : HS X w φ H) (hX : ∀ g, X g → g < w.heap.size) (e : Nat) (es : List (List V)) (cs : Array Value) (t : TypeId)
    (hcs : es.length * e ≤ cs.size)
    (hes : ∀ (i : Nat) (l : List V), es[i]? = some l → l.length = e ∧ ∀ (j : Nat) (c : V), l[j]? = some c → c.one = true ∧ ∃ y, cs[i * e + j]? = some y ∧ VS w (owned X φ H) φ c y) :
    HS X (w.alloc (.cells cs t)) (φ ++ [(w.heap.size, 0)]) (H ++ [.row e es]) := by
  have hold : ∀ g, g < w.heap.size → ownOf (φ ++ [(w.heap.size, 0)]) (H ++ [.row e es]) g → ownOf φ H g := fun g hg ho => (ownOf_snoc h ho).resolve_right (by omega)
  have hk : Keeps w (owned X φ H) (w.alloc (.cells cs t)) (owned X (φ ++ [(w.heap.size, 0)]) (H ++ [.row e es])) := keepsX (Fr.alloc w _ _) hold
  have hz : Sizes w (w.alloc (.cells cs t)) := (Fr.alloc w (fun _ => False) _).sizes
  have he : Ext φ (φ ++ [(w.heap.size, 0)]) := Ext.append _ _
  have hnew : ∀ id, ¬ id < H.length → id < (H ++ [Place.row e es]).length → id = H.length := by intro id a b; simp at b; omega
  refine ⟨by simp [h.len], ?_, ?_, ?_⟩
  · intro i j e1 es1 e2 es2 g o o' hi hj hgi hgj
    have li := (List.getElem?_eq_some_iff.1 hi).1
    have lj := (List.getElem?_eq_some_iff.1 hj).1
    by_cases hil : i < H.length <;> by_cases hjl : j < H.length
    · rw [List.getElem?_append_left hil] at hi
      rw [List.getElem?_append_left hjl] at hj
      rw [List.getElem?_append_left (by rw [h.len]; exact hil)] at hgi
      rw [List.getElem?_append_left (by rw [h.len]; exact hjl)] at hgj
      exact h.inj i j e1 es1 e2 es2 g o o' hi hj hgi hgj
    · have := hnew j hjl lj
      subst this
      rw [← h.len] at hgj
      simp at hgj
      rw [List.getElem?_append_left hil] at hi
      rw [List.getElem?_append_left (by rw [h.len]; exact hil)] at hgi
      have := owned_lt h ⟨i, e1, es1, o, hi, hgi⟩
      omega
    · have := hnew i hil li
      subst this
      rw [← h.len] at hgi
      simp at hgi
      rw [List.getElem?_append_left hjl] at hj
      rw [List.getElem?_append_left (by rw [h.len]; exact hjl)] at hgj
      have := owned_lt h ⟨j, e2, es2, o', hj, hgj⟩
      omega
    · rw [hnew i hil li, hnew j hjl lj]
  · intro g ho hx
    rcases ownOf_snoc h ho with ho | rfl
    · exact h.disj g ho hx
    · have := hX _ hx
      omega
  · intro id e1 es1 hid
    by_cases hl : id < H.length
    · rw [List.getElem?_append_left hl] at hid
      obtain ⟨g, o, cs1, t1, h1, h2, h3, h4⟩ := h.live id e1 es1 hid
      refine ⟨g, o, cs1, t1, he.some h1, by rw [heap_alloc_old w _ g (Array.getElem?_eq_some_iff.1 h2).1]; exact h2, h3, fun i l hi => ⟨(h4 i l hi).1, fun j c hj => ?_⟩⟩
      obtain ⟨ho, y, hy, hv⟩ := (h4 i l hi).2 j c hj
      exact ⟨ho, y, hy, VS.keeps hk hz he _ _ hv⟩
    · have := hnew id hl (List.getElem?_eq_some_iff.1 hid).1
      subst this
      simp at hid
      obtain ⟨rfl, rfl⟩ := hid
      refine ⟨w.heap.size, 0, cs, t, by rw [← h.len]; simp, heap_alloc_new w _, by simpa using hcs, fun i l hi => ⟨(hes i l hi).1, fun j c hj => ?_⟩⟩
      obtain ⟨ho, y, hy, hv⟩ := (hes i l hi).2 j c hj
      exact ⟨ho, y, by simpa using hy, VS.keeps hk hz he _ _ hv⟩

theorem Sim.alloc {x : Ctx} {N : Nat} {env : Env} {H : Heap} {φ : List (Nat × Nat)} {a : Act} {w : World} (h : Sim x N ⟨env, H⟩ φ a w) (e : Nat) (es : List (List V)) (cs : Array Value) (t : TypeId)
    (hcs : es.length * e ≤ cs.size)
    (hes : ∀ (i : Nat) (l : List V), es[i]? = some l → l.length = e ∧ ∀ (j : Nat) (c : V), l[j]? = some c → c.one = true ∧ ∃ y, cs[i * e + j]? = some y ∧ VS w (owned x.X φ H) φ c y) :
    Sim x N ⟨env, H ++ [.row e es]⟩ (φ ++ [(w.heap.size, 0)]) a (w.alloc (.cells cs t)) :=
  h.to (h.hs.alloc (fun g hg => Nat.lt_of_lt_of_le (h.low g hg) h.fr.size) e es cs t hcs hes) (Fr.alloc w _ _)
    (fun g hg ho => (ownOf_snoc h.hs ho).resolve_right (by omega)) (Ext.append _ _) (by simp)

/-! ### A row is written -/
theorem Fr.setRow {w : World} {own : Nat → Prop} {g : Nat} {cs cs' : Array Value} {t : TypeId} {fr : Nat × Nat} (hg : w.heap[g]? = some (.cells cs t fr)) (hs : cs'.size = cs.size) (ho : own g) : Fr w own (w.setRow g cs') := by
  refine ⟨rfl, rfl, rfl, ?_, fun b _ hn => setRow_other w g b cs' (fun e => hn (e ▸ ho)), fun k c u f hk => ?_⟩
  · simp [World.setRow]
  · by_cases hkg : k = g
    · subst hkg
      rw [hg] at hk
      cases hk
      exact ⟨cs', _, setRow_heap w k cs cs' t fr hg, hs⟩
    · exact ⟨c, f, by rw [setRow_other w g k cs' hkg]; exact hk, rfl⟩

theorem ownOf_set {φ : List (Nat × Nat)} {H : Heap} {id e e' : Nat} {es es' : List (List V)} (hid : H[id]? = some (.row e es)) (g : Nat) : ownOf φ (H.set id (.row e' es')) g ↔ ownOf φ H g := by
  have hl := (List.getElem?_eq_some_iff.1 hid).1
  constructor
  · rintro ⟨k, e1, es1, o, h1, h2⟩
    by_cases hk : k = id
    · subst hk
      exact ⟨k, e, es, o, hid, h2⟩
    · rw [List.getElem?_set_ne (fun h => hk h.symm)] at h1
      exact ⟨k, e1, es1, o, h1, h2⟩
  · rintro ⟨k, e1, es1, o, h1, h2⟩
    by_cases hk : k = id
    · subst hk
      exact ⟨k, e', es', o, by simp [hl], h2⟩
    · exact ⟨k, e1, es1, o, by rw [List.getElem?_set_ne (fun h => hk h.symm)]; exact h1, h2⟩

/-- The row of a place gets another content; its elements keep their number of cells. -/
theorem Sim.setRow {x : Ctx} {N : Nat} {env : Env} {H : Heap} {φ : List (Nat × Nat)} {a : Act} {w : World} (h : Sim x N ⟨env, H⟩ φ a w) {id e : Nat} {es es' : List (List V)} {g o : Nat} {cs cs' : Array Value} {t : TypeId}
    (hid : H[id]? = some (.row e es)) (hφ : φ[id]? = some (g, o)) (hg : w.heap[g]? = some (.cells cs t (0, 0))) (hs : cs'.size = cs.size) (hfit : o + es'.length * e ≤ cs'.size)
    (hes : ∀ (i : Nat) (l : List V), es'[i]? = some l → l.length = e ∧ ∀ (j : Nat) (c : V), l[j]? = some c → c.one = true ∧ ∃ y, cs'[o + i * e + j]? = some y ∧ VS w (owned x.X φ H) φ c y) :
    Sim x N ⟨env, H.set id (.row e es')⟩ φ a (w.setRow g cs') := by
  have hown : ownOf φ H g := ⟨id, e, es, o, hid, hφ⟩
  have hfr : Fr w (ownOf φ H) (w.setRow g cs') := Fr.setRow hg hs hown
  have hold : ∀ k, k < w.heap.size → ownOf φ (H.set id (.row e es')) k → ownOf φ H k := fun k _ hk => (ownOf_set hid k).1 hk
  have hk : Keeps w (owned x.X φ H) (w.setRow g cs') (owned x.X φ (H.set id (.row e es'))) := keepsX hfr hold
  have hl := (List.getElem?_eq_some_iff.1 hid).1
  refine h.to ⟨by simp [h.hs.len], ?_, ?_, ?_⟩ hfr hold (Ext.refl _) (by simp)
  · have get : ∀ (k e1 : Nat) (es1 : List (List V)), (H.set id (.row e es'))[k]? = some (.row e1 es1) → ∃ e2 es2, H[k]? = some (.row e2 es2) := by
      intro k e1 es1 hk
      by_cases hkid : k = id
      · subst hkid; exact ⟨e, es, hid⟩
      · rw [List.getElem?_set_ne (fun h => hkid h.symm)] at hk; exact ⟨e1, es1, hk⟩
    intro i j e1 es1 e2 es2 g1 o1 o2 hi hj hgi hgj
    obtain ⟨_, _, hi'⟩ := get i e1 es1 hi
    obtain ⟨_, _, hj'⟩ := get j e2 es2 hj
    exact h.hs.inj i j _ _ _ _ g1 o1 o2 hi' hj' hgi hgj
  · intro k hk
    exact h.hs.disj k ((ownOf_set hid k).1 hk)
  · intro k e1 es1 hk1
    by_cases hkid : k = id
    · subst hkid
      simp [hl] at hk1
      obtain ⟨rfl, rfl⟩ := hk1
      refine ⟨g, o, cs', t, hφ, setRow_heap w g cs cs' t _ hg, hfit, fun i l hi => ⟨(hes i l hi).1, fun j c hj => ?_⟩⟩
      obtain ⟨ho, y, hy, hv⟩ := (hes i l hi).2 j c hj
      exact ⟨ho, y, hy, VS.keeps hk hfr.sizes (Ext.refl _) _ _ hv⟩
    · rw [List.getElem?_set_ne (fun h => hkid h.symm)] at hk1
      obtain ⟨g1, o1, cs1, t1, h1, h2, h3, h4⟩ := h.hs.live k e1 es1 hk1
      have hne : g1 ≠ g := by
        rintro rfl
        exact hkid (h.hs.inj k id e1 es1 e es g1 o1 o hk1 hid h1 hφ)
      refine ⟨g1, o1, cs1, t1, h1, by rw [setRow_other w g g1 cs' hne]; exact h2, h3, fun i l hi => ⟨(h4 i l hi).1, fun j c hj => ?_⟩⟩
      obtain ⟨ho, y, hy, hv⟩ := (h4 i l hi).2 j c hj
      exact ⟨ho, y, hy, VS.keeps hk hfr.sizes (Ext.refl _) _ _ hv⟩

/-! ### A place is given up -/
theorem ownOf_kill {φ : List (Nat × Nat)} {H : Heap} {id g : Nat} (ho : ownOf φ (H.set id .dead) g) : ownOf φ H g ∧ ∀ g' o', φ[id]? = some (g', o') → H[id]? ≠ none → ∃ k e es o, k ≠ id ∧ H[k]? = some (.row e es) ∧ φ[k]? = some (g, o) := by
  obtain ⟨k, e1, es1, o, h1, h2⟩ := ho
  have hk : k ≠ id := by
    rintro rfl
    have hl := (List.getElem?_eq_some_iff.1 h1).1
    simp at hl
    simp [hl] at h1
  rw [List.getElem?_set_ne (fun h => hk h.symm)] at h1
  exact ⟨⟨k, e1, es1, o, h1, h2⟩, fun _ _ _ _ => ⟨k, e1, es1, o, hk, h1, h2⟩⟩

theorem Sim.kill {x : Ctx} {N : Nat} {env : Env} {H : Heap} {φ : List (Nat × Nat)} {a : Act} {w : World} (h : Sim x N ⟨env, H⟩ φ a w) (id : Nat) : Sim x N ⟨env, H.set id .dead⟩ φ a w := by
  have hold : ∀ k, k < w.heap.size → ownOf φ (H.set id .dead) k → ownOf φ H k := fun k _ hk => (ownOf_kill hk).1
  have hfr : Fr w (ownOf φ H) w := Fr.refl w _
  have hk : Keeps w (owned x.X φ H) w (owned x.X φ (H.set id .dead)) := keepsX hfr hold
  have get : ∀ (k e1 : Nat) (es1 : List (List V)), (H.set id .dead)[k]? = some (.row e1 es1) → H[k]? = some (.row e1 es1) := by
    intro k e1 es1 hk
    by_cases hkid : k = id
    · subst hkid
      have hl := (List.getElem?_eq_some_iff.1 hk).1
      simp at hl
      simp [hl] at hk
    · rwa [List.getElem?_set_ne (fun h => hkid h.symm)] at hk
  refine h.to ⟨by simp [h.hs.len], ?_, fun k hk => h.hs.disj k (ownOf_kill hk).1, ?_⟩ hfr hold (Ext.refl _) (by simp)
  · intro i j e1 es1 e2 es2 g1 o1 o2 hi hj
    exact h.hs.inj i j e1 es1 e2 es2 g1 o1 o2 (get _ _ _ hi) (get _ _ _ hj)
  · intro k e1 es1 hk1
    obtain ⟨g1, o1, cs1, t1, h1, h2, h3, h4⟩ := h.hs.live k e1 es1 (get _ _ _ hk1)
    refine ⟨g1, o1, cs1, t1, h1, h2, h3, fun i l hi => ⟨(h4 i l hi).1, fun j c hj => ?_⟩⟩
    obtain ⟨ho, y, hy, hv⟩ := (h4 i l hi).2 j c hj
    exact ⟨ho, y, hy, VS.keeps hk (Sizes.refl w) (Ext.refl _) _ _ hv⟩

end Go.Proofs.Ytpakdkiceoknjaa
