/- The abstract machine, part 14: loops over abstract states; what the walk reckons. No condition. -/
import Derived.Test.YtpakdkiceoknjaaB3
namespace Go.Proofs.Ytpakdkiceoknjaa
set_option linter.unusedVariables false

mutual
/-- Does the value refer to the first n places at most? -/
def V.under (n : Nat) : V → Bool
  | .d _ => true
  | .ptr id .. | .sl id .. => decide (id < n)
  | .agg l | .tup l | .clo _ l => belowL n l
def belowL (n : Nat) : List V → Bool
  | [] => true
  | c :: l => c.under n && belowL n l
end
theorem take_φ {φ : List (Nat × Nat)} {n id : Nat} (h : id < n) : (φ.take n)[id]? = φ[id]? := by rw [List.getElem?_take, if_pos h]
mutual
theorem below_take {w : World} {own : Nat → Prop} {φ : List (Nat × Nat)} {n : Nat} : ∀ (c : V) (v : Value), c.under n = true → VS w own φ c v → VS w own (φ.take n) c v
  | .d x, v, _, h => h
  | .ptr id e i j, v, hb, h => by
    obtain ⟨g, o, h1, h2⟩ := h
    exact ⟨g, o, by rw [take_φ (by simpa [V.under] using hb)]; exact h1, h2⟩
  | .sl id e off m, v, hb, h => by
    obtain ⟨g, o, A, cap, h1, h2⟩ := h
    exact ⟨g, o, A, cap, by rw [take_φ (by simpa [V.under] using hb)]; exact h1, h2⟩
  | .agg l, v, hb, h => by
    obtain ⟨cs, h1, h2⟩ := h
    exact ⟨cs, h1, belowL_take l _ (by simpa [V.under] using hb) h2⟩
  | .tup l, v, hb, h => by
    obtain ⟨cs, h1, h2⟩ := h
    exact ⟨cs, h1, belowL_take l _ (by simpa [V.under] using hb) h2⟩
  | .clo fn l, v, hb, h => by
    obtain ⟨cs, h1, h2⟩ := h
    exact ⟨cs, h1, belowL_take l _ (by simpa [V.under] using hb) h2⟩
theorem belowL_take {w : World} {own : Nat → Prop} {φ : List (Nat × Nat)} {n : Nat} : ∀ (l : List V) (vs : List Value), belowL n l = true → VSs w own φ l vs → VSs w own (φ.take n) l vs
  | [], vs, _, h => h
  | c :: l, vs, hb, h => by
    simp only [belowL, Bool.and_eq_true] at hb
    obtain ⟨v, vs', h1, h2, h3⟩ := h
    exact ⟨v, vs', h1, below_take c v hb.1 h2, belowL_take l vs' hb.2 h3⟩
end

def placeBelow (n : Nat) : Place → Bool
  | .dead => true
  | .row _ es => es.all fun l => l.all (V.under n)
def intoE (env : Env) (n : Nat) : List (Nat × V) → Prop
  | [] => True
  | (k, v) :: l => (env k = v ∧ v.under n = true) ∧ intoE env n l
def placesBelow (n : Nat) : Heap → Prop
  | [] => True
  | p :: H => placeBelow n p = true ∧ placesBelow n H
/-- The state says what these slots and these places say. -/
def Into (n0 : Nat) (s : St) (l : List (Nat × V)) (H : Heap) : Prop :=
  n0 ≤ H.length ∧ s.H.take H.length = H ∧ placesBelow H.length H ∧ intoE s.env H.length l

theorem intoE_mk {env : Env} {n : Nat} : ∀ (l : List (Nat × V)), intoE env n l → ∀ t, mk l t = .d .undef ∨ (mk l t = env t ∧ (mk l t).under n = true)
  | [], _, t => .inl rfl
  | (k, v) :: l, h, t => by
    simp only [intoE] at h
    simp only [mk_cons]
    split
    · rename_i e
      subst e
      exact .inr ⟨h.1.1.symm, h.1.2⟩
    · exact intoE_mk l h.2 t
theorem placesBelow_get {n : Nat} : ∀ {H : Heap}, placesBelow n H → ∀ {i : Nat} {p : Place}, H[i]? = some p → placeBelow n p = true
  | [], _, i, p, h => by simp at h
  | q :: H, hb, 0, p, h => by simp at h; subst h; exact hb.1
  | q :: H, hb, i + 1, p, h => placesBelow_get hb.2 (by simpa using h)

theorem Into.weak {n0 : Nat} {s : St} {l : List (Nat × V)} {H : Heap} (h : Into n0 s l H) : Weak n0 s ⟨mk l, H⟩ := by
  intro x N φ a w hx hs
  obtain ⟨h1, h2, h3, h4⟩ := h
  have hle : H.length ≤ s.H.length := by
    have := congrArg List.length h2
    rw [List.length_take] at this
    omega
  have hget : ∀ id, id < H.length → s.H[id]? = H[id]? := fun id hid => by
    have := congrArg (fun l => l[id]?) h2
    simp only [List.getElem?_take, if_pos hid] at this
    exact this
  have hown : ∀ g, ownOf (φ.take H.length) H g → ownOf φ s.H g := by
    rintro g ⟨id, e, es, o, q1, q2⟩
    have hid := (List.getElem?_eq_some_iff.1 q1).1
    rw [take_φ hid] at q2
    exact ⟨id, e, es, o, by rw [hget id hid]; exact q1, q2⟩
  have less : ∀ {c : V} {v : Value}, VS w (owned x.X φ s.H) φ c v → VS w (owned x.X (φ.take H.length) H) φ c v := fun hv =>
    VS.keeps (fun b _ hn => ⟨rfl, fun h' => hn (h'.imp (fun q => q) (hown b))⟩) (Sizes.refl w) (Ext.refl φ) _ _ hv
  refine ⟨φ.take H.length, ⟨by show (φ.take H.length).length = H.length; rw [List.length_take, hs.hs.len]; omega, ?_, fun g hg => hs.hs.disj g (hown g hg), ?_⟩, ?_, hs.low, hs.defers, hs.size, hs.fr, fun g hg ho => hs.old g hg (hown g ho), ?_, by show x.H0.length ≤ H.length; rw [hx]; exact h1, hs.len0⟩
  · intro i j e es e' es' g o o' hi hj hgi hgj
    have li := (List.getElem?_eq_some_iff.1 hi).1
    have lj := (List.getElem?_eq_some_iff.1 hj).1
    rw [take_φ li] at hgi
    rw [take_φ lj] at hgj
    exact hs.hs.inj i j e es e' es' g o o' (by rw [hget i li]; exact hi) (by rw [hget j lj]; exact hj) hgi hgj
  · intro id e es hid
    have hl := (List.getElem?_eq_some_iff.1 hid).1
    obtain ⟨g, o, cs, t, r1, r2, r3, r4⟩ := hs.hs.live id e es (by rw [hget id hl]; exact hid)
    refine ⟨g, o, cs, t, by rw [take_φ hl]; exact r1, r2, r3, fun i m hm => ⟨(r4 i m hm).1, fun j c hc => ?_⟩⟩
    obtain ⟨ho, y, hy, hv⟩ := (r4 i m hm).2 j c hc
    refine ⟨ho, y, hy, below_take _ _ ?_ (less hv)⟩
    have := placesBelow_get h3 hid
    simp only [placeBelow, List.all_eq_true] at this
    exact this m (List.mem_of_getElem? hm) c (List.mem_of_getElem? hc)
  · intro t
    show VS w (owned x.X (φ.take H.length) H) (φ.take H.length) (mk l t) _
    rcases intoE_mk l h4 t with h | ⟨h, hb⟩
    · rw [h]; simp [VS, DS]
    · refine below_take _ _ hb (less ?_)
      rw [h]
      exact hs.env t
  · intro id hid
    rw [hs.len0] at hid
    rw [take_φ (by rw [hx] at hid; omega)]
    exact hs.ext id (by rw [hs.len0]; exact hid)

theorem W_into {P : Program} {N n0 : Nat} {c : Code} {Q : Exit → St → Prop} {s : St} (l : List (Nat × V)) (H : Heap) (h : Into n0 s l H) (k : W P N n0 c Q ⟨mk l, H⟩) : W P N n0 c Q s := W_weak h.weak k

/-- A loop: at each round's head the slots are E a, the places Hp a, of an a of which Inv holds; each round lowers μ. -/
theorem W_loopA {P : Program} {N n0 : Nat} {c : Code} {Q : Exit → St → Prop} {s : St} {α : Type} (E : α → List (Nat × V)) (Hp : α → Heap) (Inv : α → Prop) (μ : α → Nat) (a0 : α)
    (h0 : Into n0 s (E a0) (Hp a0)) (hI : Inv a0)
    (round : ∀ a, Inv a → W P N n0 c (seqQ (fun s' => ∃ b, Inv b ∧ μ b < μ a ∧ Into n0 s' (E b) (Hp b)) Q) ⟨mk (E a), Hp a⟩) : W P N n0 (.loop c) Q s := by
  refine W_weak h0.weak (W_loop (fun n s => ∃ a, μ a = n ∧ Inv a ∧ s = ⟨mk (E a), Hp a⟩) (μ a0) ⟨a0, rfl, hI, rfl⟩ ?_)
  rintro n s ⟨a, rfl, hI, rfl⟩
  refine W_mono (round a hI) ?_
  intro e s' hq
  cases e with
  | normal =>
    obtain ⟨b, hb, hlt, hi⟩ := hq
    exact ⟨μ b, _, hlt, hi.weak, b, rfl, hb, rfl⟩
  | _ => exact hq

attribute [simp] V.shift shiftL Place.shift wpD seqQ blockQ opsD opD strip stripOps dstsOf slotOf updO ev keepL envOf envFrom dOf constV loadD storeD boxD allocD fillV buildD inOrder buildSliceD makeSliceD nilCheckD optK binI shiftI eqOp binD unD convertD
  fieldAddrD fieldD indexAddrD indexD extractD boundD sliceD elemsD appendD copyD lenD goD callD retC resD oneOf asVal upto V.flat ones V.one setMany closeV closeA closeD V.closed closedL V.under belowL placeBelow placesBelow intoE Into

end Go.Proofs.Ytpakdkiceoknjaa
