/- The abstract machine, part 27: places under new numbers: at a loop's head, and where a call hands places back. No condition. -/
import Derived.Test.YtpakdkiceoknjaaC6
namespace Go.Proofs.Ytpakdkiceoknjaa
set_option linter.unusedVariables false
set_option linter.unusedSimpArgs false

mutual
/-- A value whose places get the numbers that a list tells. -/
def V.ren (σ : List Nat) : V → V
  | .d x => .d x
  | .ptr id e i j => .ptr (σ.getD id 0) e i j
  | .sl id e off n => .sl (σ.getD id 0) e off n
  | .agg l => .agg (renL σ l)
  | .tup l => .tup (renL σ l)
  | .clo f l => .clo f (renL σ l)
def renL (σ : List Nat) : List V → List V
  | [] => []
  | c :: l => c.ren σ :: renL σ l
end
def Place.ren (σ : List Nat) : Place → Place
  | .dead => .dead
  | .row e es => .row e (es.map (renL σ))
def placesR (σ : List Nat) (H0 : Heap) : List Nat → Heap → Prop
  | [], H => H = []
  | i :: τ, H => match H with
    | p :: H => (H0[i]? = some (p.ren σ) ∧ placeBelow σ.length p = true) ∧ placesR σ H0 τ H
    | [] => False
def envR (σ : List Nat) (env : Env) : List (Nat × V) → Prop
  | [] => True
  | (k, v) :: l => (env k = v.ren σ ∧ v.under σ.length = true) ∧ envR σ env l
def pickφ (φ : List (Nat × Nat)) (σ : List Nat) : List (Nat × Nat) := σ.map fun i => φ.getD i (0, 0)

theorem renL_get (σ : List Nat) : ∀ (l : List V) (j : Nat), (renL σ l)[j]? = (l[j]?).map (V.ren σ)
  | [], j => by simp [renL]
  | c :: l, 0 => by simp [renL]
  | c :: l, j + 1 => by simpa [renL] using renL_get σ l j
theorem renL_length (σ : List Nat) : ∀ (l : List V), (renL σ l).length = l.length
  | [] => rfl
  | c :: l => by simp [renL, renL_length σ l]
theorem ren_one (σ : List Nat) (c : V) : (c.ren σ).one = c.one := by
  cases c <;> simp [V.ren, V.one]
theorem pickφ_get {φ : List (Nat × Nat)} {σ : List Nat} {id : Nat} {x : Nat × Nat} (h : id < σ.length) (hx : φ[σ.getD id 0]? = some x) : (pickφ φ σ)[id]? = some x := by
  unfold pickφ
  rw [List.getElem?_map, List.getElem?_eq_getElem h]
  have : σ.getD id 0 = σ[id] := by rw [List.getD_eq_getElem?_getD, List.getElem?_eq_getElem h]; rfl
  rw [this] at hx
  simp [hx]
mutual
theorem ren_back {w : World} {own : Nat → Prop} {φ : List (Nat × Nat)} {σ : List Nat} : ∀ (c : V) (v : Value), c.under σ.length = true → VS w own φ (c.ren σ) v → VS w own (pickφ φ σ) c v
  | .d x, v, _, h => h
  | .ptr id e i j, v, hb, h => by
    obtain ⟨g, o, h1, h2⟩ := h
    exact ⟨g, o, pickφ_get (by simpa [V.under] using hb) h1, h2⟩
  | .sl id e off m, v, hb, h => by
    obtain ⟨g, o, A, cap, h1, h2⟩ := h
    exact ⟨g, o, A, cap, pickφ_get (by simpa [V.under] using hb) h1, h2⟩
  | .agg l, v, hb, h => by
    obtain ⟨cs, h1, h2⟩ := h
    exact ⟨cs, h1, renL_back l _ (by simpa [V.under] using hb) h2⟩
  | .tup l, v, hb, h => by
    obtain ⟨cs, h1, h2⟩ := h
    exact ⟨cs, h1, renL_back l _ (by simpa [V.under] using hb) h2⟩
  | .clo f l, v, hb, h => by
    obtain ⟨cs, h1, h2⟩ := h
    exact ⟨cs, h1, renL_back l _ (by simpa [V.under] using hb) h2⟩
theorem renL_back {w : World} {own : Nat → Prop} {φ : List (Nat × Nat)} {σ : List Nat} : ∀ (l : List V) (vs : List Value), belowL σ.length l = true → VSs w own φ (renL σ l) vs → VSs w own (pickφ φ σ) l vs
  | [], vs, _, h => h
  | c :: l, vs, hb, h => by
    simp only [belowL, Bool.and_eq_true] at hb
    obtain ⟨v, vs', h1, h2, h3⟩ := h
    exact ⟨v, vs', h1, ren_back c v hb.1 h2, renL_back l vs' hb.2 h3⟩
end
theorem placesR_get {σ : List Nat} {H0 : Heap} : ∀ {τ : List Nat} {H : Heap}, placesR σ H0 τ H → ∀ {i : Nat} {p : Place}, H[i]? = some p → ∃ k, τ[i]? = some k ∧ H0[k]? = some (p.ren σ) ∧ placeBelow σ.length p = true
  | [], H, h, i, p, hp => by
    have : H = [] := h
    subst this
    simp at hp
  | k :: τ, [], h, i, p, hp => by simp at hp
  | k :: τ, q :: H, h, 0, p, hp => by
    simp at hp
    subst hp
    exact ⟨k, rfl, h.1.1, h.1.2⟩
  | k :: τ, q :: H, h, i + 1, p, hp => by
    obtain ⟨k', h1, h2⟩ := placesR_get h.2 (i := i) (p := p) (by simpa using hp)
    exact ⟨k', by simpa using h1, h2⟩

/-- The numbering is one to one and the first n0 places keep their numbers. -/
def okσ (n0 : Nat) (σ : List Nat) (n : Nat) : Bool := σ.length == n && decide σ.Nodup && decide (n0 ≤ n) && (σ.take n0 == List.range n0)

theorem HS.ren {X : Nat → Prop} {w : World} {φ : List (Nat × Nat)} {H0 H : Heap} (hs : HS X w φ H0) {n0 : Nat} {σ : List Nat} (hσ : okσ n0 σ H.length = true) (hp : placesR σ H0 σ H) :
    HS X w (pickφ φ σ) H ∧ (∀ g, ownOf (pickφ φ σ) H g → ownOf φ H0 g) ∧ (∀ id, id < n0 → id < φ.length → (pickφ φ σ)[id]? = φ[id]?) := by
  simp only [okσ, Bool.and_eq_true, beq_iff_eq, decide_eq_true_eq] at hσ
  obtain ⟨⟨⟨hlen, hnd⟩, hn0⟩, htk⟩ := hσ
  have get : ∀ {id : Nat} {e : Nat} {es : List (List V)}, H[id]? = some (.row e es) → ∃ k, σ[id]? = some k ∧ H0[k]? = some (.row e (es.map (renL σ))) ∧ placeBelow σ.length (.row e es) = true := fun h => placesR_get hp h
  have φget : ∀ {id k : Nat} {x : Nat × Nat}, σ[id]? = some k → k < φ.length → (pickφ φ σ)[id]? = some x → φ[k]? = some x := by
    intro id k x h1 h2 h3
    unfold pickφ at h3
    rw [List.getElem?_map, h1] at h3
    simp only [Option.map_some, Option.some.injEq] at h3
    rw [List.getD_eq_getElem?_getD, List.getElem?_eq_getElem h2] at h3
    rw [List.getElem?_eq_getElem h2]
    exact congrArg some h3
  have klt : ∀ {k e : Nat} {es : List (List V)}, H0[k]? = some (.row e es) → k < φ.length := fun h => by
    rw [hs.len]; exact (List.getElem?_eq_some_iff.1 h).1
  have hown : ∀ g, ownOf (pickφ φ σ) H g → ownOf φ H0 g := by
    rintro g ⟨id, e, es, o, h1, h2⟩
    obtain ⟨k, q1, q2, _⟩ := get h1
    exact ⟨k, e, _, o, q2, φget q1 (klt q2) h2⟩
  have less : ∀ {c : V} {v : Value}, VS w (owned X φ H0) φ c v → VS w (owned X (pickφ φ σ) H) φ c v := fun hv =>
    VS.keeps (fun b _ hn => ⟨rfl, fun h' => hn (h'.imp (fun q => q) (hown b))⟩) (Sizes.refl w) (Ext.refl φ) _ _ hv
  refine ⟨⟨by simp [pickφ, hlen], ?_, fun g hg => hs.disj g (hown g hg), ?_⟩, hown, ?_⟩
  · intro i j e es e' es' g o o' hi hj hgi hgj
    obtain ⟨k, q1, q2, _⟩ := get hi
    obtain ⟨k', q1', q2', _⟩ := get hj
    have := hs.inj k k' _ _ _ _ g o o' q2 q2' (φget q1 (klt q2) hgi) (φget q1' (klt q2') hgj)
    subst this
    have hi1 := (List.getElem?_eq_some_iff.1 q1)
    have hj1 := (List.getElem?_eq_some_iff.1 q1')
    obtain ⟨a1, a2⟩ := hi1
    obtain ⟨b1, b2⟩ := hj1
    exact (List.getElem_inj hnd).1 (a2.trans b2.symm)
  · intro id e es hid
    obtain ⟨k, q1, q2, q3⟩ := get hid
    obtain ⟨g, o, cs, t, r1, r2, r3, r4⟩ := hs.live k e _ q2
    have hlt := (List.getElem?_eq_some_iff.1 q1).1
    have hk : σ.getD id 0 = k := by rw [List.getD_eq_getElem?_getD, q1]; rfl
    refine ⟨g, o, cs, t, pickφ_get hlt (by rw [hk]; exact r1), r2, by simpa using r3, fun i l hl => ?_⟩
    have hl' : (es.map (renL σ))[i]? = some (renL σ l) := by rw [List.getElem?_map, hl]; rfl
    obtain ⟨p1, p2⟩ := r4 i _ hl'
    refine ⟨by rw [renL_length] at p1; exact p1, fun j c hc => ?_⟩
    have hc' : (renL σ l)[j]? = some (c.ren σ) := by rw [renL_get, hc]; rfl
    obtain ⟨p3, y, p4, p5⟩ := p2 j _ hc'
    rw [ren_one] at p3
    refine ⟨p3, y, p4, ren_back c y ?_ (less p5)⟩
    simp only [placeBelow, List.all_eq_true] at q3
    exact q3 l (List.mem_of_getElem? hl) c (List.mem_of_getElem? hc)
  · intro id h1 h2
    have : σ[id]? = some id := by
      have h3 : (σ.take n0)[id]? = (List.range n0)[id]? := by rw [htk]
      rw [List.getElem?_take, if_pos h1] at h3
      rw [h3]
      simp [h1]
    unfold pickφ
    rw [List.getElem?_map, this]
    simp only [Option.map_some]
    rw [List.getD_eq_getElem?_getD, List.getElem?_eq_getElem h2]
    rfl

/-- The state says, under new numbers, what these slots and these places say. -/
def IntoS (n0 : Nat) (σ : List Nat) (s : St) (l : List (Nat × V)) (H : Heap) : Prop := okσ n0 σ H.length = true ∧ placesR σ s.H σ H ∧ envR σ s.env l
theorem envR_mk {σ : List Nat} {env : Env} : ∀ (l : List (Nat × V)), envR σ env l → ∀ t, mk l t = .d .undef ∨ (env t = (mk l t).ren σ ∧ (mk l t).under σ.length = true)
  | [], _, t => .inl rfl
  | (k, v) :: l, h, t => by
    simp only [envR] at h
    simp only [mk_cons]
    split
    · rename_i e
      subst e
      exact .inr h.1
    · exact envR_mk l h.2 t
theorem IntoS.weak {n0 : Nat} {σ : List Nat} {s : St} {l : List (Nat × V)} {H : Heap} (h : IntoS n0 σ s l H) : Weak n0 s ⟨mk l, H⟩ := by
  intro x N φ a w hx hs
  obtain ⟨h1, h2, h3⟩ := h
  obtain ⟨r1, r2, r3⟩ := hs.hs.ren h1 h2
  have hn0 : n0 ≤ H.length := by
    simp only [okσ, Bool.and_eq_true, decide_eq_true_eq] at h1
    exact h1.1.2
  refine ⟨pickφ φ σ, ⟨r1, fun t => ?_, hs.low, hs.defers, hs.size, hs.fr, fun g hg ho => hs.old g hg (r2 g ho), ?_, by show x.H0.length ≤ H.length; rw [hx]; exact hn0, hs.len0⟩⟩
  · show VS w (owned x.X (pickφ φ σ) H) (pickφ φ σ) (mk l t) _
    rcases envR_mk l h3 t with q | ⟨q, hb⟩
    · rw [q]; simp [VS, DS]
    · refine ren_back _ _ hb ?_
      rw [← q]
      exact VS.keeps (fun b _ hn => ⟨rfl, fun h' => hn (h'.imp (fun q => q) (r2 b))⟩) (Sizes.refl w) (Ext.refl φ) _ _ (hs.env t)
  · intro id hid
    rw [hs.len0, hx] at hid
    have hlong := hs.long
    rw [hx] at hlong
    rw [r3 id hid (by rw [hs.hs.len]; omega)]
    exact hs.ext id (by rw [hs.len0, hx]; exact hid)

/-- A loop: at each round's head the slots are E a, the places Hp a under numbers of their own, of an a of which Inv holds; each round lowers μ. -/
theorem W_loopS {P : Program} {N n0 : Nat} {c : Code} {Q : Exit → St → Prop} {s : St} {α : Type} (E : α → List (Nat × V)) (Hp : α → Heap) (Inv : α → Prop) (μ : α → Nat) (a0 : α) (σ : List Nat)
    (h0 : IntoS n0 σ s (E a0) (Hp a0)) (hI : Inv a0)
    (round : ∀ a, Inv a → W P N n0 c (seqQ (fun s' => ∃ b, Inv b ∧ μ b < μ a ∧ ∃ σ, IntoS n0 σ s' (E b) (Hp b)) Q) ⟨mk (E a), Hp a⟩) : W P N n0 (.loop c) Q s := by
  refine W_weak h0.weak (W_loop (fun n s => ∃ a, μ a = n ∧ Inv a ∧ s = ⟨mk (E a), Hp a⟩) (μ a0) ⟨a0, rfl, hI, rfl⟩ ?_)
  rintro n s ⟨a, rfl, hI, rfl⟩
  refine W_mono (round a hI) ?_
  intro e s' hq
  cases e with
  | normal =>
    obtain ⟨b, hb, hlt, σ, hi⟩ := hq
    exact ⟨μ b, _, hlt, hi.weak, b, rfl, hb, rfl⟩
  | _ => exact hq

/-- What a call hands back, under new numbers. -/
theorem Fin.ren {n0 : Nat} {H0 H : Heap} {r0 r : V} (σ : List Nat) (h1 : okσ n0 σ H.length = true) (h2 : placesR σ H0 σ H) (h3 : r0 = r.ren σ) (h4 : r.under σ.length = true) (h5 : n0 ≤ H0.length) : Fin n0 H0 r0 H r := by
  intro X w φ v hs hv
  subst h3
  obtain ⟨r1, r2, r3⟩ := hs.ren h1 h2
  have hn0 : n0 ≤ H.length := by
    simp only [okσ, Bool.and_eq_true, decide_eq_true_eq] at h1
    exact h1.1.2
  refine ⟨pickφ φ σ, r1, ?_, fun id hid => r3 id hid (by rw [hs.len]; omega), hn0, r2⟩
  exact ren_back _ _ h4 (VS.keeps (fun b _ hn => ⟨rfl, fun h' => hn (h'.imp (fun q => q) (r2 b))⟩) (Sizes.refl w) (Ext.refl φ) _ _ hv)
attribute [simp] V.ren renL Place.ren placesR envR IntoS okσ
end Go.Proofs.Ytpakdkiceoknjaa
