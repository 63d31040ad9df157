/- The abstract machine, part 28: places that are given up become closed data, at a loop's head. No condition. -/
import Derived.Test.YtpakdkiceoknjaaC7
namespace Go.Proofs.Ytpakdkiceoknjaa
set_option linter.unusedVariables false
set_option linter.unusedSimpArgs false

/-- A value as a datum, where it refers to none of the places K. -/
def closeK (K : List Nat) (H : Heap) : Nat → V → D
  | _, .d x => x
  | 0, _ => .undef
  | f + 1, .sl id e off n => if id ∈ K then .undef else match H[id]? with
    | some (.row e' es) => if e' = e ∧ off + n ≤ es.length then .ro e n fun i j => closeK K H f (((es[off + i]?).getD [])[j]?.getD (.d .undef)) else .undef
    | _ => .undef
  | f + 1, .ptr id e i j => if id ∈ K then .undef else match H[id]? with
    | some (.row e' es) => if e' = e ∧ i < es.length then .rp (e - j) fun m => closeK K H f (((es[i]?).getD [])[j + m]?.getD (.d .undef)) else .undef
    | _ => .undef
  | f + 1, .clo fn l => .clo fn l.length fun j => closeK K H f ((l[j]?).getD (.d .undef))
  | _ + 1, _ => .undef
theorem closeK_spec {K : List Nat} {X : Nat → Prop} {w : World} {φ : List (Nat × Nat)} {H : Heap} (hs : HS X w φ H) {own' : Nat → Prop}
    (hown : ∀ g, own' g → X g ∨ ∃ id e es o, id ∈ K ∧ H[id]? = some (.row e es) ∧ φ[id]? = some (g, o)) : ∀ (f : Nat) (c : V) (v : Value), VS w (owned X φ H) φ c v → DS w own' (closeK K H f c) v := by
  have less : ∀ {d : D} {v : Value}, DS w (owned X φ H) d v → DS w own' d v := fun h => DS.keeps (fun b _ hn => ⟨rfl, fun hx => hn ((hown b hx).imp (fun q => q) fun ⟨id, e, es, o, _, h2, h3⟩ => ⟨id, e, es, o, h2, h3⟩)⟩) _ _ h
  have free : ∀ {id e : Nat} {es : List (List V)} {g o : Nat}, ¬ id ∈ K → H[id]? = some (.row e es) → φ[id]? = some (g, o) → ¬ own' g := by
    intro id e es g o hk hid hφ hx
    rcases hown g hx with hx | ⟨id', e', es', o', h1, h2, h3⟩
    · exact hs.disj g ⟨id, e, es, o, hid, hφ⟩ hx
    · exact hk ((hs.inj id id' _ _ _ _ g o o' hid h2 hφ h3) ▸ h1)
  intro f
  induction f with
  | zero =>
    intro c v hv
    cases c with
    | d x => simp only [closeK]; simp only [VS] at hv; exact less hv
    | _ => simp only [closeK, DS]
  | succ f ih =>
    intro c v hv
    cases c with
    | d x => simp only [closeK]; simp only [VS] at hv; exact less hv
    | sl id e off n =>
      simp only [VS] at hv
      obtain ⟨g, o, A, cap, hφ, rfl, hcap, hA, hroom⟩ := hv
      simp only [closeK]
      split
      · simp only [DS]
      rename_i hk
      split
      · rename_i e' es hid
        split
        · rename_i hc
          obtain ⟨rfl, hlen⟩ := hc
          obtain ⟨g', o', cs, t, h1, h2, h3, h4⟩ := hs.live id _ es hid
          rw [hφ] at h1
          obtain ⟨rfl, rfl⟩ := Prod.mk.inj (Option.some.inj h1)
          simp only [DS]
          refine ⟨_, _, rfl, hcap, fun i j hi hj => ⟨A, rfl, ?_, ?_⟩⟩
          · rw [hA.resolve_left (by omega)]
            exact free hk hid hφ
          · have hlt : off + i < es.length := by omega
            obtain ⟨r1, r2⟩ := h4 (off + i) es[off + i] (List.getElem?_eq_getElem hlt)
            have hj' : j < es[off + i].length := by omega
            obtain ⟨_, y, hy, hyv⟩ := r2 j _ (List.getElem?_eq_getElem hj')
            refine ⟨y, ?_, ?_⟩
            · rw [hA.resolve_left (by omega), add_plain', cell_of_row w g _ cs t _ h2, ← hy]
              congr 1
              rw [Nat.add_mul]
              omega
            · have := ih _ _ hyv
              simpa [hlt, hj'] using this
        · simp only [DS]
      · simp only [DS]
    | ptr id e i j =>
      simp only [VS] at hv
      obtain ⟨g, o, hφ, rfl⟩ := hv
      simp only [closeK]
      split
      · simp only [DS]
      rename_i hk
      split
      · rename_i e' es hid
        split
        · rename_i hc
          obtain ⟨rfl, hlen⟩ := hc
          obtain ⟨g', o', cs, t, h1, h2, h3, h4⟩ := hs.live id _ es hid
          rw [hφ] at h1
          obtain ⟨rfl, rfl⟩ := Prod.mk.inj (Option.some.inj h1)
          simp only [DS]
          refine ⟨_, rfl, fun m hm => ⟨free hk hid hφ, ?_⟩⟩
          obtain ⟨r1, r2⟩ := h4 i es[i] (List.getElem?_eq_getElem hlen)
          have hj' : j + m < es[i].length := by omega
          obtain ⟨_, y, hy, hyv⟩ := r2 (j + m) _ (List.getElem?_eq_getElem hj')
          refine ⟨y, ?_, ?_⟩
          · rw [add_plain', cell_of_row w g _ cs t _ h2, ← hy]
            congr 1
            omega
          · have := ih _ _ hyv
            simpa [hlen, hj'] using this
        · simp only [DS]
      · simp only [DS]
    | clo fn l =>
      simp only [VS] at hv
      obtain ⟨cs, rfl, hv⟩ := hv
      have hl := VSs.length _ _ hv
      simp only [closeK, DS]
      refine ⟨cs, rfl, by simpa using hl.symm, fun j hj => ?_⟩
      obtain ⟨y, h1, h2⟩ := VSs.get _ _ hv j l[j] (List.getElem?_eq_getElem hj)
      refine ⟨y, by simpa using h1, ?_⟩
      have := ih _ _ h2
      simpa [hj] using this
    | _ => simp only [closeK, DS]

/-- The first value, with places under old numbers, may be told by the second, with places under new numbers. -/
def fits (σ : List Nat) (H0 : Heap) (v0 v : V) : Prop :=
  match v with
  | .d d => DLe (closeK σ H0 4 v0) d
  | v => v0 = v.ren σ
def fitsL (σ : List Nat) (H0 : Heap) : List V → List V → Prop
  | [], l => l = []
  | a :: l0, l => match l with
    | b :: l => (fits σ H0 a b ∧ b.one = true) ∧ fitsL σ H0 l0 l
    | [] => False
/-- Two rows: the same under new numbers, or one by one. -/
def fitsR (σ : List Nat) (H0 : Heap) (es0 es : List (List V)) : Prop :=
  es0 = es.map (renL σ) ∨ (es0.length = es.length ∧ ∀ i, i < es.length → fitsL σ H0 (es0[i]?.getD []) (es[i]?.getD []))
def fitsP (σ : List Nat) (H0 : Heap) (p0 : Option Place) (p : Place) : Prop :=
  match p, p0 with
  | .row e es, some (.row e0 es0) => e0 = e ∧ fitsR σ H0 es0 es
  | .dead, some _ => True
  | _, _ => False
def placesF (σ : List Nat) (H0 : Heap) : List Nat → Heap → Prop
  | [], H => H = []
  | i :: τ, H => match H with
    | p :: H => (fitsP σ H0 (H0[i]?) p ∧ placeBelow σ.length p = true) ∧ placesF σ H0 τ H
    | [] => False
def envF (σ : List Nat) (H0 : Heap) (env : Env) : List (Nat × V) → Prop
  | [] => True
  | (k, v) :: l => (fits σ H0 (env k) v ∧ v.under σ.length = true) ∧ envF σ H0 env l
def IntoF (n0 : Nat) (σ : List Nat) (s : St) (l : List (Nat × V)) (H : Heap) : Prop := okσ n0 σ H.length = true ∧ placesF σ s.H σ H ∧ envF σ s.H s.env l

theorem fitsP_row {σ : List Nat} {H0 : Heap} {p0 : Option Place} {e : Nat} {es : List (List V)} (h : fitsP σ H0 p0 (.row e es)) : ∃ es0, p0 = some (.row e es0) ∧ fitsR σ H0 es0 es := by
  cases p0 with
  | none => exact h.elim
  | some p => cases p with
    | dead => exact h.elim
    | row e0 es0 => obtain ⟨rfl, h⟩ := h; exact ⟨es0, rfl, h⟩
theorem placesF_get {σ : List Nat} {H0 : Heap} : ∀ {τ : List Nat} {H : Heap}, placesF σ H0 τ H → ∀ {i : Nat} {p : Place}, H[i]? = some p → ∃ k, τ[i]? = some k ∧ fitsP σ H0 (H0[k]?) p ∧ placeBelow σ.length p = true
  | [], H, h, i, p, hp => by
    have : H = [] := h
    subst this
    simp at hp
  | k :: τ, [], h, i, p, hp => by simp at hp
  | k :: τ, q :: H, h, 0, p, hp => by
    simp at hp
    subst hp
    exact ⟨k, rfl, h.1.1, h.1.2⟩
  | k :: τ, q :: H, h, i + 1, p, hp => by
    obtain ⟨k', h1, h2⟩ := placesF_get h.2 (i := i) (p := p) (by simpa using hp)
    exact ⟨k', by simpa using h1, h2⟩
theorem fitsL_get {σ : List Nat} {H0 : Heap} : ∀ {l0 l : List V}, fitsL σ H0 l0 l → l0.length = l.length ∧ ∀ {j : Nat} {c : V}, l[j]? = some c → ∃ c0, l0[j]? = some c0 ∧ fits σ H0 c0 c ∧ c.one = true
  | [], l, h => by
    have : l = [] := h
    subst this
    exact ⟨rfl, fun hc => by simp at hc⟩
  | a :: l0, [], h => h.elim
  | a :: l0, b :: l, h => by
    obtain ⟨h1, h2⟩ := fitsL_get h.2
    refine ⟨by simp [h1], fun {j c} hc => ?_⟩
    cases j with
    | zero => simp at hc; subst hc; exact ⟨a, rfl, h.1.1, h.1.2⟩
    | succ j =>
      obtain ⟨c0, q1, q2⟩ := h2 (j := j) (c := c) (by simpa using hc)
      exact ⟨c0, by simpa using q1, q2⟩
theorem envF_mk {σ : List Nat} {H0 : Heap} {env : Env} : ∀ (l : List (Nat × V)), envF σ H0 env l → ∀ t, mk l t = .d .undef ∨ (fits σ H0 (env t) (mk l t) ∧ (mk l t).under σ.length = true)
  | [], _, t => .inl rfl
  | (k, v) :: l, h, t => by
    simp only [envF] at h
    simp only [mk_cons]
    split
    · rename_i e
      subst e
      exact .inr h.1
    · exact envF_mk l h.2 t

section
variable {X : Nat → Prop} {w : World} {φ : List (Nat × Nat)} {H0 H : Heap} {n0 : Nat} {σ : List Nat}
theorem own_fit (hs : HS X w φ H0) (hp : placesF σ H0 σ H) : ∀ g, ownOf (pickφ φ σ) H g → ∃ id e es o, id ∈ σ ∧ H0[id]? = some (.row e es) ∧ φ[id]? = some (g, o) := by
  rintro g ⟨id, e, es, o, h1, h2⟩
  obtain ⟨k, q1, q2, _⟩ := placesF_get hp h1
  obtain ⟨es0, hk, _⟩ := fitsP_row q2
  · have hlt : k < φ.length := by rw [hs.len]; exact (List.getElem?_eq_some_iff.1 hk).1
    unfold pickφ at h2
    rw [List.getElem?_map, q1] at h2
    simp only [Option.map_some, Option.some.injEq] at h2
    rw [List.getD_eq_getElem?_getD, List.getElem?_eq_getElem hlt] at h2
    exact ⟨k, _, _, o, List.mem_of_getElem? q1, hk, by rw [List.getElem?_eq_getElem hlt]; exact congrArg some h2⟩
theorem fits_spec (hs : HS X w φ H0) (hp : placesF σ H0 σ H) {v0 v : V} {x : Value} (hf : fits σ H0 v0 v) (hu : v.under σ.length = true) (hv : VS w (owned X φ H0) φ v0 x) : VS w (owned X (pickφ φ σ) H) (pickφ φ σ) v x := by
  have hown : ∀ g, owned X (pickφ φ σ) H g → X g ∨ ∃ id e es o, id ∈ σ ∧ H0[id]? = some (.row e es) ∧ φ[id]? = some (g, o) := fun g hg => hg.imp (fun q => q) (own_fit hs hp g)
  have same : ∀ (v : V), v0 = v.ren σ → v.under σ.length = true → VS w (owned X (pickφ φ σ) H) (pickφ φ σ) v x := by
    intro v e hu
    subst e
    refine ren_back _ _ hu (VS.keeps (fun b _ hn => ⟨rfl, fun h' => hn ?_⟩) (Sizes.refl w) (Ext.refl φ) _ _ hv)
    exact (hown b h').imp (fun q => q) fun ⟨id, e, es, o, _, h2, h3⟩ => ⟨id, e, es, o, h2, h3⟩
  unfold fits at hf
  split at hf
  · rename_i d
    simp only [VS]
    exact DS.le _ _ _ hf (closeK_spec hs hown 4 v0 x hv)
  · exact same _ hf hu
theorem HS.fit (hs : HS X w φ H0) (hσ : okσ n0 σ H.length = true) (hp : placesF σ H0 σ H) :
    HS X w (pickφ φ σ) H ∧ (∀ g, ownOf (pickφ φ σ) H g → ownOf φ H0 g) ∧ (∀ id, id < n0 → id < φ.length → (pickφ φ σ)[id]? = φ[id]?) := by
  simp only [okσ, Bool.and_eq_true, beq_iff_eq, decide_eq_true_eq] at hσ
  obtain ⟨⟨⟨hlen, hnd⟩, hn0⟩, htk⟩ := hσ
  have get : ∀ {id : Nat} {e : Nat} {es : List (List V)}, H[id]? = some (.row e es) → ∃ k es0, σ[id]? = some k ∧ H0[k]? = some (.row e es0) ∧ fitsR σ H0 es0 es ∧ placeBelow σ.length (.row e es) = true := by
    intro id e es h
    obtain ⟨k, q1, q2, q3⟩ := placesF_get hp h
    obtain ⟨es0, hk, q2⟩ := fitsP_row q2
    exact ⟨k, es0, q1, hk, q2, q3⟩
  have φget : ∀ {id k : Nat} {x : Nat × Nat}, σ[id]? = some k → k < φ.length → (pickφ φ σ)[id]? = some x → φ[k]? = some x := by
    intro id k x h1 h2 h3
    unfold pickφ at h3
    rw [List.getElem?_map, h1] at h3
    simp only [Option.map_some, Option.some.injEq] at h3
    rw [List.getD_eq_getElem?_getD, List.getElem?_eq_getElem h2] at h3
    rw [List.getElem?_eq_getElem h2]
    exact congrArg some h3
  have klt : ∀ {k e : Nat} {es : List (List V)}, H0[k]? = some (.row e es) → k < φ.length := fun h => by
    rw [hs.len]; exact (List.getElem?_eq_some_iff.1 h).1
  have hown : ∀ g, ownOf (pickφ φ σ) H g → ownOf φ H0 g := fun g hg => by
    obtain ⟨id, e, es, o, _, h2, h3⟩ := own_fit hs hp g hg
    exact ⟨id, e, es, o, h2, h3⟩
  refine ⟨⟨by simp [pickφ, hlen], ?_, fun g hg => hs.disj g (hown g hg), ?_⟩, hown, ?_⟩
  · intro i j e es e' es' g o o' hi hj hgi hgj
    obtain ⟨k, _, q1, q2, _⟩ := get hi
    obtain ⟨k', _, q1', q2', _⟩ := get hj
    have := hs.inj k k' _ _ _ _ g o o' q2 q2' (φget q1 (klt q2) hgi) (φget q1' (klt q2') hgj)
    subst this
    obtain ⟨a1, a2⟩ := List.getElem?_eq_some_iff.1 q1
    obtain ⟨b1, b2⟩ := List.getElem?_eq_some_iff.1 q1'
    exact (List.getElem_inj hnd).1 (a2.trans b2.symm)
  · intro id e es hid
    obtain ⟨k, es0, q1, q2, q4, q3⟩ := get hid
    obtain ⟨g, o, cs, t, r1, r2, r3, r4⟩ := hs.live k e _ q2
    have hlt := (List.getElem?_eq_some_iff.1 q1).1
    have hk : σ.getD id 0 = k := by rw [List.getD_eq_getElem?_getD, q1]; rfl
    simp only [placeBelow, List.all_eq_true] at q3
    rcases q4 with rfl | ⟨hle, q4⟩
    · refine ⟨g, o, cs, t, pickφ_get hlt (by rw [hk]; exact r1), r2, by simpa using r3, fun i l hl => ?_⟩
      have hl' : (es.map (renL σ))[i]? = some (renL σ l) := by rw [List.getElem?_map, hl]; rfl
      obtain ⟨p1, p2⟩ := r4 i _ hl'
      refine ⟨by rw [renL_length] at p1; exact p1, fun j c hc => ?_⟩
      have hc' : (renL σ l)[j]? = some (c.ren σ) := by rw [renL_get, hc]; rfl
      obtain ⟨p3, y, p4, p5⟩ := p2 j _ hc'
      rw [ren_one] at p3
      have hu := q3 l (List.mem_of_getElem? hl) c (List.mem_of_getElem? hc)
      refine ⟨p3, y, p4, ren_back c y hu (VS.keeps (fun b _ hn => ⟨rfl, fun h' => hn (h'.imp (fun q => q) (hown b))⟩) (Sizes.refl w) (Ext.refl φ) _ _ p5)⟩
    · refine ⟨g, o, cs, t, pickφ_get hlt (by rw [hk]; exact r1), r2, by rw [← hle]; exact r3, fun i l hl => ?_⟩
      have hi := (List.getElem?_eq_some_iff.1 hl).1
      have q5 := q4 i hi
      rw [hl, Option.getD_some] at q5
      have hi0 : i < es0.length := by omega
      rw [List.getElem?_eq_getElem hi0, Option.getD_some] at q5
      obtain ⟨p1, p2⟩ := r4 i _ (List.getElem?_eq_getElem hi0)
      obtain ⟨m1, m2⟩ := fitsL_get q5
      refine ⟨by rw [← m1]; exact p1, fun j c hc => ?_⟩
      obtain ⟨c0, z1, z2, z3⟩ := m2 hc
      obtain ⟨_, y, p4, p5⟩ := p2 j _ z1
      exact ⟨z3, y, p4, fits_spec hs hp z2 (q3 l (List.mem_of_getElem? hl) c (List.mem_of_getElem? hc)) p5⟩
  · intro id h1 h2
    have : σ[id]? = some id := by
      have h3 : (σ.take n0)[id]? = (List.range n0)[id]? := by rw [htk]
      rw [List.getElem?_take, if_pos h1] at h3
      rw [h3]
      simp [h1]
    unfold pickφ
    rw [List.getElem?_map, this]
    simp only [Option.map_some]
    rw [List.getD_eq_getElem?_getD, List.getElem?_eq_getElem h2]
    rfl
end

theorem IntoF.weak {n0 : Nat} {σ : List Nat} {s : St} {l : List (Nat × V)} {H : Heap} (h : IntoF n0 σ s l H) : Weak n0 s ⟨mk l, H⟩ := by
  intro x N φ a w hx hs
  obtain ⟨h1, h2, h3⟩ := h
  obtain ⟨r1, r2, r3⟩ := hs.hs.fit h1 h2
  have hn0 : n0 ≤ H.length := by
    simp only [okσ, Bool.and_eq_true, decide_eq_true_eq] at h1
    exact h1.1.2
  refine ⟨pickφ φ σ, ⟨r1, fun t => ?_, hs.low, hs.defers, hs.size, hs.fr, fun g hg ho => hs.old g hg (r2 g ho), ?_, by show x.H0.length ≤ H.length; rw [hx]; exact hn0, hs.len0⟩⟩
  · show VS w (owned x.X (pickφ φ σ) H) (pickφ φ σ) (mk l t) _
    rcases envF_mk l h3 t with q | ⟨q, hb⟩
    · rw [q]; simp [VS, DS]
    · exact fits_spec hs.hs h2 q hb (hs.env t)
  · intro id hid
    rw [hs.len0, hx] at hid
    have hlong := hs.long
    rw [hx] at hlong
    rw [r3 id hid (by rw [hs.hs.len]; omega)]
    exact hs.ext id (by rw [hs.len0, hx]; exact hid)

/-- A loop, at whose head places may be given up. -/
theorem W_loopF {P : Program} {N n0 : Nat} {c : Code} {Q : Exit → St → Prop} {s : St} {α : Type} (E : α → List (Nat × V)) (Hp : α → Heap) (Inv : α → Prop) (μ : α → Nat) (a0 : α) (σ : List Nat)
    (h0 : IntoF n0 σ s (E a0) (Hp a0)) (hI : Inv a0)
    (round : ∀ a, Inv a → W P N n0 c (seqQ (fun s' => ∃ b, Inv b ∧ μ b < μ a ∧ ∃ σ, IntoF n0 σ s' (E b) (Hp b)) Q) ⟨mk (E a), Hp a⟩) : W P N n0 (.loop c) Q s := by
  refine W_weak h0.weak (W_loop (fun n s => ∃ a, μ a = n ∧ Inv a ∧ s = ⟨mk (E a), Hp a⟩) (μ a0) ⟨a0, rfl, hI, rfl⟩ ?_)
  rintro n s ⟨a, rfl, hI, rfl⟩
  refine W_mono (round a hI) ?_
  intro e s' hq
  cases e with
  | normal =>
    obtain ⟨b, hb, hlt, σ, hi⟩ := hq
    exact ⟨μ b, _, hlt, hi.weak, b, rfl, hb, rfl⟩
  | _ => exact hq
attribute [simp] fits fitsL fitsP placesF envF IntoF
end Go.Proofs.Ytpakdkiceoknjaa
