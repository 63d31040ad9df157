/- The abstract machine, part 13: the rules by which an abstract walk is reckoned; answers that are closed; loops. No condition. -/
import Derived.Test.YtpakdkiceoknjaaB2
namespace Go.Proofs.Ytpakdkiceoknjaa
set_option linter.unusedVariables false

@[simp] theorem upd_mk (l : List (Nat × V)) (t : Nat) (v : V) : upd (mk l) t v = mk ((t, v) :: l) := by
  funext x
  simp [upd, mk]
@[simp] theorem mk_cons (k : Nat) (v : V) (l : List (Nat × V)) (t : Nat) : mk ((k, v) :: l) t = if t = k then v else mk l t := rfl
@[simp] theorem mk_nil (t : Nat) : mk [] t = .d .undef := rfl
def keepL (l : List (Nat × V)) : List Nat → List (Nat × V)
  | [] => []
  | k :: K => (k, mk l k) :: keepL l K
theorem mk_keepL (l : List (Nat × V)) (K : List Nat) (t : Nat) : mk (keepL l K) t = if t ∈ K then mk l t else .d .undef := by
  induction K with
  | nil => simp [keepL]
  | cons k K ih =>
    simp only [keepL, mk_cons, ih, List.mem_cons]
    by_cases h : t = k
    · subst h; simp
    · simp [h]
@[simp] theorem keep_mk (l : List (Nat × V)) (K : List Nat) : keep K (mk l) = mk (keepL l K) := by
  funext t
  rw [mk_keepL]
  rfl

/-! ### What a walk leaves as it stands -/
@[congr] theorem CallsD_congr {P : Program} {f : FuncId} {vs vs' : List V} {H H' : Heap} {Q : V → Heap → Prop} (h1 : vs = vs') (h2 : H = H') : CallsD P f vs H Q = CallsD P f vs' H' Q := by rw [h1, h2]
@[congr] theorem W_congr {P : Program} {N n0 : Nat} {c : Code} {Q : Exit → St → Prop} {s s' : St} (h : s = s') : W P N n0 c Q s = W P N n0 c Q s' := by rw [h]

/-! ### Answers are closed -/
/-- A value as a datum: what it refers to is read, and is written no more. -/
def closeD (H : Heap) : Nat → V → D
  | _, .d x => x
  | 0, _ => .undef
  | f + 1, .sl id e off n => match H[id]? with
    | some (.row e' es) => if e' = e ∧ off + n ≤ es.length then .ro e n fun i j => closeD H f (((es[off + i]?).getD [])[j]?.getD (.d .undef)) else .undef
    | _ => .undef
  | f + 1, .ptr id e i j => match H[id]? with
    | some (.row e' es) => if e' = e ∧ i < es.length then .rp (e - j) fun m => closeD H f (((es[i]?).getD [])[j + m]?.getD (.d .undef)) else .undef
    | _ => .undef
  | f + 1, .clo fn l => .clo fn l.length fun j => closeD H f ((l[j]?).getD (.d .undef))
  | _ + 1, _ => .undef
def closeA (H : Heap) : V → V
  | .agg l => .agg (l.map fun x => .d (closeD H 4 x))
  | x => .d (closeD H 4 x)
def closeV (H : Heap) : V → V
  | .tup l => .tup (l.map (closeA H))
  | x => closeA H x

theorem closeD_spec {X : Nat → Prop} {w : World} {φ : List (Nat × Nat)} {H : Heap} (hs : HS X w φ H) : ∀ (f : Nat) (c : V) (v : Value), VS w (owned X φ H) φ c v → DS w X (closeD H f c) v := by
  have less : ∀ {d : D} {v : Value}, DS w (owned X φ H) d v → DS w X d v := fun h => DS.keeps (fun b _ hn => ⟨rfl, fun hx => hn (.inl hx)⟩) _ _ h
  intro f
  induction f with
  | zero =>
    intro c v hv
    cases c with
    | d x => simp only [closeD]; simp only [VS] at hv; exact less hv
    | _ => simp only [closeD, DS]
  | succ f ih =>
    intro c v hv
    cases c with
    | d x => simp only [closeD]; simp only [VS] at hv; exact less hv
    | sl id e off n =>
      simp only [VS] at hv
      obtain ⟨g, o, A, cap, hφ, rfl, hcap, hA, hroom⟩ := hv
      simp only [closeD]
      split
      · rename_i e' es hid
        split
        · rename_i hc
          obtain ⟨rfl, hlen⟩ := hc
          obtain ⟨g', o', cs, t, h1, h2, h3, h4⟩ := hs.live id _ es hid
          rw [hφ] at h1
          obtain ⟨rfl, rfl⟩ := Prod.mk.inj (Option.some.inj h1)
          simp only [DS]
          refine ⟨_, _, rfl, hcap, fun i j hi hj => ⟨A, rfl, ?_, ?_⟩⟩
          · rw [hA.resolve_left (by omega)]
            exact fun hx => hs.disj g ⟨id, e', es, o, hid, hφ⟩ hx
          · have hlt : off + i < es.length := by omega
            obtain ⟨r1, r2⟩ := h4 (off + i) es[off + i] (List.getElem?_eq_getElem hlt)
            have hj' : j < es[off + i].length := by omega
            obtain ⟨_, y, hy, hyv⟩ := r2 j _ (List.getElem?_eq_getElem hj')
            refine ⟨y, ?_, ?_⟩
            · rw [hA.resolve_left (by omega), add_plain', cell_of_row w g _ cs t _ h2, ← hy]
              congr 1
              rw [Nat.add_mul]
              omega
            · have := ih _ _ hyv
              simpa [hlt, hj'] using this
        · simp only [DS]
      · simp only [DS]
    | ptr id e i j =>
      simp only [VS] at hv
      obtain ⟨g, o, hφ, rfl⟩ := hv
      simp only [closeD]
      split
      · rename_i e' es hid
        split
        · rename_i hc
          obtain ⟨rfl, hlen⟩ := hc
          obtain ⟨g', o', cs, t, h1, h2, h3, h4⟩ := hs.live id _ es hid
          rw [hφ] at h1
          obtain ⟨rfl, rfl⟩ := Prod.mk.inj (Option.some.inj h1)
          simp only [DS]
          refine ⟨_, rfl, fun m hm => ⟨fun hx => hs.disj g ⟨id, e', es, o, hid, hφ⟩ hx, ?_⟩⟩
          obtain ⟨r1, r2⟩ := h4 i es[i] (List.getElem?_eq_getElem hlen)
          have hj' : j + m < es[i].length := by omega
          obtain ⟨_, y, hy, hyv⟩ := r2 (j + m) _ (List.getElem?_eq_getElem hj')
          refine ⟨y, ?_, ?_⟩
          · rw [add_plain', cell_of_row w g _ cs t _ h2, ← hy]
            congr 1
            omega
          · have := ih _ _ hyv
            simpa [hlen, hj'] using this
        · simp only [DS]
      · simp only [DS]
    | clo fn l =>
      simp only [VS] at hv
      obtain ⟨cs, rfl, hv⟩ := hv
      have hl := VSs.length _ _ hv
      simp only [closeD, DS]
      refine ⟨cs, rfl, by simpa using hl.symm, fun j hj => ?_⟩
      obtain ⟨y, h1, h2⟩ := VSs.get _ _ hv j l[j] (List.getElem?_eq_getElem hj)
      refine ⟨y, by simpa using h1, ?_⟩
      have := ih _ _ h2
      simpa [hj] using this
    | _ => simp only [closeD, DS]

theorem VSs.map {w : World} {own own' : Nat → Prop} {φ φ' : List (Nat × Nat)} {F : V → V} (hF : ∀ c v, VS w own φ c v → VS w own' φ' (F c) v) : ∀ (l : List V) (cs : List Value), VSs w own φ l cs → VSs w own' φ' (l.map F) cs
  | [], cs, h => by simpa [VSs] using h
  | c :: l, cs, h => by
    simp only [VSs] at h
    obtain ⟨v, cs', rfl, h1, h2⟩ := h
    simp only [List.map_cons, VSs]
    exact ⟨v, cs', rfl, hF c v h1, VSs.map hF l cs' h2⟩
theorem closeA_spec {X : Nat → Prop} {w : World} {φ φ' : List (Nat × Nat)} {H : Heap} (hs : HS X w φ H) (c : V) (v : Value) (hv : VS w (owned X φ H) φ c v) : VS w X φ' (closeA H c) v := by
  cases c with
  | agg l =>
    simp only [VS] at hv
    obtain ⟨cs, rfl, h⟩ := hv
    simp only [closeA, VS]
    exact ⟨cs, rfl, VSs.map (fun c v h => by simp only [VS]; exact closeD_spec hs 4 c v h) _ _ h⟩
  | _ => simp only [closeA, VS]; exact closeD_spec hs 4 _ v hv
theorem closeV_spec {X : Nat → Prop} {w : World} {φ φ' : List (Nat × Nat)} {H : Heap} (hs : HS X w φ H) (c : V) (v : Value) (hv : VS w (owned X φ H) φ c v) : VS w X φ' (closeV H c) v := by
  cases c with
  | tup l =>
    simp only [VS] at hv
    obtain ⟨cs, rfl, h⟩ := hv
    simp only [closeV, VS]
    exact ⟨cs, rfl, VSs.map (fun c v h => closeA_spec hs c v h) _ _ h⟩
  | agg l => exact closeA_spec hs _ v hv
  | _ => exact closeA_spec hs _ v hv

theorem HS.nil (X : Nat → Prop) (w : World) : HS X w [] [] :=
  ⟨rfl, fun i j e es e' es' g o o' hi => by simp at hi, fun g hg => by obtain ⟨id, e, es, o, h, _⟩ := hg; simp at h, fun id e es h => by simp at h⟩
theorem owned_nil (X : Nat → Prop) : owned X [] [] = X := by
  funext g
  apply propext
  constructor
  · rintro (h | ⟨id, e, es, o, h, _⟩)
    · exact h
    · simp at h
  · exact .inl
theorem Fin.close {H : Heap} {r : V} : Fin 0 H r [] (closeV H r) := fun X w φ v hs hv =>
  ⟨[], HS.nil X w, by rw [owned_nil]; exact closeV_spec hs r v hv, fun id h => by omega, Nat.zero_le _, fun g hg => by obtain ⟨id, e, es, o, h, _⟩ := hg; simp at h⟩

/-- The end of a call whose answer is closed. -/
def retC (P : Program) (rs : List ResultVar) (Q : V → Prop) : Exit → St → Prop
  | .normal, s | .ret, s => resD P rs s.env s.H fun l => Q (closeV s.H (oneOf l))
  | _, _ => False
theorem resD_mono {P : Program} : ∀ (rs : List ResultVar) {env : Env} {H : Heap} {k k' : List V → Prop}, (∀ l, k l → k' l) → resD P rs env H k → resD P rs env H k'
  | [], env, H, k, k', h, hk => h _ hk
  | .tmp t :: rest, env, H, k, k', h, hk => resD_mono rest (fun l q => h _ q) hk
  | .cell a ty :: rest, env, H, k, k', h, hk => by
    simp only [resD] at hk ⊢
    have : ∀ {k k' : V → Prop}, (∀ v, k v → k' v) → loadD (tinfo P ty) (env a) H k → loadD (tinfo P ty) (env a) H k' := by
      intro k k' h hk
      unfold loadD at hk ⊢
      split at hk
      · exact hk
      · split at hk
        · exact ⟨hk.1, hk.2.1, h _ hk.2.2⟩
        · split at hk
          · obtain ⟨h1, l, h2, h3, h4, h5⟩ := hk
            exact ⟨h1, l, h2, h3, h4, h _ h5⟩
          · exact hk
        · exact hk
    exact this (fun v q => resD_mono rest (fun l r => h _ r) q) hk

section
variable {P : Program}
theorem pure_of {f : FuncId} {fn : Func} {c : Code} {vs : List V} {Q : V → Prop} (hf : P.funcs[f]? = some fn) (he : enters P f = true) (hb : fn.body = some c)
    (hn : decide (vs.length ≤ fn.ntmps) = true) (h : W P fn.ntmps 0 c (retC P fn.results.toList Q) ⟨envOf vs, []⟩) : PureP P f vs Q := by
  refine calls_of hf he hb (of_decide_eq_true hn) (W_mono h ?_)
  intro e s hq
  cases e with
  | normal => exact resD_mono _ (fun l hl => ⟨_, _, Fin.close, rfl, hl⟩) hq
  | ret => exact resD_mono _ (fun l hl => ⟨_, _, Fin.close, rfl, hl⟩) hq
  | _ => exact hq

/-! ### A call of a function that writes nothing -/
theorem HS.keeps {X : Nat → Prop} {w w' : World} {φ : List (Nat × Nat)} {H : Heap} (hs : HS X w φ H) (hX : ∀ g, X g → g < w.heap.size) (hf : Fr w (fun _ => False) w') : HS X w' φ H := by
  have hk : Keeps w (owned X φ H) w' (owned X φ H) := fun b hb hn => ⟨hf.block b hb (fun h => h), hn⟩
  refine ⟨hs.len, hs.inj, hs.disj, fun id e es hid => ?_⟩
  obtain ⟨g, o, cs, t, h1, h2, h3, h4⟩ := hs.live id e es hid
  refine ⟨g, o, cs, t, h1, by rw [hf.block g (owned_lt hs ⟨id, e, es, o, hid, h1⟩) (fun h => h)]; exact h2, h3, fun i l hi => ⟨(h4 i l hi).1, fun j c hj => ?_⟩⟩
  obtain ⟨ho, y, hy, hv⟩ := (h4 i l hi).2 j c hj
  exact ⟨ho, y, hy, VS.keeps hk hf.sizes (Ext.refl _) _ _ hv⟩

mutual
/-- Does the value refer to no place? -/
def V.closed : V → Bool
  | .d _ => true
  | .ptr .. | .sl .. => false
  | .agg l | .tup l | .clo _ l => closedL l
def closedL : List V → Bool
  | [] => true
  | c :: l => c.closed && closedL l
end
mutual
theorem closed_any {w : World} {own : Nat → Prop} {φ φ' : List (Nat × Nat)} : ∀ (c : V) (v : Value), c.closed = true → VS w own φ c v → VS w own φ' c v
  | .d x, v, _, h => h
  | .agg l, v, hc, h => by
    obtain ⟨cs, h1, h2⟩ := h
    exact ⟨cs, h1, closedL_any l _ (by simpa [V.closed] using hc) h2⟩
  | .tup l, v, hc, h => by
    obtain ⟨cs, h1, h2⟩ := h
    exact ⟨cs, h1, closedL_any l _ (by simpa [V.closed] using hc) h2⟩
  | .clo fn l, v, hc, h => by
    obtain ⟨cs, h1, h2⟩ := h
    exact ⟨cs, h1, closedL_any l _ (by simpa [V.closed] using hc) h2⟩
  | .ptr .., _, hc, _ => by simp [V.closed] at hc
  | .sl .., _, hc, _ => by simp [V.closed] at hc
theorem closedL_any {w : World} {own : Nat → Prop} {φ φ' : List (Nat × Nat)} : ∀ (l : List V) (vs : List Value), closedL l = true → VSs w own φ l vs → VSs w own φ' l vs
  | [], vs, _, h => h
  | c :: l, vs, hc, h => by
    simp only [closedL, Bool.and_eq_true] at hc
    obtain ⟨v, vs', h1, h2, h3⟩ := h
    exact ⟨v, vs', h1, closed_any c v hc.1 h2, closedL_any l vs' hc.2 h3⟩
end

/-- The places are passed by: closed arguments. -/
theorem PureP.calls {f : FuncId} {vs : List V} {H : Heap} {Q : V → Prop} (h : PureP P f vs Q) (hc : closedL vs = true) : CallsD P f vs H fun r H' => H' = H ∧ Q r := by
  refine ⟨h.1, fun X w φ args hX hs hv => ?_⟩
  have hX' : ∀ g, owned X φ H g → g < w.heap.size := fun g hg => hg.elim (hX g) (owned_lt hs)
  refine (h.2 (owned X φ H) w [] args hX' (HS.nil _ w) (by rw [owned_nil]; exact closedL_any _ _ hc hv)).mono ?_
  rintro e w' ⟨v, r, φ', H', rfl, ⟨rfl, hq⟩, hs', hv', hfr, _, _, _⟩
  have hφ' : φ' = [] := List.eq_nil_of_length_eq_zero (by rw [hs'.len]; rfl)
  subst hφ'
  have hno : ownOf ([] : List (Nat × Nat)) [] = fun _ => False := by
    funext g
    apply propext
    constructor
    · rintro ⟨id, e, es, o, h, _⟩; simp at h
    · exact False.elim
  rw [hno] at hfr
  rw [owned_nil] at hv'
  refine ⟨v, r, φ, H, rfl, ⟨rfl, hq⟩, hs.keeps hX hfr, VS.keeps (w := w') (w' := w') (φ := []) (fun b _ hn => ⟨rfl, hn⟩) (Sizes.refl _) (fun id hid => by simp at hid) _ _ hv', ?_, Ext.refl _, Nat.le_refl _, fun g _ h => h⟩
  exact ⟨hfr.os, hfr.tape, hfr.output, hfr.size, fun b hb _ => hfr.block b hb (fun h => h), hfr.sizes⟩

/-- Is the value one that has no memory? -/
def V.scalar : V → Bool
  | .d (.int ..) | .d (.bool _) | .d (.str _) | .d .undef | .d .nilp | .d .nilsl => true
  | .tup l => l.all fun | .d (.int ..) | .d (.bool _) | .d (.str _) | .d .undef | .d .nilp | .d .nilsl => true | _ => false
  | _ => false
theorem scalar_any {w w' : World} {own own' : Nat → Prop} {φ φ' : List (Nat × Nat)} : ∀ (c : V) (v : Value), c.scalar = true → VS w own φ c v → VS w' own' φ' c v := by
  have one : ∀ (x : V) (v : Value), (match x with | .d (.int ..) | .d (.bool _) | .d (.str _) | .d .undef | .d .nilp | .d .nilsl => true | _ => false) = true → VS w own φ x v → VS w' own' φ' x v := by
    intro x v hx h
    split at hx <;> first | exact h | cases hx
  have many : ∀ (l : List V) (vs : List Value), (l.all fun | .d (.int ..) | .d (.bool _) | .d (.str _) | .d .undef | .d .nilp | .d .nilsl => true | _ => false) = true → VSs w own φ l vs → VSs w' own' φ' l vs := by
    intro l
    induction l with
    | nil => intro vs _ h; exact h
    | cons c l ih =>
      intro vs hl h
      simp only [List.all_cons, Bool.and_eq_true] at hl
      obtain ⟨v, vs', h1, h2, h3⟩ := h
      exact ⟨v, vs', h1, one c v hl.1 h2, ih vs' hl.2 h3⟩
  intro c v hc h
  unfold V.scalar at hc
  split at hc <;> first
    | exact h
    | (obtain ⟨cs, h1, h2⟩ := h; exact ⟨cs, h1, many _ _ hc h2⟩)
    | cases hc

/-- The places are only read: an answer without memory. -/
theorem PureP.peek {f : FuncId} {vs vs' : List V} {H : Heap} {Q : V → Prop} (h : PureP P f vs' Q) (hv : vs.map (closeV H) = vs') (hq : ∀ r, Q r → r.scalar = true) : CallsD P f vs H fun r H' => H' = H ∧ Q r := by
  subst hv
  refine ⟨h.1, fun X w φ args hX hs hv => ?_⟩
  refine (h.2 X w [] args hX (HS.nil _ w) (by rw [owned_nil]; exact VSs.map (fun c v hc => closeV_spec hs c v hc) _ _ hv)).mono ?_
  rintro e w' ⟨v, r, φ', H', rfl, ⟨rfl, hr⟩, hs', hv', hfr, _, _, _⟩
  have hno : ownOf φ [] = fun _ => False := by
    funext g
    apply propext
    constructor
    · rintro ⟨id, e, es, o, h, _⟩; simp at h
    · exact False.elim
  have hno' : ownOf ([] : List (Nat × Nat)) [] = fun _ => False := by
    funext g
    apply propext
    constructor
    · rintro ⟨id, e, es, o, h, _⟩; simp at h
    · exact False.elim
  rw [hno'] at hfr
  refine ⟨v, r, φ, H, rfl, ⟨rfl, hr⟩, hs.keeps hX hfr, scalar_any r v (hq r hr) hv', ?_, Ext.refl _, Nat.le_refl _, fun g _ h => h⟩
  exact ⟨hfr.os, hfr.tape, hfr.output, hfr.size, fun b hb _ => hfr.block b hb (fun h => h), hfr.sizes⟩
end
end Go.Proofs.Ytpakdkiceoknjaa
