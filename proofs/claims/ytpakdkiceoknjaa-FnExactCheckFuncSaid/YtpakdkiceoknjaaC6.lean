/- The abstract machine, part 26: data that say less; callees that only read the caller's places. No condition. -/
import Derived.Test.YtpakdkiceoknjaaC5
namespace Go.Proofs.Ytpakdkiceoknjaa
set_option linter.unusedVariables false
set_option linter.unusedSimpArgs false

/-! ### Data that say less -/
def DLe : D → D → Prop
  | .rp n f, d' => match d' with
    | .rp m g => m ≤ n ∧ ∀ j, j < m → DLe (f j) (g j)
    | _ => False
  | .ro e n f, d' => match d' with
    | .ro e' n' g => e = e' ∧ n = n' ∧ ∀ i, i < n → ∀ j, j < e → DLe (f i j) (g i j)
    | _ => False
  | .nilsl, d' => match d' with
    | .nilsl => True
    | .ro _ n _ => n = 0
    | _ => False
  | d, d' => d = d'
theorem DLe.refl : ∀ d, DLe d d := by
  intro d
  induction d with
  | rp n f ih => exact ⟨Nat.le_refl _, fun j _ => ih j⟩
  | ro e n f ih => exact ⟨rfl, rfl, fun i _ j _ => ih i j⟩
  | nilsl => trivial
  | _ => rfl
theorem DS.le {w : World} {own : Nat → Prop} : ∀ (d d' : D) (v : Value), DLe d d' → DS w own d v → DS w own d' v := by
  intro d
  induction d with
  | rp n f ih =>
    intro d' v h hv
    unfold DLe at h
    split at h
    · obtain ⟨a, rfl, hf⟩ := hv
      refine ⟨a, rfl, fun j hj => ?_⟩
      obtain ⟨h1, c, h2, h3⟩ := hf j (by omega)
      exact ⟨h1, c, h2, ih j _ _ (h.2 j hj) h3⟩
    · exact h.elim
  | ro e n f ih =>
    intro d' v h hv
    unfold DLe at h
    split at h
    · obtain ⟨rfl, rfl, h⟩ := h
      obtain ⟨A, cap, h1, h2, h3⟩ := hv
      refine ⟨A, cap, h1, h2, fun i j hi hj => ?_⟩
      obtain ⟨a, q1, q2, c, q3, q4⟩ := h3 i j hi hj
      exact ⟨a, q1, q2, c, q3, ih i j _ _ (h i hi j hj) q4⟩
    · exact h.elim
  | nilsl =>
    intro d' v h hv
    unfold DLe at h
    split at h
    · exact hv
    · subst h
      simp only [DS] at hv ⊢
      exact ⟨none, 0, hv, Nat.le_refl _, fun i j hi => by omega⟩
    · exact h.elim
  | _ =>
    intro d' v h hv
    have : _ = d' := h
    subst this
    exact hv
mutual
def VLe : V → V → Prop
  | .d x, y => match y with
    | .d z => DLe x z
    | _ => False
  | .agg l, y => match y with
    | .agg l' => VLes l l'
    | _ => False
  | .tup l, y => match y with
    | .tup l' => VLes l l'
    | _ => False
  | x, y => x = y
def VLes : List V → List V → Prop
  | [], y => y = []
  | x :: l, y => match y with
    | z :: l' => VLe x z ∧ VLes l l'
    | [] => False
end
mutual
theorem VS.le {w : World} {own : Nat → Prop} {φ : List (Nat × Nat)} : ∀ (x y : V) (v : Value), VLe x y → VS w own φ x v → VS w own φ y v
  | .d x, y, v, h, hv => by
    unfold VLe at h
    split at h
    · exact DS.le _ _ _ h hv
    · exact h.elim
  | .agg l, y, v, h, hv => by
    unfold VLe at h
    split at h
    · obtain ⟨cs, h1, h2⟩ := hv
      exact ⟨cs, h1, VSs.le l _ _ h h2⟩
    · exact h.elim
  | .tup l, y, v, h, hv => by
    unfold VLe at h
    split at h
    · obtain ⟨cs, h1, h2⟩ := hv
      exact ⟨cs, h1, VSs.le l _ _ h h2⟩
    · exact h.elim
  | .ptr a b c d, y, v, h, hv => by
    have : V.ptr a b c d = y := by simpa [VLe] using h
    subst this; exact hv
  | .sl a b c d, y, v, h, hv => by
    have : V.sl a b c d = y := by simpa [VLe] using h
    subst this; exact hv
  | .clo f l, y, v, h, hv => by
    have : V.clo f l = y := by simpa [VLe] using h
    subst this; exact hv
theorem VSs.le {w : World} {own : Nat → Prop} {φ : List (Nat × Nat)} : ∀ (l l' : List V) (vs : List Value), VLes l l' → VSs w own φ l vs → VSs w own φ l' vs
  | [], l', vs, h, hv => by
    have : l' = [] := by simpa [VLes] using h
    subst this; exact hv
  | x :: l, l', vs, h, hv => by
    unfold VLes at h
    split at h
    · obtain ⟨v, vs', h1, h2, h3⟩ := hv
      exact ⟨v, vs', h1, VS.le _ _ _ h.1 h2, VSs.le l _ _ h.2 h3⟩
    · exact h.elim
end
theorem PureP.le {P : Program} {f : FuncId} {vs : List V} {r0 : V} (h : PureP P f vs fun r => VLe r r0) : PureP P f vs (· = r0) := by
  refine ⟨h.1, fun X w φ args hX hs hv => (h.2 X w φ args hX hs hv).mono ?_⟩
  rintro e' w' ⟨v, r, φ', H', rfl, ⟨rfl, hr⟩, hs', hv', rest⟩
  exact ⟨v, _, φ', [], rfl, ⟨rfl, rfl⟩, hs', VS.le _ _ _ hr hv', rest⟩
attribute [simp] DLe.refl

/-! ### Callees that only read the caller's places -/
def D.scl : D → Bool
  | .int .. | .bool _ | .str _ | .undef | .nilp | .nilsl | .nilf | .nili => true
  | _ => false
mutual
/-- No closed memory stands in the value. -/
def V.scl : V → Bool
  | .d x => x.scl
  | .ptr .. | .sl .. => true
  | .agg l | .tup l | .clo _ l => sclL l
def sclL : List V → Bool
  | [] => true
  | c :: l => c.scl && sclL l
end
def SclH (R : Heap) : Prop := ∀ p ∈ R, match p with
  | .row _ es => ∀ l ∈ es, ∀ c ∈ l, c.scl = true
  | .dead => True
mutual
theorem scl_any {w : World} {own own' : Nat → Prop} {φ : List (Nat × Nat)} : ∀ (c : V) (v : Value), c.scl = true → VS w own φ c v → VS w own' φ c v
  | .d x, v, h, hv => by
    cases x <;> simp [V.scl, D.scl] at h <;> exact hv
  | .agg l, v, h, hv => by
    obtain ⟨cs, h1, h2⟩ := hv
    exact ⟨cs, h1, sclL_any l _ (by simpa [V.scl] using h) h2⟩
  | .tup l, v, h, hv => by
    obtain ⟨cs, h1, h2⟩ := hv
    exact ⟨cs, h1, sclL_any l _ (by simpa [V.scl] using h) h2⟩
  | .clo f l, v, h, hv => by
    obtain ⟨cs, h1, h2⟩ := hv
    exact ⟨cs, h1, sclL_any l _ (by simpa [V.scl] using h) h2⟩
  | .ptr .., v, _, hv => hv
  | .sl .., v, _, hv => hv
theorem sclL_any {w : World} {own own' : Nat → Prop} {φ : List (Nat × Nat)} : ∀ (l : List V) (vs : List Value), sclL l = true → VSs w own φ l vs → VSs w own' φ l vs
  | [], vs, _, hv => hv
  | c :: l, vs, h, hv => by
    simp only [sclL, Bool.and_eq_true] at h
    obtain ⟨v, vs', h1, h2, h3⟩ := hv
    exact ⟨v, vs', h1, scl_any c v h.1 h2, sclL_any l vs' h.2 h3⟩
end

/-- What the caller's places hold, read as closed data: the arguments vs stand for the arguments vs'. -/
def Reads1 (H : Heap) (vs vs' : List V) : Prop := ∀ (X : Nat → Prop) (w : World) (φ : List (Nat × Nat)) (xs : List Value), HS X w φ H → VSs w (owned X φ H) φ vs xs → VSs w X [] vs' xs

theorem CallsD.peek {P : Program} {f : FuncId} {vs vs' : List V} {r : V} {R : Heap} (h : CallsD P f vs' [] fun r' H' => r' = r ∧ H' = R) {H : Heap} (hv : Reads1 H vs vs') (hr : r.scl = true) (hR : SclH R) :
    CallsD P f vs H fun r' H' => r' = r.shift H.length ∧ H' = H ++ R.map (Place.shift H.length) := by
  refine ⟨h.1, fun X w φ args hX hs hvs => ?_⟩
  refine (h.2 X w [] args hX (HS.nil _ w) (by rw [owned_nil]; exact hv X w φ _ hs hvs)).mono ?_
  rintro e w' ⟨v, r', φ', H', rfl, ⟨rfl, rfl⟩, hs', hv', hfr, _, _, hnew⟩
  have hl : φ.length = H.length := hs.len
  have hno : ownOf ([] : List (Nat × Nat)) [] = fun _ => False := by
    funext g
    apply propext
    constructor
    · rintro ⟨id, e, es, o, h, _⟩; simp at h
    · exact False.elim
  rw [hno] at hfr hnew
  have hlow : ∀ g, ownOf φ H g → g < w.heap.size := fun g hg => owned_lt hs hg
  have hk : Keeps w (owned X φ H) w' (owned X (φ ++ φ') (H ++ H'.map (Place.shift H.length))) := fun b hb hn => ⟨hfr.block b hb (fun h => h), fun hx => hx.elim (fun q => hn (.inl q)) (fun ho => by
    rw [own_two hl] at ho
    exact ho.elim (fun q => hn (.inr q)) (fun q => (hnew b hb q).elim))⟩
  refine ⟨v, _, φ ++ φ', _, rfl, ⟨rfl, rfl⟩, ⟨?_, ?_, ?_, ?_⟩, ?_, ?_, Ext.append _ _, by simp, ?_⟩
  · simp [hl, hs'.len]
  · intro i j e es e' es' g o o' hi hj hgi hgj
    rcases get_two hi with ⟨a1, a2⟩ | ⟨es1, a1, _, a2⟩ <;> rcases get_two hj with ⟨b1, b2⟩ | ⟨es2, b1, _, b2⟩
    · rw [List.getElem?_append_left (by omega)] at hgi hgj
      exact hs.inj i j e es e' es' g o o' a1 b1 hgi hgj
    · rw [List.getElem?_append_left (by omega)] at hgi
      rw [List.getElem?_append_right (by omega), hl] at hgj
      exact (hnew g (hlow g ⟨i, e, es, o, a1, hgi⟩) ⟨_, _, _, _, b1, hgj⟩).elim
    · rw [List.getElem?_append_left (by omega)] at hgj
      rw [List.getElem?_append_right (by omega), hl] at hgi
      exact (hnew g (hlow g ⟨j, e', es', o', b1, hgj⟩) ⟨_, _, _, _, a1, hgi⟩).elim
    · rw [List.getElem?_append_right (by omega), hl] at hgi hgj
      have := hs'.inj _ _ _ _ _ _ _ _ _ a1 b1 hgi hgj
      omega
  · intro g hg
    rw [own_two hl] at hg
    exact hg.elim (hs.disj g) (hs'.disj g)
  · intro id e es hid
    rcases get_two hid with ⟨a1, a2⟩ | ⟨es1, a1, rfl, a2⟩
    · obtain ⟨g, o, cs, t, h1, h2, h3, h4⟩ := hs.live id e es a1
      refine ⟨g, o, cs, t, by rw [List.getElem?_append_left (by omega)]; exact h1, ?_, h3, fun i l hil => ⟨(h4 i l hil).1, fun j c hc => ?_⟩⟩
      · rw [hfr.block g (Array.getElem?_eq_some_iff.1 h2).1 (fun h => h)]; exact h2
      · obtain ⟨h5, y, h6, h7⟩ := (h4 i l hil).2 j c hc
        exact ⟨h5, y, h6, VS.keeps hk hfr.sizes (Ext.append _ _) _ _ h7⟩
    · obtain ⟨g, o, cs, t, h1, h2, h3, h4⟩ := hs'.live _ e es1 a1
      refine ⟨g, o, cs, t, by rw [List.getElem?_append_right (by omega), hl]; exact h1, h2, by simpa using h3, fun i l hil => ?_⟩
      rw [List.getElem?_map] at hil
      cases hq : es1[i]? with
      | none => rw [hq] at hil; simp at hil
      | some l1 =>
        rw [hq] at hil
        simp only [Option.map_some, Option.some.injEq] at hil
        subst hil
        refine ⟨by rw [shiftL_length]; exact (h4 i l1 hq).1, fun j c hc => ?_⟩
        rw [shiftL_get] at hc
        cases hq2 : l1[j]? with
        | none => rw [hq2] at hc; simp at hc
        | some c1 =>
          rw [hq2] at hc
          simp only [Option.map_some, Option.some.injEq] at hc
          subst hc
          obtain ⟨h5, y, h6, h7⟩ := (h4 i l1 hq).2 j c1 hq2
          refine ⟨by rw [shift_one]; exact h5, y, h6, ?_⟩
          have hsc : c1.scl = true := hR _ (List.mem_of_getElem? a1) l1 (List.mem_of_getElem? hq) c1 (List.mem_of_getElem? hq2)
          have := VS.shift (own := owned X (φ ++ φ') (H ++ H'.map (Place.shift H.length))) φ φ' c1 y (scl_any c1 y hsc h7)
          rw [hl] at this
          exact this
  · have := VS.shift (own := owned X (φ ++ φ') (H ++ H'.map (Place.shift H.length))) φ φ' _ v (scl_any _ v hr hv')
    rw [hl] at this
    exact this
  · exact ⟨hfr.os, hfr.tape, hfr.output, hfr.size, fun b hb _ => hfr.block b hb (fun h => h), hfr.sizes⟩
  · intro g hg ho
    rw [own_two hl] at ho
    exact ho.elim (fun h => h) (fun h => (hnew g hg h).elim)

mutual
theorem shift_zero : ∀ (c : V), c.shift 0 = c
  | .d x => rfl
  | .ptr id e i j => by simp [V.shift]
  | .sl id e off n => by simp [V.shift]
  | .agg l => by simp [V.shift, shiftL_zero l]
  | .tup l => by simp [V.shift, shiftL_zero l]
  | .clo f l => by simp [V.shift, shiftL_zero l]
theorem shiftL_zero : ∀ (l : List V), shiftL 0 l = l
  | [] => rfl
  | c :: l => by simp [shiftL, shift_zero c, shiftL_zero l]
end
theorem place_shift_zero (p : Place) : p.shift 0 = p := by
  cases p with
  | dead => rfl
  | row e es =>
    simp only [Place.shift]
    congr 1
    have : shiftL 0 = id := by funext l; exact shiftL_zero l
    rw [this, List.map_id]
theorem answers_nil {r : V} {R : Heap} {r' : V} {H' : Heap} (h : answers r R [] r' H') : r' = r ∧ H' = R := by
  unfold answers at h
  split at h
  · exact h
  · obtain ⟨h1, h2⟩ := h
    have : Place.shift 0 = id := by funext p; exact place_shift_zero p
    simp only [List.length_nil, List.nil_append, this, List.map_id] at h1 h2
    exact ⟨by rw [h1, shift_zero], h2⟩
theorem PureP.ans {P : Program} {f : FuncId} {vs : List V} {r : V} (h : PureP P f vs (· = r)) : CallsD P f vs [] fun r' H' => r' = r ∧ H' = [] := h.mono fun _ _ q => ⟨q.2, q.1⟩
theorem CallsD.ans {P : Program} {f : FuncId} {vs : List V} {r : V} {S : Heap} (h : CallsD P f vs [] (answers r S [])) : CallsD P f vs [] fun r' H' => r' = r ∧ H' = S := h.mono fun _ _ q => answers_nil q
/-- What a callee answers that has read the caller's places. -/
noncomputable def peekR (c : Prop) (r : V) (S H : Heap) : R := guardR (c ∧ r.scl = true ∧ SclH S) (.ok (r.shift H.length) (H ++ S.map (Place.shift H.length)))

/-! ### What a place's row holds, as data of Lean -/
class Dec (α : Type) [Enc α] where
  dec : Heap → List V → Prop × α
  ok : ∀ (H : Heap) (l : List V), (dec H l).1 → ∀ (X : Nat → Prop) (w : World) (φ : List (Nat × Nat)) (xs : List Value), HS X w φ H → VSs w (owned X φ H) φ l xs →
    l.length = Enc.size α ∧ ∀ j v, xs[j]? = some v → DS w X (Enc.cells (dec H l).2 j) v

@[reducible] instance decInt : Dec Int where
  dec _ l := match l with | [.d (.int .i64 n)] => (True, n) | _ => (False, 0)
  ok H l h X w φ xs hs hv := by
    split at h
    · obtain ⟨v, vs', rfl, h2, h3⟩ := hv
      have : vs' = [] := h3
      subst this
      refine ⟨rfl, fun j u hu => ?_⟩
      match j, hu with
      | 0, hu => simp at hu; subst hu; exact h2
    · exact h.elim
@[reducible] instance decBool : Dec Bool where
  dec _ l := match l with | [.d (.bool n)] => (True, n) | _ => (False, false)
  ok H l h X w φ xs hs hv := by
    split at h
    · obtain ⟨v, vs', rfl, h2, h3⟩ := hv
      have : vs' = [] := h3
      subst this
      refine ⟨rfl, fun j u hu => ?_⟩
      match j, hu with
      | 0, hu => simp at hu; subst hu; exact h2
    · exact h.elim
@[reducible] instance decStr : Dec ByteArray where
  dec _ l := match l with | [.d (.str n)] => (True, n) | _ => (False, default)
  ok H l h X w φ xs hs hv := by
    split at h
    · obtain ⟨v, vs', rfl, h2, h3⟩ := hv
      have : vs' = [] := h3
      subst this
      refine ⟨rfl, fun j u hu => ?_⟩
      match j, hu with
      | 0, hu => simp at hu; subst hu; exact h2
    · exact h.elim
@[reducible] instance decList {α : Type} [Enc α] [Dec α] [Inhabited α] : Dec (List α) where
  dec H l := match l with
    | [.sl id e off n] => match H[id]? with
      | some (.row e' es) => ((e = Enc.size α ∧ e' = e) ∧ off + n ≤ es.length ∧ ∀ r ∈ (es.drop off).take n, (Dec.dec (α := α) H r).1, ((es.drop off).take n).map fun r => (Dec.dec (α := α) H r).2)
      | _ => (False, [])
    | [.d x] => (DLe x (Enc.cells (Enc.un (α := List α) fun _ => x) 0), Enc.un fun _ => x)
    | _ => (False, [])
  ok H l h X w φ xs hs hv := by
    split at h
    · rename_i id e off n
      split at h
      · rename_i e' es hid
        simp only [hid]
        obtain ⟨⟨rfl, rfl⟩, hlen, hel⟩ := h
        obtain ⟨v, vs', rfl, h2, h3⟩ := hv
        have : vs' = [] := h3
        subst this
        refine ⟨rfl, fun j u hu => ?_⟩
        match j, hu with
        | 0, hu =>
          simp at hu
          subst hu
          obtain ⟨g, o, A, cap, hφ, rfl, hcap, hA, hroom⟩ := h2
          obtain ⟨g', o', cs, t, q1, q2, q3, q4⟩ := hs.live id _ es hid
          rw [hφ] at q1
          obtain ⟨rfl, rfl⟩ := Prod.mk.inj (Option.some.inj q1)
          have hl : (((es.drop off).take n).map fun r => (Dec.dec (α := α) H r).2).length = n := by simp; omega
          refine ⟨some A, cap, by rw [hl], by rw [hl]; exact hcap, fun i j hi hj => ?_⟩
          rw [hl] at hi
          refine ⟨A, rfl, ?_, ?_⟩
          · rw [hA.resolve_left (by omega)]
            exact fun hx => hs.disj g ⟨id, _, es, o, hid, hφ⟩ hx
          · have hlt : off + i < es.length := by omega
            have hget : ((es.drop off).take n)[i]? = some es[off + i] := by
              rw [List.getElem?_take, if_pos hi, List.getElem?_drop, List.getElem?_eq_getElem hlt]
            obtain ⟨r1, r2⟩ := q4 (off + i) es[off + i] (List.getElem?_eq_getElem hlt)
            have hd := hel _ (List.mem_of_getElem? hget)
            obtain ⟨ys, hys1, hys2⟩ := exists_list (es[off + i].length) (fun j y => cs[o + (off + i) * Enc.size α + j]? = some y ∧ ∃ c, es[off + i][j]? = some c ∧ VS w (owned X φ H) φ c y) (fun j hj => by
              obtain ⟨_, y, hy, hyv⟩ := r2 j _ (List.getElem?_eq_getElem hj)
              exact ⟨y, hy, _, List.getElem?_eq_getElem hj, hyv⟩)
            have := Dec.ok (α := α) H _ hd X w φ ys hs (VSs_of _ _ hys1.symm fun j c y hc hy => by
              obtain ⟨_, c', hc', hv'⟩ := hys2 j y hy
              rw [hc] at hc'
              cases hc'
              exact hv')
            have hjy : j < ys.length := by rw [hys1, r1]; exact hj
            obtain ⟨p1, _⟩ := hys2 j _ (List.getElem?_eq_getElem hjy)
            refine ⟨ys[j], ?_, ?_⟩
            · rw [hA.resolve_left (by omega), add_plain', cell_of_row w g _ cs t _ q2, ← p1]
              congr 1
              rw [Nat.add_mul]
              omega
            · have := this.2 j _ (List.getElem?_eq_getElem hjy)
              show DS w X (Enc.cells ((List.map (fun r => (Dec.dec (α := α) H r).2) (List.take n (List.drop off es)))[i]?.getD default) j) ys[j]
              rw [List.getElem?_map, hget]
              exact this
      · exact h.elim
    · rename_i x
      obtain ⟨v, vs', rfl, h2, h3⟩ := hv
      have : vs' = [] := h3
      subst this
      refine ⟨rfl, fun j u hu => ?_⟩
      match j, hu with
      | 0, hu =>
        simp at hu
        subst hu
        exact DS.le _ _ _ h (DS.keeps (fun b _ hn => ⟨rfl, fun hx => hn (.inl hx)⟩) _ _ h2)
    · exact h.elim

theorem VS.argV_of {α : Type} [Enc α] [Shaped α] {w : World} {X : Nat → Prop} {a : α} {x : V} {v : Value} {φ : List (Nat × Nat)} {own : Nat → Prop} (hsh : match x with | .agg _ => Enc.agg α = true | .tup _ => False | _ => Enc.agg α = false)
    (hv : VS w own φ x v) (h : ∀ xs : List Value, VSs w own φ x.flat xs → x.flat.length = Enc.size α ∧ ∀ j u, xs[j]? = some u → DS w X (Enc.cells a j) u) : VS w X [] (argV a) v := by
  have one : Enc.agg α = false → VSs w own φ [x] [v] → x.flat = [x] → VS w X [] (argV a) v := by
    intro ha hv1 hfl
    rw [hfl] at h
    have := (h [v] hv1).2 0 v rfl
    simp only [argV, ha, cond_false, VS]
    exact this
  cases x with
  | agg l =>
    simp only [] at hsh
    obtain ⟨cs, rfl, hcs⟩ := hv
    obtain ⟨h1, h2⟩ := h cs.toList hcs
    simp only [argV, hsh, cond_true, VS]
    refine ⟨cs, rfl, ?_⟩
    have hlen := VSs.length _ _ hcs
    have := VSs.of_cells (w := w) (own := X) (φ := []) (f := Enc.cells a) (Enc.size α) 0 cs.toList (by rw [← hlen]; exact h1) fun j u hu => by rw [Nat.zero_add]; exact h2 j u hu
    rwa [← List.range_eq_range'] at this
  | tup l => exact hsh.elim
  | d y => exact one hsh ⟨v, [], rfl, hv, rfl⟩ rfl
  | ptr a b c d => exact one hsh ⟨v, [], rfl, hv, rfl⟩ rfl
  | sl a b c d => exact one hsh ⟨v, [], rfl, hv, rfl⟩ rfl
  | clo f l => exact one hsh ⟨v, [], rfl, hv, rfl⟩ rfl

/-- An argument that may refer to places, as data of Lean. -/
def decA {α : Type} [Enc α] [Dec α] (H : Heap) (x : V) : Prop × α :=
  (((match x with | .agg _ => Enc.agg α = true | .tup _ => False | _ => Enc.agg α = false) ∧ (Dec.dec (α := α) H x.flat).1), (Dec.dec (α := α) H x.flat).2)
theorem decA_ok {α : Type} [Enc α] [Shaped α] [Dec α] {H : Heap} {x : V} (h : (decA (α := α) H x).1) {X : Nat → Prop} {w : World} {φ : List (Nat × Nat)} {v : Value} (hs : HS X w φ H) (hv : VS w (owned X φ H) φ x v) :
    VS w X [] (argV (decA (α := α) H x).2) v :=
  VS.argV_of h.1 hv fun xs hxs => Dec.ok H _ h.2 X w φ xs hs hxs

@[reducible] instance decPtr {α : Type} [Enc α] [Dec α] [Inhabited α] : Dec (Ptr α) where
  dec H l := match l with
    | [.ptr id e i j] => match H[id]? with
      | some (.row e' es) => ((e' = e ∧ j + Enc.size α ≤ e) ∧ i < es.length ∧ (Dec.dec (α := α) H ((((es[i]?).getD []).drop j).take (Enc.size α))).1, ⟨(Dec.dec (α := α) H ((((es[i]?).getD []).drop j).take (Enc.size α))).2⟩)
      | _ => (False, default)
    | [.d x] => (DLe x (Enc.cells (Enc.un (α := Ptr α) fun _ => x) 0), Enc.un fun _ => x)
    | _ => (False, default)
  ok H l h X w φ xs hs hv := by
    split at h
    · rename_i id e i j0
      split at h
      · rename_i e' es hid
        simp only [hid]
        obtain ⟨⟨rfl, hsz⟩, hi, hd⟩ := h
        obtain ⟨v, vs', rfl, h2, h3⟩ := hv
        have : vs' = [] := h3
        subst this
        refine ⟨rfl, fun j u hu => ?_⟩
        match j, hu with
        | 0, hu =>
          simp at hu
          subst hu
          obtain ⟨g, o, hφ, rfl⟩ := h2
          obtain ⟨g', o', cs, t, q1, q2, q3, q4⟩ := hs.live id _ es hid
          rw [hφ] at q1
          obtain ⟨rfl, rfl⟩ := Prod.mk.inj (Option.some.inj q1)
          obtain ⟨r1, r2⟩ := q4 i es[i] (List.getElem?_eq_getElem hi)
          have hgi : (es[i]?).getD [] = es[i] := by rw [List.getElem?_eq_getElem hi]; rfl
          rw [hgi] at hd ⊢
          have hlen : ((es[i].drop j0).take (Enc.size α)).length = Enc.size α := by rw [List.length_take, List.length_drop, r1]; omega
          obtain ⟨ys, hys1, hys2⟩ := exists_list (Enc.size α) (fun j y => cs[o + i * e' + (j0 + j)]? = some y ∧ ∃ c, ((es[i].drop j0).take (Enc.size α))[j]? = some c ∧ VS w (owned X φ H) φ c y) (fun j hj => by
            have hlt : j0 + j < es[i].length := by omega
            obtain ⟨_, y, hy, hyv⟩ := r2 (j0 + j) _ (List.getElem?_eq_getElem hlt)
            refine ⟨y, hy, es[i][j0 + j], ?_, hyv⟩
            rw [List.getElem?_take, if_pos hj, List.getElem?_drop, List.getElem?_eq_getElem hlt])
          have := Dec.ok (α := α) H _ hd X w φ ys hs (VSs_of _ _ (by rw [hlen, hys1]) fun j c y hc hy => by
            obtain ⟨_, c', hc', hv'⟩ := hys2 j y hy
            rw [hc] at hc'
            cases hc'
            exact hv')
          refine ⟨_, rfl, fun j hj => ⟨fun hx => hs.disj g ⟨id, _, es, o, hid, hφ⟩ hx, ?_⟩⟩
          have hjy : j < ys.length := by omega
          obtain ⟨p1, _⟩ := hys2 j _ (List.getElem?_eq_getElem hjy)
          refine ⟨ys[j], ?_, this.2 j _ (List.getElem?_eq_getElem hjy)⟩
          rw [add_plain', cell_of_row w g _ cs t _ q2, ← p1]
          congr 1
          omega
      · exact h.elim
    · rename_i x
      obtain ⟨v, vs', rfl, h2, h3⟩ := hv
      have : vs' = [] := h3
      subst this
      refine ⟨rfl, fun j u hu => ?_⟩
      match j, hu with
      | 0, hu =>
        simp at hu
        subst hu
        exact DS.le _ _ _ h (DS.keeps (fun b _ hn => ⟨rfl, fun hx => hn (.inl hx)⟩) _ _ h2)
    · exact h.elim

/-! ### What a walk reckons of these -/
theorem un_self {α : Type} [Enc α] [Shaped α] (a : α) (h : Enc.agg α = false) : (Enc.un (α := α) fun _ => Enc.cells a 0) = a :=
  Enc.un_of a _ fun j hj => by
    have := Shaped.one (α := α) h
    have : j = 0 := by omega
    rw [this]
section
variable {α : Type} [Enc α] [Dec α] [Inhabited α] {H : Heap}
theorem dec_int {n : Int} : Dec.dec (α := Int) H [.d (.int .i64 n)] = (True, n) := rfl
theorem dec_bool {n : Bool} : Dec.dec (α := Bool) H [.d (.bool n)] = (True, n) := rfl
theorem dec_str {n : ByteArray} : Dec.dec (α := ByteArray) H [.d (.str n)] = (True, n) := rfl
theorem dec_sl {id e off n : Nat} : Dec.dec (α := List α) H [.sl id e off n] = (match H[id]? with
      | some (.row e' es) => ((e = Enc.size α ∧ e' = e) ∧ off + n ≤ es.length ∧ ∀ r ∈ (es.drop off).take n, (Dec.dec (α := α) H r).1, ((es.drop off).take n).map fun r => (Dec.dec (α := α) H r).2)
      | _ => (False, [])) := rfl
theorem dec_ro {l : List α} : Dec.dec (α := List α) H [.d (.ro (Enc.size α) l.length fun i j => Enc.cells (l[i]?.getD default) j)] = (True, l) := by
  have := un_self (α := List α) l rfl
  show (DLe _ (Enc.cells (Enc.un (α := List α) fun _ => Enc.cells l 0) 0), Enc.un (α := List α) fun _ => Enc.cells l 0) = _
  rw [this]
  exact congrArg (fun p => (p, l)) (eq_true (DLe.refl _))
theorem dec_nilsl : Dec.dec (α := List α) H [.d .nilsl] = (True, []) := by
  show (DLe .nilsl (.ro (Enc.size α) 0 _), ([] : List α)) = _
  simp [DLe]
theorem dec_ptr {id e i j : Nat} : Dec.dec (α := Ptr α) H [.ptr id e i j] = (match H[id]? with
      | some (.row e' es) => ((e' = e ∧ j + Enc.size α ≤ e) ∧ i < es.length ∧ (Dec.dec (α := α) H ((((es[i]?).getD []).drop j).take (Enc.size α))).1, ⟨(Dec.dec (α := α) H ((((es[i]?).getD []).drop j).take (Enc.size α))).2⟩)
      | _ => (False, default)) := rfl
theorem dec_rp {p : Ptr α} : Dec.dec (α := Ptr α) H [.d (.rp (Enc.size α) (Enc.cells p.v))] = (True, p) := by
  have := un_self (α := Ptr α) p rfl
  show (DLe _ (Enc.cells (Enc.un (α := Ptr α) fun _ => Enc.cells p 0) 0), Enc.un (α := Ptr α) fun _ => Enc.cells p 0) = _
  rw [this]
  exact congrArg (fun q => (q, p)) (eq_true (DLe.refl _))
end
attribute [simp] dec_int dec_bool dec_str dec_sl dec_nilsl dec_ptr decA D.scl V.scl sclL SclH peekR

section
variable {α β γ δ ε ζ ρ : Type} [Enc α] [Enc β] [Enc γ] [Enc δ] [Enc ε] [Enc ζ] [Shaped α] [Shaped β] [Shaped γ] [Shaped δ] [Shaped ε] [Shaped ζ] [Dec α] [Dec β] [Dec γ] [Dec δ] [Dec ε] [Dec ζ] {P : Program}
theorem peekR_ok {f : FuncId} {c : Prop} {r : V} {S H : Heap} {vs vs' : List V} {k : V → Heap → Prop} (h : (peekR c r S H).holds P k) (hr : Reads1 H vs vs') (hc : c → CallsD P f vs' [] fun r' H' => r' = r ∧ H' = S) : CallsD P f vs H k := by
  unfold peekR at h
  rw [guardR_holds] at h
  obtain ⟨⟨h1, h2, h3⟩, h4⟩ := h
  exact (CallsD.peek (hc h1) hr h2 h3).mono fun r' H' ⟨e1, e2⟩ => by rw [e1, e2]; exact h4

noncomputable def EntH.pk1 (f : FuncId) (c : α → Prop) (r : α → V) (S : α → Heap) (h : ∀ a1, c a1 → CallsD P f [argV a1] [] fun r' H' => r' = r a1 ∧ H' = S a1) : EntH P :=
  ⟨f, fun vs H => match vs with
    | [x1] => guardR ((decA (α := α) H x1).1) (peekR (c (decA (α := α) H x1).2) (r (decA (α := α) H x1).2) (S (decA (α := α) H x1).2) H)
    | _ => .bad, by
    intro vs H k hk
    split at hk
    · rw [guardR_holds] at hk
      obtain ⟨hc, hk⟩ := hk
      refine peekR_ok hk ?_ (h _ )
      intro X w φ xs hs hv
      obtain ⟨_, _, rfl, hv1, hvn⟩ := hv
      have : _ = [] := hvn
      subst this
      exact ⟨_, _, rfl, decA_ok hc hs hv1, rfl⟩
    · exact hk.elim, true, by
    intro _ vs H k hk
    split at hk
    · rw [guardR_holds] at hk
      obtain ⟨hc, hk⟩ := hk
      unfold peekR at hk
      rw [guardR_holds] at hk
      refine ⟨_, _, fun k' hk' => ?_, hk.2⟩
      rw [guardR_holds]
      unfold peekR
      rw [guardR_holds]
      exact ⟨hc, hk.1, hk'⟩
    · exact hk.elim⟩
theorem EntH.pk1_eq {f : FuncId} {c : α → Prop} {r : α → V} {S : α → Heap} {h : ∀ a1, c a1 → CallsD P f [argV a1] [] fun r' H' => r' = r a1 ∧ H' = S a1} {x1 : V} {H : Heap} :
    (EntH.pk1 f c r S h).e [x1] H = guardR ((decA (α := α) H x1).1) (peekR (c (decA (α := α) H x1).2) (r (decA (α := α) H x1).2) (S (decA (α := α) H x1).2) H) := rfl

noncomputable def EntH.pk2 (f : FuncId) (c : α → β → Prop) (r : α → β → V) (S : α → β → Heap) (h : ∀ a1 a2, c a1 a2 → CallsD P f [argV a1, argV a2] [] fun r' H' => r' = r a1 a2 ∧ H' = S a1 a2) : EntH P :=
  ⟨f, fun vs H => match vs with
    | [x1, x2] => guardR ((decA (α := α) H x1).1 ∧ (decA (α := β) H x2).1) (peekR (c (decA (α := α) H x1).2 (decA (α := β) H x2).2) (r (decA (α := α) H x1).2 (decA (α := β) H x2).2) (S (decA (α := α) H x1).2 (decA (α := β) H x2).2) H)
    | _ => .bad, by
    intro vs H k hk
    split at hk
    · rw [guardR_holds] at hk
      obtain ⟨hc, hk⟩ := hk
      refine peekR_ok hk ?_ (h _ _)
      intro X w φ xs hs hv
      obtain ⟨_, _, rfl, hv1, ⟨_, _, rfl, hv2, hvn⟩⟩ := hv
      have : _ = [] := hvn
      subst this
      exact ⟨_, _, rfl, decA_ok hc.1 hs hv1, ⟨_, _, rfl, decA_ok hc.2 hs hv2, rfl⟩⟩
    · exact hk.elim, true, by
    intro _ vs H k hk
    split at hk
    · rw [guardR_holds] at hk
      obtain ⟨hc, hk⟩ := hk
      unfold peekR at hk
      rw [guardR_holds] at hk
      refine ⟨_, _, fun k' hk' => ?_, hk.2⟩
      rw [guardR_holds]
      unfold peekR
      rw [guardR_holds]
      exact ⟨hc, hk.1, hk'⟩
    · exact hk.elim⟩
theorem EntH.pk2_eq {f : FuncId} {c : α → β → Prop} {r : α → β → V} {S : α → β → Heap} {h : ∀ a1 a2, c a1 a2 → CallsD P f [argV a1, argV a2] [] fun r' H' => r' = r a1 a2 ∧ H' = S a1 a2} {x1 x2 : V} {H : Heap} :
    (EntH.pk2 f c r S h).e [x1, x2] H = guardR ((decA (α := α) H x1).1 ∧ (decA (α := β) H x2).1) (peekR (c (decA (α := α) H x1).2 (decA (α := β) H x2).2) (r (decA (α := α) H x1).2 (decA (α := β) H x2).2) (S (decA (α := α) H x1).2 (decA (α := β) H x2).2) H) := rfl

noncomputable def EntH.pk3 (f : FuncId) (c : α → β → γ → Prop) (r : α → β → γ → V) (S : α → β → γ → Heap) (h : ∀ a1 a2 a3, c a1 a2 a3 → CallsD P f [argV a1, argV a2, argV a3] [] fun r' H' => r' = r a1 a2 a3 ∧ H' = S a1 a2 a3) : EntH P :=
  ⟨f, fun vs H => match vs with
    | [x1, x2, x3] => guardR ((decA (α := α) H x1).1 ∧ (decA (α := β) H x2).1 ∧ (decA (α := γ) H x3).1) (peekR (c (decA (α := α) H x1).2 (decA (α := β) H x2).2 (decA (α := γ) H x3).2) (r (decA (α := α) H x1).2 (decA (α := β) H x2).2 (decA (α := γ) H x3).2) (S (decA (α := α) H x1).2 (decA (α := β) H x2).2 (decA (α := γ) H x3).2) H)
    | _ => .bad, by
    intro vs H k hk
    split at hk
    · rw [guardR_holds] at hk
      obtain ⟨hc, hk⟩ := hk
      refine peekR_ok hk ?_ (h _ _ _)
      intro X w φ xs hs hv
      obtain ⟨_, _, rfl, hv1, ⟨_, _, rfl, hv2, ⟨_, _, rfl, hv3, hvn⟩⟩⟩ := hv
      have : _ = [] := hvn
      subst this
      exact ⟨_, _, rfl, decA_ok hc.1 hs hv1, ⟨_, _, rfl, decA_ok hc.2.1 hs hv2, ⟨_, _, rfl, decA_ok hc.2.2 hs hv3, rfl⟩⟩⟩
    · exact hk.elim, true, by
    intro _ vs H k hk
    split at hk
    · rw [guardR_holds] at hk
      obtain ⟨hc, hk⟩ := hk
      unfold peekR at hk
      rw [guardR_holds] at hk
      refine ⟨_, _, fun k' hk' => ?_, hk.2⟩
      rw [guardR_holds]
      unfold peekR
      rw [guardR_holds]
      exact ⟨hc, hk.1, hk'⟩
    · exact hk.elim⟩
theorem EntH.pk3_eq {f : FuncId} {c : α → β → γ → Prop} {r : α → β → γ → V} {S : α → β → γ → Heap} {h : ∀ a1 a2 a3, c a1 a2 a3 → CallsD P f [argV a1, argV a2, argV a3] [] fun r' H' => r' = r a1 a2 a3 ∧ H' = S a1 a2 a3} {x1 x2 x3 : V} {H : Heap} :
    (EntH.pk3 f c r S h).e [x1, x2, x3] H = guardR ((decA (α := α) H x1).1 ∧ (decA (α := β) H x2).1 ∧ (decA (α := γ) H x3).1) (peekR (c (decA (α := α) H x1).2 (decA (α := β) H x2).2 (decA (α := γ) H x3).2) (r (decA (α := α) H x1).2 (decA (α := β) H x2).2 (decA (α := γ) H x3).2) (S (decA (α := α) H x1).2 (decA (α := β) H x2).2 (decA (α := γ) H x3).2) H) := rfl

noncomputable def EntH.pk4 (f : FuncId) (c : α → β → γ → δ → Prop) (r : α → β → γ → δ → V) (S : α → β → γ → δ → Heap) (h : ∀ a1 a2 a3 a4, c a1 a2 a3 a4 → CallsD P f [argV a1, argV a2, argV a3, argV a4] [] fun r' H' => r' = r a1 a2 a3 a4 ∧ H' = S a1 a2 a3 a4) : EntH P :=
  ⟨f, fun vs H => match vs with
    | [x1, x2, x3, x4] => guardR ((decA (α := α) H x1).1 ∧ (decA (α := β) H x2).1 ∧ (decA (α := γ) H x3).1 ∧ (decA (α := δ) H x4).1) (peekR (c (decA (α := α) H x1).2 (decA (α := β) H x2).2 (decA (α := γ) H x3).2 (decA (α := δ) H x4).2) (r (decA (α := α) H x1).2 (decA (α := β) H x2).2 (decA (α := γ) H x3).2 (decA (α := δ) H x4).2) (S (decA (α := α) H x1).2 (decA (α := β) H x2).2 (decA (α := γ) H x3).2 (decA (α := δ) H x4).2) H)
    | _ => .bad, by
    intro vs H k hk
    split at hk
    · rw [guardR_holds] at hk
      obtain ⟨hc, hk⟩ := hk
      refine peekR_ok hk ?_ (h _ _ _ _)
      intro X w φ xs hs hv
      obtain ⟨_, _, rfl, hv1, ⟨_, _, rfl, hv2, ⟨_, _, rfl, hv3, ⟨_, _, rfl, hv4, hvn⟩⟩⟩⟩ := hv
      have : _ = [] := hvn
      subst this
      exact ⟨_, _, rfl, decA_ok hc.1 hs hv1, ⟨_, _, rfl, decA_ok hc.2.1 hs hv2, ⟨_, _, rfl, decA_ok hc.2.2.1 hs hv3, ⟨_, _, rfl, decA_ok hc.2.2.2 hs hv4, rfl⟩⟩⟩⟩
    · exact hk.elim, true, by
    intro _ vs H k hk
    split at hk
    · rw [guardR_holds] at hk
      obtain ⟨hc, hk⟩ := hk
      unfold peekR at hk
      rw [guardR_holds] at hk
      refine ⟨_, _, fun k' hk' => ?_, hk.2⟩
      rw [guardR_holds]
      unfold peekR
      rw [guardR_holds]
      exact ⟨hc, hk.1, hk'⟩
    · exact hk.elim⟩
theorem EntH.pk4_eq {f : FuncId} {c : α → β → γ → δ → Prop} {r : α → β → γ → δ → V} {S : α → β → γ → δ → Heap} {h : ∀ a1 a2 a3 a4, c a1 a2 a3 a4 → CallsD P f [argV a1, argV a2, argV a3, argV a4] [] fun r' H' => r' = r a1 a2 a3 a4 ∧ H' = S a1 a2 a3 a4} {x1 x2 x3 x4 : V} {H : Heap} :
    (EntH.pk4 f c r S h).e [x1, x2, x3, x4] H = guardR ((decA (α := α) H x1).1 ∧ (decA (α := β) H x2).1 ∧ (decA (α := γ) H x3).1 ∧ (decA (α := δ) H x4).1) (peekR (c (decA (α := α) H x1).2 (decA (α := β) H x2).2 (decA (α := γ) H x3).2 (decA (α := δ) H x4).2) (r (decA (α := α) H x1).2 (decA (α := β) H x2).2 (decA (α := γ) H x3).2 (decA (α := δ) H x4).2) (S (decA (α := α) H x1).2 (decA (α := β) H x2).2 (decA (α := γ) H x3).2 (decA (α := δ) H x4).2) H) := rfl

noncomputable def EntH.pk5 (f : FuncId) (c : α → β → γ → δ → ε → Prop) (r : α → β → γ → δ → ε → V) (S : α → β → γ → δ → ε → Heap) (h : ∀ a1 a2 a3 a4 a5, c a1 a2 a3 a4 a5 → CallsD P f [argV a1, argV a2, argV a3, argV a4, argV a5] [] fun r' H' => r' = r a1 a2 a3 a4 a5 ∧ H' = S a1 a2 a3 a4 a5) : EntH P :=
  ⟨f, fun vs H => match vs with
    | [x1, x2, x3, x4, x5] => guardR ((decA (α := α) H x1).1 ∧ (decA (α := β) H x2).1 ∧ (decA (α := γ) H x3).1 ∧ (decA (α := δ) H x4).1 ∧ (decA (α := ε) H x5).1) (peekR (c (decA (α := α) H x1).2 (decA (α := β) H x2).2 (decA (α := γ) H x3).2 (decA (α := δ) H x4).2 (decA (α := ε) H x5).2) (r (decA (α := α) H x1).2 (decA (α := β) H x2).2 (decA (α := γ) H x3).2 (decA (α := δ) H x4).2 (decA (α := ε) H x5).2) (S (decA (α := α) H x1).2 (decA (α := β) H x2).2 (decA (α := γ) H x3).2 (decA (α := δ) H x4).2 (decA (α := ε) H x5).2) H)
    | _ => .bad, by
    intro vs H k hk
    split at hk
    · rw [guardR_holds] at hk
      obtain ⟨hc, hk⟩ := hk
      refine peekR_ok hk ?_ (h _ _ _ _ _)
      intro X w φ xs hs hv
      obtain ⟨_, _, rfl, hv1, ⟨_, _, rfl, hv2, ⟨_, _, rfl, hv3, ⟨_, _, rfl, hv4, ⟨_, _, rfl, hv5, hvn⟩⟩⟩⟩⟩ := hv
      have : _ = [] := hvn
      subst this
      exact ⟨_, _, rfl, decA_ok hc.1 hs hv1, ⟨_, _, rfl, decA_ok hc.2.1 hs hv2, ⟨_, _, rfl, decA_ok hc.2.2.1 hs hv3, ⟨_, _, rfl, decA_ok hc.2.2.2.1 hs hv4, ⟨_, _, rfl, decA_ok hc.2.2.2.2 hs hv5, rfl⟩⟩⟩⟩⟩
    · exact hk.elim, true, by
    intro _ vs H k hk
    split at hk
    · rw [guardR_holds] at hk
      obtain ⟨hc, hk⟩ := hk
      unfold peekR at hk
      rw [guardR_holds] at hk
      refine ⟨_, _, fun k' hk' => ?_, hk.2⟩
      rw [guardR_holds]
      unfold peekR
      rw [guardR_holds]
      exact ⟨hc, hk.1, hk'⟩
    · exact hk.elim⟩
theorem EntH.pk5_eq {f : FuncId} {c : α → β → γ → δ → ε → Prop} {r : α → β → γ → δ → ε → V} {S : α → β → γ → δ → ε → Heap} {h : ∀ a1 a2 a3 a4 a5, c a1 a2 a3 a4 a5 → CallsD P f [argV a1, argV a2, argV a3, argV a4, argV a5] [] fun r' H' => r' = r a1 a2 a3 a4 a5 ∧ H' = S a1 a2 a3 a4 a5} {x1 x2 x3 x4 x5 : V} {H : Heap} :
    (EntH.pk5 f c r S h).e [x1, x2, x3, x4, x5] H = guardR ((decA (α := α) H x1).1 ∧ (decA (α := β) H x2).1 ∧ (decA (α := γ) H x3).1 ∧ (decA (α := δ) H x4).1 ∧ (decA (α := ε) H x5).1) (peekR (c (decA (α := α) H x1).2 (decA (α := β) H x2).2 (decA (α := γ) H x3).2 (decA (α := δ) H x4).2 (decA (α := ε) H x5).2) (r (decA (α := α) H x1).2 (decA (α := β) H x2).2 (decA (α := γ) H x3).2 (decA (α := δ) H x4).2 (decA (α := ε) H x5).2) (S (decA (α := α) H x1).2 (decA (α := β) H x2).2 (decA (α := γ) H x3).2 (decA (α := δ) H x4).2 (decA (α := ε) H x5).2) H) := rfl

noncomputable def EntH.pk6 (f : FuncId) (c : α → β → γ → δ → ε → ζ → Prop) (r : α → β → γ → δ → ε → ζ → V) (S : α → β → γ → δ → ε → ζ → Heap) (h : ∀ a1 a2 a3 a4 a5 a6, c a1 a2 a3 a4 a5 a6 → CallsD P f [argV a1, argV a2, argV a3, argV a4, argV a5, argV a6] [] fun r' H' => r' = r a1 a2 a3 a4 a5 a6 ∧ H' = S a1 a2 a3 a4 a5 a6) : EntH P :=
  ⟨f, fun vs H => match vs with
    | [x1, x2, x3, x4, x5, x6] => guardR ((decA (α := α) H x1).1 ∧ (decA (α := β) H x2).1 ∧ (decA (α := γ) H x3).1 ∧ (decA (α := δ) H x4).1 ∧ (decA (α := ε) H x5).1 ∧ (decA (α := ζ) H x6).1) (peekR (c (decA (α := α) H x1).2 (decA (α := β) H x2).2 (decA (α := γ) H x3).2 (decA (α := δ) H x4).2 (decA (α := ε) H x5).2 (decA (α := ζ) H x6).2) (r (decA (α := α) H x1).2 (decA (α := β) H x2).2 (decA (α := γ) H x3).2 (decA (α := δ) H x4).2 (decA (α := ε) H x5).2 (decA (α := ζ) H x6).2) (S (decA (α := α) H x1).2 (decA (α := β) H x2).2 (decA (α := γ) H x3).2 (decA (α := δ) H x4).2 (decA (α := ε) H x5).2 (decA (α := ζ) H x6).2) H)
    | _ => .bad, by
    intro vs H k hk
    split at hk
    · rw [guardR_holds] at hk
      obtain ⟨hc, hk⟩ := hk
      refine peekR_ok hk ?_ (h _ _ _ _ _ _)
      intro X w φ xs hs hv
      obtain ⟨_, _, rfl, hv1, ⟨_, _, rfl, hv2, ⟨_, _, rfl, hv3, ⟨_, _, rfl, hv4, ⟨_, _, rfl, hv5, ⟨_, _, rfl, hv6, hvn⟩⟩⟩⟩⟩⟩ := hv
      have : _ = [] := hvn
      subst this
      exact ⟨_, _, rfl, decA_ok hc.1 hs hv1, ⟨_, _, rfl, decA_ok hc.2.1 hs hv2, ⟨_, _, rfl, decA_ok hc.2.2.1 hs hv3, ⟨_, _, rfl, decA_ok hc.2.2.2.1 hs hv4, ⟨_, _, rfl, decA_ok hc.2.2.2.2.1 hs hv5, ⟨_, _, rfl, decA_ok hc.2.2.2.2.2 hs hv6, rfl⟩⟩⟩⟩⟩⟩
    · exact hk.elim, true, by
    intro _ vs H k hk
    split at hk
    · rw [guardR_holds] at hk
      obtain ⟨hc, hk⟩ := hk
      unfold peekR at hk
      rw [guardR_holds] at hk
      refine ⟨_, _, fun k' hk' => ?_, hk.2⟩
      rw [guardR_holds]
      unfold peekR
      rw [guardR_holds]
      exact ⟨hc, hk.1, hk'⟩
    · exact hk.elim⟩
theorem EntH.pk6_eq {f : FuncId} {c : α → β → γ → δ → ε → ζ → Prop} {r : α → β → γ → δ → ε → ζ → V} {S : α → β → γ → δ → ε → ζ → Heap} {h : ∀ a1 a2 a3 a4 a5 a6, c a1 a2 a3 a4 a5 a6 → CallsD P f [argV a1, argV a2, argV a3, argV a4, argV a5, argV a6] [] fun r' H' => r' = r a1 a2 a3 a4 a5 a6 ∧ H' = S a1 a2 a3 a4 a5 a6} {x1 x2 x3 x4 x5 x6 : V} {H : Heap} :
    (EntH.pk6 f c r S h).e [x1, x2, x3, x4, x5, x6] H = guardR ((decA (α := α) H x1).1 ∧ (decA (α := β) H x2).1 ∧ (decA (α := γ) H x3).1 ∧ (decA (α := δ) H x4).1 ∧ (decA (α := ε) H x5).1 ∧ (decA (α := ζ) H x6).1) (peekR (c (decA (α := α) H x1).2 (decA (α := β) H x2).2 (decA (α := γ) H x3).2 (decA (α := δ) H x4).2 (decA (α := ε) H x5).2 (decA (α := ζ) H x6).2) (r (decA (α := α) H x1).2 (decA (α := β) H x2).2 (decA (α := γ) H x3).2 (decA (α := δ) H x4).2 (decA (α := ε) H x5).2 (decA (α := ζ) H x6).2) (S (decA (α := α) H x1).2 (decA (α := β) H x2).2 (decA (α := γ) H x3).2 (decA (α := δ) H x4).2 (decA (α := ε) H x5).2 (decA (α := ζ) H x6).2) H) := rfl

end

/-! ### Closures as data: which function, and what it holds -/
structure Clo1 (fn : Nat) (α : Type) where
  c : α
instance {fn : Nat} {α : Type} [Inhabited α] : Inhabited (Clo1 fn α) := ⟨⟨default⟩⟩
/-- The data that stand in one cell. -/
class One (α : Type) [Enc α] : Prop where
  size : Enc.size α = 1
  agg : Enc.agg α = false
instance : One Int := ⟨rfl, rfl⟩
instance : One Bool := ⟨rfl, rfl⟩
instance : One ByteArray := ⟨rfl, rfl⟩
instance {α : Type} [Enc α] [Inhabited α] : One (List α) := ⟨rfl, rfl⟩
instance {α : Type} [Enc α] : One (Ptr α) := ⟨rfl, rfl⟩
@[reducible] instance encClo1 {fn : Nat} {α : Type} [Enc α] : Enc (Clo1 fn α) where
  size := 1
  agg := false
  cells p _ := .clo fn 1 (Enc.cells p.c)
  good p := Enc.good p.c
  un f := match f 0 with | .clo _ _ g => ⟨Enc.un g⟩ | _ => ⟨Enc.un fun _ => .undef⟩
  un_of a f h := by
    rw [h 0 (by omega)]
    simp only []
    rw [Enc.un_of a.c _ fun j hj => rfl]
instance {fn : Nat} {α : Type} [Enc α] : Shaped (Clo1 fn α) := ⟨fun _ => rfl⟩
@[reducible] instance decClo1 {fn : Nat} {α : Type} [Enc α] [One α] [Dec α] [Inhabited α] : Dec (Clo1 fn α) where
  dec H l := match l with
    | [.clo f [x]] => (f = fn ∧ (Dec.dec (α := α) H [x]).1, ⟨(Dec.dec (α := α) H [x]).2⟩)
    | _ => (False, default)
  ok H l h X w φ xs hs hv := by
    split at h
    · rename_i f x
      obtain ⟨rfl, hd⟩ := h
      obtain ⟨v, vs', rfl, h2, h3⟩ := hv
      have : vs' = [] := h3
      subst this
      refine ⟨rfl, fun j u hu => ?_⟩
      match j, hu with
      | 0, hu =>
        simp at hu
        subst hu
        obtain ⟨cs, rfl, y, ys, e, g1, g2⟩ := h2
        have : ys = [] := g2
        subst this
        have q := Dec.ok (α := α) H _ hd X w φ [y] hs ⟨y, [], rfl, g1, rfl⟩
        have ecs : cs = #[y] := by apply Array.ext'; rw [e]
        subst ecs
        refine ⟨_, rfl, rfl, fun j hj => ?_⟩
        have : j = 0 := by omega
        subst this
        exact ⟨y, rfl, q.2 0 y rfl⟩
    · exact h.elim
@[simp] theorem dec_clo1 {fn f : Nat} {α : Type} [Enc α] [One α] [Dec α] [Inhabited α] {H : Heap} {x : V} : Dec.dec (α := Clo1 fn α) H [.clo f [x]] = (f = fn ∧ (Dec.dec (α := α) H [x]).1, ⟨(Dec.dec (α := α) H [x]).2⟩) := rfl
/-- Whole numbers of any kind. -/
structure KInt (k : IntKind) where
  v : Int
instance {k : IntKind} : Inhabited (KInt k) := ⟨⟨0⟩⟩
@[reducible] instance encK {k : IntKind} : Enc (KInt k) where
  size := 1
  agg := false
  cells n _ := .int k n.v
  good n := True
  un f := match f 0 with | .int _ n => ⟨n⟩ | _ => ⟨0⟩
  un_of a f h := by rw [h 0 (by omega)]
instance {k : IntKind} : Shaped (KInt k) := ⟨fun _ => rfl⟩
instance {k : IntKind} : One (KInt k) := ⟨rfl, rfl⟩
@[reducible] instance decK {k : IntKind} : Dec (KInt k) where
  dec _ l := match l with | [.d (.int k' n)] => (k' = k, ⟨n⟩) | _ => (False, ⟨0⟩)
  ok H l h X w φ xs hs hv := by
    split at h
    · simp only [] at h
      subst h
      obtain ⟨v, vs', rfl, h2, h3⟩ := hv
      have : vs' = [] := h3
      subst this
      refine ⟨rfl, fun j u hu => ?_⟩
      match j, hu with
      | 0, hu => simp at hu; subst hu; exact h2
    · exact h.elim
@[simp] theorem dec_k {k k' : IntKind} {n : Int} {H : Heap} : Dec.dec (α := KInt k) H [.d (.int k' n)] = (k' = k, ⟨n⟩) := rfl
@[simp] theorem agg_k {k : IntKind} : Enc.agg (KInt k) = false := rfl
@[simp] theorem size_k {k : IntKind} : Enc.size (KInt k) = 1 := rfl
section
variable {α : Type} [Enc α]
@[simp] theorem agg_int : Enc.agg Int = false := rfl
@[simp] theorem agg_bool : Enc.agg Bool = false := rfl
@[simp] theorem agg_str : Enc.agg ByteArray = false := rfl
@[simp] theorem agg_list [Inhabited α] : Enc.agg (List α) = false := rfl
@[simp] theorem agg_ptr : Enc.agg (Ptr α) = false := rfl
@[simp] theorem agg_clo {fn : Nat} : Enc.agg (Clo1 fn α) = false := rfl
@[simp] theorem size_int : Enc.size Int = 1 := rfl
@[simp] theorem size_bool : Enc.size Bool = 1 := rfl
@[simp] theorem size_str : Enc.size ByteArray = 1 := rfl
@[simp] theorem size_list [Inhabited α] : Enc.size (List α) = 1 := rfl
@[simp] theorem size_ptr : Enc.size (Ptr α) = 1 := rfl
@[simp] theorem size_clo {fn : Nat} : Enc.size (Clo1 fn α) = 1 := rfl
end
/-- The loops in a code, the outer ahead of the inner. -/
def loopsIn : Code → List Code
  | .seq a b => loopsIn a ++ loopsIn b
  | .cond _ a b => loopsIn a ++ loopsIn b
  | .block _ c => loopsIn c
  | .loop c => .loop c :: loopsIn c
  | _ => []
end Go.Proofs.Ytpakdkiceoknjaa
