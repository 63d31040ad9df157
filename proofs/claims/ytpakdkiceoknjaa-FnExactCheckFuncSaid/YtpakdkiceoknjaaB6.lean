/- The abstract machine, part 16: the walk's two recursions under lock: Lean's kernel is not to unfold what is yet to be walked. No condition. -/
import Derived.Test.YtpakdkiceoknjaaB4
import Derived.Laws.Wrap64
namespace Go.Proofs.Ytpakdkiceoknjaa

/-- The slots are brought to their plain form before the walk goes on. -/
def nrmE (e : Env) (H : Heap) (F : Env → Heap → Prop) : Prop := F e H
@[congr] theorem nrmE_congr {e e' : Env} {H H' : Heap} {F : Env → Heap → Prop} (h : ∀ _u : Unit, e = e') (h' : ∀ _u : Unit, H = H') : nrmE e H F = nrmE e' H' F := by rw [h (), h' ()]
@[simp] theorem nrmE_go {e : Env} {H : Heap} {F : Env → Heap → Prop} : nrmE e H F = F e H := rfl
theorem opsL_ex : ∃ f, f = @opsD := ⟨_, rfl⟩
noncomputable def opsL : Program → Table → List (Option Nat) → List SOp → Env → Heap → (Env → Heap → Prop) → Prop := Classical.choose opsL_ex
theorem opsL_eq : opsL = @opsD := Classical.choose_spec opsL_ex
theorem wpL_ex : ∃ f, f = @wpD := ⟨_, rfl⟩
noncomputable def wpL : Program → Table → Nat → Nat → List Nat → SCode → (Exit → St → Prop) → St → Prop := Classical.choose wpL_ex
theorem wpL_eq : wpL = @wpD := Classical.choose_spec wpL_ex

section
variable {P : Program} {Γ : Table} {N n0 : Nat} {K : List Nat}
@[simp ↓] theorem opsL_nil {all : List (Option Nat)} {env : Env} {H : Heap} {k : Env → Heap → Prop} : opsL P Γ all [] env H k = k env H := by
  rw [opsL_eq]; rfl
@[simp ↓] theorem opsL_plain {all : List (Option Nat)} {dst : Option Nat} {op : Op} {rest : List SOp} {env : Env} {H : Heap} {k : Env → Heap → Prop} :
    opsL P Γ all (⟨dst, op, none⟩ :: rest) env H k = opD P Γ env H op fun v H' => (nrmE (updO env dst v) H' fun e h => opsL P Γ all rest e h k) := by
  rw [opsL_eq]; rfl
@[simp ↓ 100] theorem opsL_guard {all : List (Option Nat)} {dst : Option Nat} {op : Op} {j : Nat} {want : Bool} {rest : List SOp} {env : Env} {H : Heap} {k : Env → Heap → Prop} :
    opsL P Γ all (⟨dst, op, some (j, want)⟩ :: rest) env H k = (match slotOf all j with
      | none => False
      | some t => match env t with
        | .d (.bool b) => (b = want → opD P Γ env H op fun v H' => (nrmE (updO env dst v) H' fun e h => opsL P Γ all rest e h k)) ∧ (b ≠ want → (nrmE (updO env dst (.tup [])) H fun e h => opsL P Γ all rest e h k))
        | .tup [] => (nrmE (updO env dst (.tup [])) H fun e h => opsL P Γ all rest e h k)
        | _ => False) := by
  rw [opsL_eq]; rfl
/-- Is a guard's answer known? -/
def guardV (all : List (Option Nat)) (env : Env) (j : Nat) : V := match slotOf all j with | none => .d .undef | some t => env t
@[simp ↓ 2000] theorem opsL_on {all : List (Option Nat)} {dst : Option Nat} {op : Op} {j : Nat} {want : Bool} {rest : List SOp} {env : Env} {H : Heap} {k : Env → Heap → Prop} (h : guardV all env j = .d (.bool want)) :
    opsL P Γ all (⟨dst, op, some (j, want)⟩ :: rest) env H k = opD P Γ env H op fun v H' => (nrmE (updO env dst v) H' fun e h => opsL P Γ all rest e h k) := by
  rw [opsL_eq]
  unfold guardV at h
  split at h
  · cases h
  · rename_i t e
    simp only [nrmE, opsD, e, h, ne_eq, not_true_eq_false, false_implies, and_true, true_implies]
@[simp ↓ 2000] theorem opsL_off {all : List (Option Nat)} {dst : Option Nat} {op : Op} {j : Nat} {want : Bool} {rest : List SOp} {env : Env} {H : Heap} {k : Env → Heap → Prop} (h : guardV all env j = .d (.bool (!want))) :
    opsL P Γ all (⟨dst, op, some (j, want)⟩ :: rest) env H k = (nrmE (updO env dst (.tup [])) H fun e h => opsL P Γ all rest e h k) := by
  rw [opsL_eq]
  unfold guardV at h
  split at h
  · cases h
  · rename_i t e
    cases want
    · simp only [opsD, e, h, Bool.not_false]
      exact propext ⟨fun q => q.2 (by decide), fun q => ⟨fun e => (by cases e), fun _ => q⟩⟩
    · simp only [opsD, e, h, Bool.not_true]
      exact propext ⟨fun q => q.2 (by decide), fun q => ⟨fun e => (by cases e), fun _ => q⟩⟩
@[simp ↓ 2000] theorem opsL_tup {all : List (Option Nat)} {dst : Option Nat} {op : Op} {j : Nat} {want : Bool} {rest : List SOp} {env : Env} {H : Heap} {k : Env → Heap → Prop} (h : guardV all env j = .tup []) :
    opsL P Γ all (⟨dst, op, some (j, want)⟩ :: rest) env H k = (nrmE (updO env dst (.tup [])) H fun e h => opsL P Γ all rest e h k) := by
  rw [opsL_eq]
  unfold guardV at h
  split at h
  · cases h
  · rename_i t e
    simp only [nrmE, opsD, e, h]
attribute [simp] guardV
@[simp ↓ 2000] theorem pickD_true {c a b : V} {k : V → Prop} (h : c = .d (.bool true)) : pickD c a b k = k a := by
  subst h
  simp only [pickD]
  split
  · rfl
  · exact propext ⟨fun q => q.1 trivial, fun q => ⟨fun _ => q, fun e => (by cases e)⟩⟩
@[simp ↓ 2000] theorem pickD_false {c a b : V} {k : V → Prop} (h : c = .d (.bool false)) : pickD c a b k = k b := by
  subst h
  simp only [pickD]
  split
  · rfl
  · exact propext ⟨fun q => q.2 trivial, fun q => ⟨fun e => (by cases e), fun _ => q⟩⟩
@[simp ↓ 100] theorem pickD_open {c a b : V} {k : V → Prop} : pickD c a b k = (match c with
  | .d (.bool t) => (match a, b with
    | .d (.bool p), .d (.bool q) => k (.d (.bool (bif t then p else q)))
    | _, _ => (t = true → k a) ∧ (t = false → k b))
  | _ => False) := rfl
@[simp ↓] theorem wpL_skip {Q : Exit → St → Prop} {s : St} : wpL P Γ N n0 K .skip Q s = Q .normal s := by rw [wpL_eq]; rfl
@[simp ↓] theorem wpL_ops {l : List SOp} {Q : Exit → St → Prop} {s : St} : wpL P Γ N n0 K (.ops l) Q s = opsL P Γ (dstsOf l) l s.env s.H fun env H => Q .normal ⟨keep K env, H⟩ := by rw [wpL_eq, opsL_eq]; rfl
@[simp ↓] theorem wpL_draw {id : Nat} {ops : Array Oper} {Q : Exit → St → Prop} {s : St} : wpL P Γ N n0 K (.draw id ops) Q s = W P N n0 (.region id ops true) Q s := by rw [wpL_eq]; rfl
@[simp ↓] theorem wpL_seq {a b : SCode} {Q : Exit → St → Prop} {s : St} : wpL P Γ N n0 K (.seq a b) Q s = wpL P Γ N n0 K a (seqQ (wpL P Γ N n0 K b Q) Q) s := by rw [wpL_eq]; rfl
@[simp ↓ 100] theorem wpL_cond {c : Operand} {a b : SCode} {Q : Exit → St → Prop} {s : St} : wpL P Γ N n0 K (.cond c a b) Q s = (match ev s.env c with
    | .d (.bool t) => (t = true → wpL P Γ N n0 K a Q s) ∧ (t = false → wpL P Γ N n0 K b Q s)
    | _ => False) := by rw [wpL_eq]; rfl
@[simp ↓] theorem wpL_block {id : Nat} {c : SCode} {Q : Exit → St → Prop} {s : St} : wpL P Γ N n0 K (.block id c) Q s = wpL P Γ N n0 K c (blockQ id Q) s := by rw [wpL_eq]; rfl
@[simp ↓] theorem wpL_loop {c : Code} {Q : Exit → St → Prop} {s : St} : wpL P Γ N n0 K (.loop c) Q s = W P N n0 (.loop c) Q s := by rw [wpL_eq]; rfl
@[simp ↓] theorem wpL_exit {id : Nat} {Q : Exit → St → Prop} {s : St} : wpL P Γ N n0 K (.exit id) Q s = Q (.exit id) s := by rw [wpL_eq]; rfl
@[simp ↓] theorem wpL_ret {Q : Exit → St → Prop} {s : St} : wpL P Γ N n0 K .ret Q s = Q .ret s := by rw [wpL_eq]; rfl
@[simp ↓] theorem wpL_other {c : Code} {Q : Exit → St → Prop} {s : St} : wpL P Γ N n0 K (.other c) Q s = W P N n0 c Q s := by rw [wpL_eq]; rfl

theorem W_walk (hΓ : Good P Γ) (K : List Nat) {c : Code} {Q : Exit → St → Prop} {s : St} (hc : codeOk N c = true) (h : wpL P Γ N n0 K (strip c) Q s) : W P N n0 c Q s :=
  W_of hΓ K hc (by rw [← wpL_eq]; exact h)
end

theorem wrap_id {n : Int} (h1 : -9223372036854775808 ≤ n) (h2 : n ≤ 9223372036854775807) : IntKind.i64.wrap n = n := by
  rw [IntKind.wrap_i64]; omega

/-- A table that is answered may be told by its cells. -/
theorem PureP.ro {P : Program} {f : FuncId} {vs : List V} {e n : Nat} {f1 : Nat → Nat → D} (h : PureP P f vs fun r => ∃ f0, r = .d (.ro e n f0) ∧ ∀ i j, i < n → j < e → f0 i j = f1 i j) : PureP P f vs (· = .d (.ro e n f1)) := by
  refine ⟨h.1, fun X w φ args hX hs hv => (h.2 X w φ args hX hs hv).mono ?_⟩
  rintro e' w' ⟨v, r, φ', H', rfl, ⟨rfl, f0, rfl, hf⟩, hs', hv', rest⟩
  refine ⟨v, _, φ', [], rfl, ⟨rfl, rfl⟩, hs', ?_, rest⟩
  simp only [VS, DS] at hv' ⊢
  obtain ⟨A, cap, h1, h2, h3⟩ := hv'
  refine ⟨A, cap, h1, h2, fun i j hi hj => ?_⟩
  rw [← hf i j hi hj]
  exact h3 i j hi hj

theorem PureP.good {P : Program} {f : FuncId} {vs : List V} {r : V} (h : PureP P f vs (· = r)) (hc : closedL vs = true) (H : Heap) : CallsD P f vs H (answers r [] H) :=
  (h.calls hc).mono fun _ _ ⟨a, b⟩ => ⟨b, a⟩

mutual
theorem VS.shift {w : World} {own : Nat → Prop} (φ φ' : List (Nat × Nat)) : ∀ (c : V) (v : Value), VS w own φ' c v → VS w own (φ ++ φ') (c.shift φ.length) v
  | .d x, v, h => by simpa only [V.shift, VS] using h
  | .ptr id e i j, v, h => by
    simp only [V.shift, VS] at h ⊢
    obtain ⟨g, o, h1, h2⟩ := h
    exact ⟨g, o, by rw [List.getElem?_append_right (by omega), Nat.add_sub_cancel_left]; exact h1, h2⟩
  | .sl id e off n, v, h => by
    simp only [V.shift, VS] at h ⊢
    obtain ⟨g, o, A, cap, h1, h2⟩ := h
    exact ⟨g, o, A, cap, by rw [List.getElem?_append_right (by omega), Nat.add_sub_cancel_left]; exact h1, h2⟩
  | .agg l, v, h => by
    simp only [V.shift, VS] at h ⊢
    obtain ⟨cs, h1, h2⟩ := h
    exact ⟨cs, h1, VSs.shift φ φ' l _ h2⟩
  | .tup l, v, h => by
    simp only [V.shift, VS] at h ⊢
    obtain ⟨cs, h1, h2⟩ := h
    exact ⟨cs, h1, VSs.shift φ φ' l _ h2⟩
  | .clo f l, v, h => by
    simp only [V.shift, VS] at h ⊢
    obtain ⟨cs, h1, h2⟩ := h
    exact ⟨cs, h1, VSs.shift φ φ' l _ h2⟩
theorem VSs.shift {w : World} {own : Nat → Prop} (φ φ' : List (Nat × Nat)) : ∀ (l : List V) (vs : List Value), VSs w own φ' l vs → VSs w own (φ ++ φ') (shiftL φ.length l) vs
  | [], vs, h => by simpa only [shiftL, VSs] using h
  | c :: l, vs, h => by
    simp only [shiftL, VSs] at h ⊢
    obtain ⟨v, vs', h1, h2, h3⟩ := h
    exact ⟨v, vs', h1, VS.shift φ φ' c v h2, VSs.shift φ φ' l vs' h3⟩
end
theorem shiftL_get (n : Nat) : ∀ (l : List V) (j : Nat), (shiftL n l)[j]? = (l[j]?).map (V.shift n)
  | [], j => by simp [shiftL]
  | c :: l, 0 => by simp [shiftL]
  | c :: l, j + 1 => by simpa [shiftL] using shiftL_get n l j
theorem shiftL_length (n : Nat) : ∀ (l : List V), (shiftL n l).length = l.length
  | [] => rfl
  | c :: l => by simp [shiftL, shiftL_length n l]
theorem shift_one (n : Nat) (c : V) : (c.shift n).one = c.one := by
  cases c <;> simp [V.shift, V.one]

theorem get_two {H R : Heap} {id e : Nat} {es : List (List V)} (h : (H ++ R.map (Place.shift H.length))[id]? = some (.row e es)) :
    H[id]? = some (.row e es) ∧ id < H.length ∨ ∃ es', R[id - H.length]? = some (.row e es') ∧ es = es'.map (shiftL H.length) ∧ H.length ≤ id := by
  rw [List.getElem?_append] at h
  split at h
  · exact .inl ⟨h, by assumption⟩
  · rename_i hn
    rw [List.getElem?_map] at h
    cases hr : R[id - H.length]? with
    | none => rw [hr] at h; simp at h
    | some p =>
      rw [hr] at h
      cases p with
      | dead => simp [Place.shift] at h
      | row e' es' =>
        simp only [Option.map_some, Place.shift, Option.some.injEq, Place.row.injEq] at h
        exact .inr ⟨es', by rw [h.1], h.2.symm, by omega⟩

theorem own_two {φ φ' : List (Nat × Nat)} {H R : Heap} (hl : φ.length = H.length) (g : Nat) : ownOf (φ ++ φ') (H ++ R.map (Place.shift H.length)) g ↔ ownOf φ H g ∨ ownOf φ' R g := by
  constructor
  · rintro ⟨id, e, es, o, h1, h2⟩
    rcases get_two h1 with ⟨h, hlt⟩ | ⟨es', h, _, hge⟩
    · exact .inl ⟨id, e, es, o, h, by rwa [List.getElem?_append_left (by omega)] at h2⟩
    · exact .inr ⟨id - H.length, e, es', o, h, by rwa [List.getElem?_append_right (by omega), hl] at h2⟩
  · rintro (⟨id, e, es, o, h1, h2⟩ | ⟨id, e, es, o, h1, h2⟩)
    · have := (List.getElem?_eq_some_iff.1 h1).1
      exact ⟨id, e, es, o, by rw [List.getElem?_append_left this]; exact h1, by rw [List.getElem?_append_left (by omega)]; exact h2⟩
    · refine ⟨H.length + id, e, es.map (shiftL H.length), o, ?_, ?_⟩
      · rw [List.getElem?_append_right (by omega), Nat.add_sub_cancel_left, List.getElem?_map, h1]; rfl
      · rw [List.getElem?_append_right (by omega), hl, Nat.add_sub_cancel_left]; exact h2

/-- A call that begins without places, made among places: its own lie behind them. -/
theorem CallsD.frame {P : Program} {f : FuncId} {vs : List V} {r : V} {R : Heap} (h : CallsD P f vs [] fun r' H' => r' = r ∧ H' = R) (hc : closedL vs = true) (H : Heap) :
    CallsD P f vs H fun r' H' => r' = r.shift H.length ∧ H' = H ++ R.map (Place.shift H.length) := by
  refine ⟨h.1, fun X w φ args hX hs hv => ?_⟩
  have hX' : ∀ g, owned X φ H g → g < w.heap.size := fun g hg => hg.elim (hX g) (owned_lt hs)
  refine (h.2 (owned X φ H) w [] args hX' (HS.nil _ w) (by rw [owned_nil]; exact closedL_any _ _ hc hv)).mono ?_
  rintro e w' ⟨v, r', φ', H', rfl, ⟨rfl, rfl⟩, hs', hv', hfr, _, _, hnew⟩
  have hl : φ.length = H.length := hs.len
  have hno : ownOf ([] : List (Nat × Nat)) [] = fun _ => False := by
    funext g
    apply propext
    constructor
    · rintro ⟨id, e, es, o, h, _⟩; simp at h
    · exact False.elim
  rw [hno] at hfr hnew
  have hown : owned X (φ ++ φ') (H ++ H'.map (Place.shift H.length)) = owned (owned X φ H) φ' H' := by
    funext g
    apply propext
    unfold owned
    rw [own_two hl]
    constructor
    · rintro (h | h | h)
      · exact .inl (.inl h)
      · exact .inl (.inr h)
      · exact .inr h
    · rintro ((h | h) | h)
      · exact .inl h
      · exact .inr (.inl h)
      · exact .inr (.inr h)
  have hk : Keeps w (owned X φ H) w' (owned (owned X φ H) φ' H') := fun b hb hn => ⟨hfr.block b hb (fun h => h), fun hx => hx.elim hn (fun ho => hnew b hb ho)⟩
  refine ⟨v, _, φ ++ φ', _, rfl, ⟨rfl, rfl⟩, ⟨?_, ?_, ?_, ?_⟩, ?_, ?_, Ext.append _ _, by simp, ?_⟩
  · simp [hl, hs'.len]
  · intro i j e es e' es' g o o' hi hj hgi hgj
    rcases get_two hi with ⟨a1, a2⟩ | ⟨es1, a1, _, a2⟩ <;> rcases get_two hj with ⟨b1, b2⟩ | ⟨es2, b1, _, b2⟩
    · rw [List.getElem?_append_left (by omega)] at hgi hgj
      exact hs.inj i j e es e' es' g o o' a1 b1 hgi hgj
    · rw [List.getElem?_append_left (by omega)] at hgi
      rw [List.getElem?_append_right (by omega), hl] at hgj
      exact absurd (.inr ⟨i, e, es, o, a1, hgi⟩) (hs'.disj g ⟨_, _, _, _, b1, hgj⟩)
    · rw [List.getElem?_append_right (by omega), hl] at hgi
      rw [List.getElem?_append_left (by omega)] at hgj
      exact absurd (.inr ⟨j, e', es', o', b1, hgj⟩) (hs'.disj g ⟨_, _, _, _, a1, hgi⟩)
    · rw [List.getElem?_append_right (by omega), hl] at hgi hgj
      have := hs'.inj _ _ _ _ _ _ _ _ _ a1 b1 hgi hgj
      omega
  · intro g hg
    rw [own_two hl] at hg
    rcases hg with hg | hg
    · exact hs.disj g hg
    · exact fun hx => hs'.disj g hg (.inl hx)
  · intro id e es hid
    rw [hown]
    rcases get_two hid with ⟨a1, a2⟩ | ⟨es1, a1, rfl, a2⟩
    · obtain ⟨g, o, cs, t, h1, h2, h3, h4⟩ := hs.live id e es a1
      refine ⟨g, o, cs, t, by rw [List.getElem?_append_left (by omega)]; exact h1, ?_, h3, fun i l hil => ⟨(h4 i l hil).1, fun j c hc => ?_⟩⟩
      · rw [hfr.block g (Array.getElem?_eq_some_iff.1 h2).1 (fun h => h)]; exact h2
      · obtain ⟨h5, y, h6, h7⟩ := (h4 i l hil).2 j c hc
        exact ⟨h5, y, h6, VS.keeps hk hfr.sizes (Ext.append _ _) _ _ h7⟩
    · obtain ⟨g, o, cs, t, h1, h2, h3, h4⟩ := hs'.live _ e es1 a1
      refine ⟨g, o, cs, t, by rw [List.getElem?_append_right (by omega), hl]; exact h1, h2, by simpa using h3, fun i l hil => ?_⟩
      rw [List.getElem?_map] at hil
      cases hq : es1[i]? with
      | none => rw [hq] at hil; simp at hil
      | some l1 =>
        rw [hq] at hil
        simp only [Option.map_some, Option.some.injEq] at hil
        subst hil
        refine ⟨by rw [shiftL_length]; exact (h4 i l1 hq).1, fun j c hc => ?_⟩
        rw [shiftL_get] at hc
        cases hq2 : l1[j]? with
        | none => rw [hq2] at hc; simp at hc
        | some c1 =>
          rw [hq2] at hc
          simp only [Option.map_some, Option.some.injEq] at hc
          subst hc
          obtain ⟨h5, y, h6, h7⟩ := (h4 i l1 hq).2 j c1 hq2
          refine ⟨by rw [shift_one]; exact h5, y, h6, ?_⟩
          have := VS.shift φ φ' c1 y h7
          rwa [hl] at this
  · rw [hown]
    have := VS.shift φ φ' _ v hv'
    rwa [hl] at this
  · exact ⟨hfr.os, hfr.tape, hfr.output, hfr.size, fun b hb _ => hfr.block b hb (fun h => h), hfr.sizes⟩
  · intro g hg ho
    rw [own_two hl] at ho
    exact ho.elim (fun h => h) (fun h => (hnew g hg h).elim)

theorem CallsD.good {P : Program} {f : FuncId} {vs : List V} {r : V} {p : Place} {R : Heap} (h : CallsD P f vs [] fun r' H' => r' = r ∧ H' = p :: R) (hc : closedL vs = true) (H : Heap) : CallsD P f vs H (answers r (p :: R) H) :=
  h.frame hc H

end Go.Proofs.Ytpakdkiceoknjaa
