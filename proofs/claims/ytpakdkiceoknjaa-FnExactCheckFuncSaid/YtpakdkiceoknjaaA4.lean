/- The abstract machine, part 4: what an operation does to abstract values is what Go's operation does: those that make and write no memory. No condition. -/
import Derived.Test.YtpakdkiceoknjaaA3
namespace Go.Proofs.Ytpakdkiceoknjaa
set_option linter.unusedVariables false
set_option linter.unusedSimpArgs false

/-! ### Small lemmas -/
theorem exists_list {α : Type} (m : Nat) (p : Nat → α → Prop) (h : ∀ j, j < m → ∃ v, p j v) : ∃ cs : List α, cs.length = m ∧ ∀ j v, cs[j]? = some v → p j v := by
  induction m with
  | zero => exact ⟨[], rfl, fun j v hv => by simp at hv⟩
  | succ m ih =>
    obtain ⟨cs, hl, hp⟩ := ih (fun j hj => h j (by omega))
    obtain ⟨v, hv⟩ := h m (by omega)
    refine ⟨cs ++ [v], by simp [hl], fun j u hu => ?_⟩
    by_cases hj : j < m
    · rw [List.getElem?_append_left (by omega)] at hu
      exact hp j u hu
    · have hlt := (List.getElem?_eq_some_iff.1 hu).1
      simp at hlt
      have : j = m := by omega
      subst this
      rw [List.getElem?_append_right (by omega)] at hu
      simp [hl] at hu
      exact hu ▸ hv

theorem upto_length {α : Type} (n : Nat) (f : Nat → α) : (upto n f).length = n := by
  induction n generalizing f with
  | zero => rfl
  | succ n ih => simp [upto, ih]
theorem upto_get {α : Type} (n : Nat) (f : Nat → α) (j : Nat) : (upto n f)[j]? = if j < n then some (f j) else none := by
  induction n generalizing f j with
  | zero => simp [upto]
  | succ n ih =>
    cases j with
    | zero => simp [upto]
    | succ j => simp [upto, ih]

theorem VSs_of {w : World} {own : Nat → Prop} {φ : List (Nat × Nat)} : ∀ (l : List V) (cs : List Value), l.length = cs.length →
    (∀ (j : Nat) (c : V) (v : Value), l[j]? = some c → cs[j]? = some v → VS w own φ c v) → VSs w own φ l cs
  | [], [], _, _ => by simp [VSs]
  | x :: l, v :: cs, hl, h => by
    simp only [VSs]
    exact ⟨v, cs, rfl, h 0 x v rfl rfl, VSs_of l cs (by simpa using hl) (fun j c u hc hu => h (j + 1) c u (by simpa using hc) (by simpa using hu))⟩
  | [], _ :: _, hl, _ => by simp at hl
  | _ :: _, [], hl, _ => by simp at hl
theorem VSs.length {w : World} {own : Nat → Prop} {φ : List (Nat × Nat)} : ∀ (l : List V) (cs : List Value), VSs w own φ l cs → l.length = cs.length
  | [], cs, h => by simp only [VSs] at h; simp [h]
  | x :: l, cs, h => by
    simp only [VSs] at h
    obtain ⟨v, cs', rfl, _, h2⟩ := h
    simp [VSs.length l cs' h2]
theorem VSs.get {w : World} {own : Nat → Prop} {φ : List (Nat × Nat)} : ∀ (l : List V) (cs : List Value), VSs w own φ l cs → ∀ (j : Nat) (c : V), l[j]? = some c → ∃ v, cs[j]? = some v ∧ VS w own φ c v
  | [], cs, h, j, c, hc => by simp at hc
  | x :: l, cs, h, j, c, hc => by
    simp only [VSs] at h
    obtain ⟨v, cs', rfl, h1, h2⟩ := h
    cases j with
    | zero => simp at hc; subst hc; exact ⟨v, by simp, h1⟩
    | succ j => simpa using VSs.get l cs' h2 j c (by simpa using hc)
theorem VSs.append {w : World} {own : Nat → Prop} {φ : List (Nat × Nat)} {l l' : List V} {cs cs' : List Value} (h : VSs w own φ l cs) (h' : VSs w own φ l' cs') : VSs w own φ (l ++ l') (cs ++ cs') := by
  have hl := VSs.length l cs h
  refine VSs_of _ _ (by simp [hl, VSs.length l' cs' h']) fun j c v hc hv => ?_
  by_cases hj : j < l.length
  · rw [List.getElem?_append_left hj] at hc
    rw [List.getElem?_append_left (by omega)] at hv
    obtain ⟨v', e, hv'⟩ := VSs.get l cs h j c hc
    rw [hv] at e
    cases e
    exact hv'
  · rw [List.getElem?_append_right (by omega)] at hc
    rw [List.getElem?_append_right (by omega)] at hv
    rw [hl] at hc
    obtain ⟨v', e, hv'⟩ := VSs.get l' cs' h' _ c hc
    rw [hv] at e
    cases e
    exact hv'

theorem dOf_spec (w : World) (own : Nat → Prop) (v : Value) : DS w own (dOf v) v := by
  cases v <;> simp only [dOf] <;> (try split) <;> simp [DS]
  · rename_i h
    simpa using h
  · rename_i h
    obtain ⟨h1, rfl, rfl⟩ := h
    exact ⟨by simpa using h1, rfl, rfl⟩
theorem constV_spec {φ : List (Nat × Nat)} (w : World) (own : Nat → Prop) (v : Value) : VS w own φ (constV v) v := by
  cases v
  case agg vs =>
    refine ⟨vs, rfl, VSs_of _ _ (by simp) fun j c v hc hv => ?_⟩
    simp only [List.getElem?_map, Option.map_map, Option.map_eq_some_iff] at hc
    obtain ⟨u, hu, rfl⟩ := hc
    rw [hu] at hv
    cases hv
    exact dOf_spec w own _
  all_goals exact dOf_spec w own _
theorem ev_spec {x : Ctx} {N : Nat} {env : Env} {H : Heap} {φ : List (Nat × Nat)} {a : Act} {w : World} (h : Sim x N ⟨env, H⟩ φ a w) (o : Operand) :
    VS w (owned x.X φ H) φ (ev env o) (a.eval o) := by
  cases o with
  | tmp t => exact h.env t
  | const v => exact constV_spec w _ v
  | global g => simp [ev, VS, DS]
  | func f => simp [ev, VS, DS, Act.eval]
theorem evs_spec {x : Ctx} {N : Nat} {env : Env} {H : Heap} {φ : List (Nat × Nat)} {a : Act} {w : World} (h : Sim x N ⟨env, H⟩ φ a w) (l : List Operand) :
    VSs w (owned x.X φ H) φ (l.map (ev env)) (l.map a.eval) := by
  refine VSs_of _ _ (by simp) fun j c v hc hv => ?_
  simp only [List.getElem?_map, Option.map_eq_some_iff] at hc hv
  obtain ⟨o, ho, rfl⟩ := hc
  obtain ⟨o', ho', rfl⟩ := hv
  rw [ho] at ho'
  cases ho'
  exact ev_spec h o

theorem tinfo_spec {P : Program} {t : TypeId} {ti : TI} (h : tinfo P t = some ti) : ∃ i u z, P.info? t = some i ∧ P.underlying t = some u ∧ i.zero = some z ∧
    ti = ⟨isAggT u, i.size, i.bytes, z.cells.toList.map dOf, tkOf P u⟩ := by
  unfold tinfo at h
  split at h
  · rename_i i u hi hu
    split at h
    · rename_i z hz
      exact ⟨i, u, z, hi, hu, hz, (Option.some.inj h).symm⟩
    · cases h
  · cases h

theorem tk_slice {P : Program} {u : TypeDesc} {e : Nat} (h : tkOf P u = .slice e) : u = .slice e := by cases u <;> simp [tkOf] at h; rw [h]
theorem tk_ptr {P : Program} {u : TypeDesc} (h : tkOf P u = .ptr) : ∃ e, u = .pointer e := by cases u <;> simp [tkOf] at h; exact ⟨_, rfl⟩
theorem tk_bool {P : Program} {u : TypeDesc} (h : tkOf P u = .bool) : u = .bool := by cases u <;> simp [tkOf] at h; rfl
theorem tk_str {P : Program} {u : TypeDesc} (h : tkOf P u = .str) : u = .string := by cases u <;> simp [tkOf] at h; rfl
theorem tk_int {P : Program} {u : TypeDesc} {k : IntKind} (h : tkOf P u = .int k) : u = .int k := by cases u <;> simp [tkOf] at h; rw [h]
theorem tk_struct {P : Program} {u : TypeDesc} {l : List (Nat × Nat × Nat)} (h : tkOf P u = .struct l) : ∃ fs : Array Field, u = .struct fs ∧ l = fs.toList.map fun f => (f.offset, f.type, P.cellsOf f.type) := by
  cases u <;> simp [tkOf] at h
  exact ⟨_, rfl, h.symm⟩

/-- An operation that yields a value. -/
def Gives (P : Program) (x : Ctx) (N : Nat) (env : Env) (a : Act) (w : World) (s : Sem Value) (k : V → Heap → Prop) : Prop :=
  ∃ v w' c H' φ', s.run P w = .ok v w' ∧ k c H' ∧ Sim x N ⟨env, H'⟩ φ' a w' ∧ VS w' (owned x.X φ' H') φ' c v

section
variable {P : Program} {x : Ctx} {N : Nat} {env : Env} {H : Heap} {φ : List (Nat × Nat)} {a : Act} {w : World}

theorem Gives.same {s : Sem Value} {k : V → Heap → Prop} {v : Value} {c : V} (h : Sim x N ⟨env, H⟩ φ a w) (hr : s.run P w = .ok v w) (hk : k c H) (hv : VS w (owned x.X φ H) φ c v) :
    Gives P x N env a w s k := ⟨v, w, c, H, φ, hr, hk, h, hv⟩

theorem pick_gives (h : Sim x N ⟨env, H⟩ φ a w) {c p q : V} {vc vp vq : Value} (hc : VS w (owned x.X φ H) φ c vc) (hp : VS w (owned x.X φ H) φ p vp) (hq : VS w (owned x.X φ H) φ q vq)
    {k : V → Prop} (hk : pickD c p q k) : Gives P x N env a w (do pure (if ← asBool vc then vp else vq)) fun v H' => k v ∧ H' = H := by
  unfold pickD at hk
  split at hk
  · rename_i t
    simp only [VS, DS] at hc
    subst hc
    have hr : (do pure (if ← asBool (.bool t) then vp else vq) : Sem Value).run P w = .ok (if t then vp else vq) w := by
      simp [asBool]
    split at hk
    · rename_i p q
      simp only [VS, DS] at hp hq
      subst hp
      subst hq
      refine Gives.same h hr ⟨hk, rfl⟩ ?_
      cases t <;> simp [VS, DS]
    · cases t
      · exact Gives.same h hr ⟨hk.2 rfl, rfl⟩ (by simpa using hq)
      · exact Gives.same h hr ⟨hk.1 rfl, rfl⟩ (by simpa using hp)
  · exact hk.elim

theorem asVal_spec {agg : Bool} {l : List V} {cs : List Value} (h : VSs w (owned x.X φ H) φ l cs) (hs : agg = true ∨ l.length = 1) :
    VS w (owned x.X φ H) φ (asVal agg l) (if agg then .agg cs.toArray else cs.headD undef) := by
  cases agg
  · simp only [asVal, Bool.false_eq_true, if_false]
    have hl : l.length = 1 := by simpa using hs
    match l, hl with
    | [c], _ =>
      simp only [VSs] at h
      obtain ⟨v, vs', rfl, hv, _⟩ := h
      simpa using hv
  · simp only [asVal, if_true, VS]
    exact ⟨_, rfl, by simpa using h⟩

theorem run_loadVar_gen {t : TypeId} {u : TypeDesc} {i : TypeInfo} (hu : P.underlying t = some u) (hi : P.info? t = some i) (ad : Addr) (cs : List Value) (hl : cs.length = i.size)
    (hc : ∀ j v, cs[j]? = some v → w.cell? (ad.add j) = some v) (hs : isAggT u = true ∨ i.size = 1) :
    (loadVar t ad).run P w = .ok (if isAggT u then .agg cs.toArray else cs.headD undef) w := by
  have hll := run_loadCells_list (P := P) w ad cs hc
  by_cases hagg : isAggT u = true
  · have ha : (isAgg t).run P w = .ok true w := by
      unfold isAgg
      simp only [Sem.run_bind, run_underlying hu, Result.andThen_ok]
      cases u <;> simp [isAggT] at hagg <;> simp
    rw [if_pos hagg]
    simp only [loadVar, Sem.run_bind, ha, Result.andThen_ok, if_true, sizeOf, typeInfo]
    simp [hi, ← hl, hll]
  · have hsz : i.size = 1 := hs.resolve_left hagg
    have ha : (isAgg t).run P w = .ok false w := by
      unfold isAgg
      simp only [Sem.run_bind, run_underlying hu, Result.andThen_ok]
      cases u <;> simp [isAggT] at hagg <;> simp
    rw [if_neg hagg]
    match cs, (hl.trans hsz) with
    | [v], _ =>
      have h0 := hc 0 v rfl
      have e : ad.add 0 = ad := by simp [Addr.add]
      rw [e] at h0
      simp [loadVar, ha, h0]

theorem load_runs (h : Sim x N ⟨env, H⟩ φ a w) {t : TypeId} {p : V} {vp : Value} (hp : VS w (owned x.X φ H) φ p vp)
    {k : V → Prop} (hk : loadD (tinfo P t) p H k) : ∃ v c ad, vp = .pointer (some ad) ∧ (Instr.loadAt t vp).run P w = .ok v w ∧ k c ∧ VS w (owned x.X φ H) φ c v := by
  unfold loadD at hk
  split at hk
  · exact hk.elim
  · rename_i ti hti
    obtain ⟨i, u, z, hi, hu, hz, rfl⟩ := tinfo_spec hti
    split at hk
    · rename_i n f
      obtain ⟨hn, hs, hk⟩ := hk
      simp only [VS, DS] at hp
      obtain ⟨ad, rfl, hf⟩ := hp
      simp only at hn hs hk
      obtain ⟨cs, hl, hcs⟩ := exists_list i.size (fun j v => w.cell? (ad.add j) = some v ∧ DS w (owned x.X φ H) (f j) v) (fun j hj => by
        obtain ⟨_, c, hc, hd⟩ := hf j (by omega)
        exact ⟨c, hc, hd⟩)
      have hr := run_loadVar_gen (P := P) (w := w) hu hi ad cs hl (fun j v hv => (hcs j v hv).1) hs
      refine ⟨_, _, _, rfl, by simpa [Instr.loadAt, Instr.sureAddr] using hr, hk, (asVal_spec (VSs_of _ _ (by simp [upto_length, hl]) fun j c v hc hv => ?_) (hs.imp id (fun e => by simp [upto_length, e])))⟩
      rw [upto_get] at hc
      split at hc
      · cases hc
        exact (hcs j v hv).2
      · cases hc
    · rename_i id e i1 j1
      split at hk
      · rename_i e' es hid
        obtain ⟨rfl, l, hes, hj, hs, hk⟩ := hk
        simp only [VS] at hp
        obtain ⟨g, o, hφ, rfl⟩ := hp
        obtain ⟨g', o', cs1, t1, h1, h2, h3, h4⟩ := h.hs.live id _ es hid
        rw [hφ] at h1
        obtain ⟨rfl, rfl⟩ := Prod.mk.inj (Option.some.inj h1)
        obtain ⟨hll, hlc⟩ := h4 i1 l hes
        simp only at hj hs hk
        have hcell : ∀ m, m < i.size → ∃ v, w.cell? ((⟨g, o + i1 * e' + j1, none⟩ : Addr).add m) = some v ∧ ∃ c, l[j1 + m]? = some c ∧ VS w (owned x.X φ H) φ c v := by
          intro m hm
          have hlt : j1 + m < l.length := by omega
          obtain ⟨_, y, hy, hv⟩ := hlc (j1 + m) l[j1 + m] (List.getElem?_eq_getElem hlt)
          refine ⟨y, ?_, l[j1 + m], List.getElem?_eq_getElem hlt, hv⟩
          have hadd : (⟨g, o + i1 * e' + j1, none⟩ : Addr).add m = ⟨g, o + i1 * e' + j1 + m, none⟩ := by unfold Addr.add; split <;> simp_all
          rw [hadd, cell_of_row w g _ cs1 t1 _ h2]
          rw [← hy]
          congr 1
          omega
        obtain ⟨cs, hl, hcs⟩ := exists_list i.size _ hcell
        have hr := run_loadVar_gen (P := P) (w := w) hu hi _ cs hl (fun j v hv => (hcs j v hv).1) hs
        have hlen : ((l.drop j1).take i.size).length = i.size := by simp; omega
        refine ⟨_, _, _, rfl, by simpa [Instr.loadAt, Instr.sureAddr] using hr, hk, (asVal_spec (VSs_of _ _ (by rw [hlen, hl]) fun j c v hc hv => ?_) (hs.imp (fun q => q) (fun e => by rw [hlen, e])))⟩
        obtain ⟨_, c', hc', hv'⟩ := hcs j v hv
        have hj' : j < i.size := by rw [← hl]; exact (List.getElem?_eq_some_iff.1 hv).1
        rw [List.getElem?_take, if_pos hj', List.getElem?_drop, hc'] at hc
        cases hc
        exact hv'
      · exact hk.elim
    · exact hk.elim

theorem load_gives (h : Sim x N ⟨env, H⟩ φ a w) {t : TypeId} {p : V} {vp : Value} (hp : VS w (owned x.X φ H) φ p vp)
    {k : V → Prop} (hk : loadD (tinfo P t) p H k) : Gives P x N env a w (Instr.loadAt t vp) fun v H' => k v ∧ H' = H := by
  obtain ⟨v, c, ad, _, hr, hk, hv⟩ := load_runs h hp hk
  exact Gives.same h hr ⟨hk, rfl⟩ hv

theorem nilCheck_gives (h : Sim x N ⟨env, H⟩ φ a w) {p : V} {vp : Value} (hp : VS w (owned x.X φ H) φ p vp) {k : V → Prop} (hk : nilCheckD p k) :
    k p ∧ ((∃ ad, vp = .pointer (some ad)) ∨ ∃ f cs, vp = .func (.func f) #[] cs) := by
  unfold nilCheckD at hk
  split at hk
  · simp only [VS] at hp
    obtain ⟨g, o, _, rfl⟩ := hp
    exact ⟨hk, .inl ⟨_, rfl⟩⟩
  · simp only [VS, DS] at hp
    obtain ⟨ad, rfl, _⟩ := hp
    exact ⟨hk, .inl ⟨_, rfl⟩⟩
  · simp only [VS] at hp
    obtain ⟨cs, rfl, _⟩ := hp
    exact ⟨hk, .inr ⟨_, _, rfl⟩⟩
  · simp only [VS, DS] at hp
    obtain ⟨cs, rfl, _⟩ := hp
    exact ⟨hk, .inr ⟨_, _, rfl⟩⟩
  · exact hk.elim

theorem optK_spec {o : Option D} {k : V → Prop} (h : optK o k) : ∃ d, o = some d ∧ k (.d d) := by
  cases o with
  | none => exact h.elim
  | some d => exact ⟨d, rfl, h⟩

/-- What a datum without memory is as a value. -/
def D.val : D → Value
  | .int k n => .int k n
  | .bool b => .bool b
  | .str s => .string s
  | _ => Go.undef
theorem binI_run {op : BinOp} {k : IntKind} {p q : Int} {d : D} (hd : binI op k p q = some d) (t : TypeId) (hsh : op ≠ .shl ∧ op ≠ .shr) :
    (Go.binOp op t (.int k p) (.int k q)).run P w = .ok d.val w ∧ DS w (owned x.X φ H) d d.val := by
  cases op <;> simp only [binI] at hd <;> (try split at hd) <;> (try cases hd) <;>
    simp_all [Go.binOp, Op.intArith, Op.intDiv, Op.intBits, Op.intCmp, D.val, DS]
  all_goals rfl
end

end Go.Proofs.Ytpakdkiceoknjaa
