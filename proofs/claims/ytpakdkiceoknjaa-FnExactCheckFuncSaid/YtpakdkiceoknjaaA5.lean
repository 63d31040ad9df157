/- The abstract machine, part 5: sums, tests, fields, elements and parts of what there is. No condition. -/
import Derived.Test.YtpakdkiceoknjaaA4
import Derived.WideLaws
import Derived.Laws.Entries
import Derived.Laws.EntriesVeiled
import Derived.Laws.Strings
namespace Go.Proofs.Ytpakdkiceoknjaa
set_option linter.unusedVariables false
set_option linter.unusedSimpArgs false

section
variable {P : Program} {x : Ctx} {N : Nat} {env : Env} {H : Heap} {φ : List (Nat × Nat)} {a : Act} {w : World}

theorem shiftI_run {op : BinOp} {k k' : IntKind} {p q : Int} {d : D} (hd : shiftI op k p q = some d) (t : TypeId) :
    (Go.binOp op t (.int k p) (.int k' q)).run P w = .ok d.val w ∧ DS w (owned x.X φ H) d d.val := by
  unfold shiftI at hd
  split at hd
  · cases hd
  · rename_i hq
    cases op <;> simp only at hd <;> (try cases hd) <;> simp [Go.binOp, Op.shift, D.val, DS, hq]

theorem bytes_eq_iff (p q : ByteArray) : (p.toList == q.toList) = decide (p = q) := by
  rw [Bool.eq_iff_iff]
  simp only [beq_iff_eq, decide_eq_true_eq]
  constructor
  · intro h
    rw [ByteArray.toList_eq, ByteArray.toList_eq] at h
    exact ByteArray.ext (Array.ext' h)
  · rintro rfl; rfl

theorem eqGuard_plain (op : BinOp) (t : TypeId) (o1 o2 : Operand) (p q : Value) (h1 : p ≠ .nilIface) (h2 : ∀ c, p ≠ .agg c) : (eqGuard op t o1 o2 p q).run P w = .ok () w := by
  cases p with
  | nilIface => exact absurd rfl h1
  | agg c => exact absurd rfl (h2 c)
  | _ => cases op <;> rfl

theorem strOp_run {op : BinOp} {p q : ByteArray} {d : D} (hd : eqOp op (decide (p = q)) = some d) (t : TypeId) : (Go.binOp op t (.string p) (.string q)).run P w = .ok d.val w ∧ DS w (owned x.X φ H) d d.val := by
  have e := bytes_eq_iff p q
  cases op <;> simp only [eqOp] at hd <;> (try cases hd) <;> simp only [Go.binOp, Op.stringOp, D.val, DS, e] <;> exact ⟨rfl, trivial⟩

theorem equalIn_bool (d : Nat) {t : TypeId} (hu : P.underlying t = some .bool) (p q : Bool) : (Op.equalIn (d + 1) t (.bool p) (.bool q)).run P w = .ok (p == q) w := by
  simp [Op.equalIn, run_underlying hu]
theorem equalIn_ptr (d : Nat) {t e : TypeId} (hu : P.underlying t = some (.pointer e)) (p : Option Addr) : (Op.equalIn (d + 1) t (.pointer p) (.pointer none)).run P w = .ok p.isNone w := by
  cases p <;> simp [Op.equalIn, run_underlying hu]
theorem equalIn_slice (d : Nat) {t e : TypeId} (hu : P.underlying t = some (.slice e)) (p : Option Addr) (l c : Nat) : (Op.equalIn (d + 1) t (.slice p l c) (.slice none 0 0)).run P w = .ok p.isNone w := by
  cases p <;> simp [Op.equalIn, run_underlying hu]

set_option maxHeartbeats 400000 in
theorem binD_gives (h : Sim x N ⟨env, H⟩ φ a w) (op : BinOp) (t : TypeId) (o1 o2 : Operand) {p q : V} {vp vq : Value} (hp : VS w (owned x.X φ H) φ p vp) (hq : VS w (owned x.X φ H) φ q vq)
    {k : V → Prop} (hk : binD P op t p q k) : Gives P x N env a w (do eqGuard op t o1 o2 vp vq; Go.binOp op t vp vq) fun v H' => k v ∧ H' = H := by
  have fin : ∀ {v : Value} {c : V}, vp ≠ .nilIface → (∀ c, vp ≠ .agg c) → (Go.binOp op t vp vq).run P w = .ok v w → k c → VS w (owned x.X φ H) φ c v →
      Gives P x N env a w (do eqGuard op t o1 o2 vp vq; Go.binOp op t vp vq) fun v H' => k v ∧ H' = H := by
    intro v c h1 h2 hr hc hv
    refine Gives.same h (v := v) ?_ ⟨hc, rfl⟩ hv
    rw [Sem.run_bind, eqGuard_plain op t o1 o2 vp vq h1 h2]
    exact hr
  unfold binD at hk
  split at hk
  · rename_i kx p ky q
    simp only [VS, DS] at hp hq
    subst hp
    subst hq
    split at hk
    · obtain ⟨d, hd, hk⟩ := optK_spec hk
      obtain ⟨h1, h2⟩ := shiftI_run (P := P) (x := x) (H := H) (φ := φ) (w := w) (k' := ky) hd t
      exact fin (by simp) (by simp) h1 hk (by simpa [VS] using h2)
    · obtain ⟨d, hd, hk⟩ := optK_spec hk
      obtain ⟨h1, h2⟩ := shiftI_run (P := P) (x := x) (H := H) (φ := φ) (w := w) (k' := ky) hd t
      exact fin (by simp) (by simp) h1 hk (by simpa [VS] using h2)
    · rename_i hn1 hn2
      obtain ⟨rfl, hk⟩ := hk
      obtain ⟨d, hd, hk⟩ := optK_spec hk
      obtain ⟨h1, h2⟩ := binI_run (P := P) (x := x) (H := H) (φ := φ) (w := w) hd t ⟨hn1, hn2⟩
      exact fin (by simp) (by simp) h1 hk (by simpa [VS] using h2)
  · rename_i p q
    simp only [VS, DS] at hp hq
    subst hp
    subst hq
    split at hk
    · obtain ⟨hs, hk⟩ := hk
      refine fin (by simp) (by simp) (v := .string (p ++ q)) ?_ hk (by simp [VS, DS])
      have : ¬ (((p.size + q.size : Nat) : Int) > 9223372036854775807) := by omega
      simp only [Go.binOp, Op.stringOp, IntKind.max, IntKind.signed, IntKind.bits]
      simp at this ⊢
      omega
    · obtain ⟨d, hd, hk⟩ := optK_spec hk
      obtain ⟨h1, h2⟩ := strOp_run (P := P) (x := x) (H := H) (φ := φ) (w := w) hd t
      exact fin (by simp) (by simp) h1 hk (by simpa [VS] using h2)
  · rename_i p q
    simp only [VS, DS] at hp hq
    subst hp
    subst hq
    split at hk
    · rename_i hti
      obtain ⟨i, u, z, hi, hu, hz, e⟩ := tinfo_spec hti
      have hu' : u = .bool := tk_bool (by injection e; symm; assumption)
      subst hu'
      obtain ⟨d, hd, hk⟩ := optK_spec hk
      have heq : (Op.equal t (.bool p) (.bool q)).run P w = .ok (p == q) w := equalIn_bool 9999 hu p q
      cases op <;> simp only [eqOp] at hd <;> cases hd
      · exact fin (by simp) (by simp) (v := .bool (p == q)) (by simp [Go.binOp, heq]) hk (by simp [VS, DS])
      · exact fin (by simp) (by simp) (v := .bool (!(p == q))) (by simp [Go.binOp, heq]) hk (by simp [VS, DS])
    · exact hk.elim
  · split at hk
    · rename_i hti
      obtain ⟨i, u, z, hi, hu, hz, e⟩ := tinfo_spec hti
      obtain ⟨et, rfl⟩ : ∃ et, u = .pointer et := tk_ptr (by injection e; symm; assumption)
      simp only [VS, DS] at hq
      subst hq
      have go : ∀ (b : Bool), (Op.equal t vp (.pointer none)).run P w = .ok b w → (∃ ad, vp = .pointer ad) → optK (eqOp op b) k → Gives P x N env a w (do eqGuard op t o1 o2 vp (.pointer none); Go.binOp op t vp (.pointer none)) fun v H' => k v ∧ H' = H := by
        rintro b hb ⟨ad, rfl⟩ hk
        obtain ⟨d, hd, hk⟩ := optK_spec hk
        cases op <;> simp only [eqOp] at hd <;> cases hd
        · exact fin (by simp) (by simp) (v := .bool b) (by simp [Go.binOp, hb]) hk (by simp [VS, DS])
        · exact fin (by simp) (by simp) (v := .bool (!b)) (by simp [Go.binOp, hb]) hk (by simp [VS, DS])
      split at hk
      · simp only [VS, DS] at hp
        subst hp
        exact go true (equalIn_ptr 9999 hu _) ⟨_, rfl⟩ hk
      · simp only [VS] at hp
        obtain ⟨g, o, _, rfl⟩ := hp
        exact go false (equalIn_ptr 9999 hu _) ⟨_, rfl⟩ hk
      · simp only [VS, DS] at hp
        obtain ⟨ad, rfl, _⟩ := hp
        exact go false (equalIn_ptr 9999 hu _) ⟨_, rfl⟩ hk
      · exact hk.elim
    · exact hk.elim
  · split at hk
    · rename_i hti
      obtain ⟨i, u, z, hi, hu, hz, e⟩ := tinfo_spec hti
      obtain rfl := tk_slice (u := u) (by injection e; symm; assumption)
      simp only [VS, DS] at hq
      subst hq
      have go : ∀ (b : Bool), (Op.equal t vp (.slice none 0 0)).run P w = .ok b w → (∃ ad l c, vp = .slice ad l c) → optK (eqOp op b) k → Gives P x N env a w (do eqGuard op t o1 o2 vp (.slice none 0 0); Go.binOp op t vp (.slice none 0 0)) fun v H' => k v ∧ H' = H := by
        rintro b hb ⟨ad, l, c, rfl⟩ hk
        obtain ⟨d, hd, hk⟩ := optK_spec hk
        cases op <;> simp only [eqOp] at hd <;> cases hd
        · exact fin (by simp) (by simp) (v := .bool b) (by simp [Go.binOp, hb]) hk (by simp [VS, DS])
        · exact fin (by simp) (by simp) (v := .bool (!b)) (by simp [Go.binOp, hb]) hk (by simp [VS, DS])
      have eqs : ∀ ad l c, (Op.equal t (.slice ad l c) (.slice none 0 0)).run P w = .ok ad.isNone w := fun ad l c => equalIn_slice 9999 hu ad l c
      split at hk
      · simp only [VS, DS] at hp
        subst hp
        exact go true (eqs _ _ _) ⟨_, _, _, rfl⟩ hk
      · simp only [VS] at hp
        obtain ⟨g, o, A, cap, _, rfl, _⟩ := hp
        exact go false (eqs _ _ _) ⟨_, _, _, rfl⟩ hk
      · simp only [VS, DS] at hp
        obtain ⟨A, cap, rfl, _, hf⟩ := hp
        refine go A.isNone (eqs _ _ _) ⟨_, _, _, rfl⟩ (hk _ ?_)
        rintro ⟨h1, h2⟩
        obtain ⟨ad, rfl, _⟩ := hf 0 0 h1 h2
        rfl
      · exact hk.elim
    · exact hk.elim
  · exact hk.elim

theorem unD_gives (h : Sim x N ⟨env, H⟩ φ a w) (op : UnOp) {p : V} {vp : Value} (hp : VS w (owned x.X φ H) φ p vp)
    {k : V → Prop} (hk : unD op p k) : Gives P x N env a w (Op.unary op vp) fun v H' => k v ∧ H' = H := by
  unfold unD at hk
  split at hk
  · simp only [VS, DS] at hp
    subst hp
    exact Gives.same h (by simp [Op.unary, Op.intArith]; rfl) ⟨hk, rfl⟩ (by simp [VS, DS])
  · simp only [VS, DS] at hp
    subst hp
    exact Gives.same h (by simp [Op.unary]; rfl) ⟨hk, rfl⟩ (by simp [VS, DS])
  · exact hk.elim

theorem convertD_gives (h : Sim x N ⟨env, H⟩ φ a w) (src dst : TypeId) {p : V} {vp : Value} (hp : VS w (owned x.X φ H) φ p vp)
    {k : V → Prop} (hk : convertD P src dst p k) : Gives P x N env a w (Go.convert src dst vp) fun v H' => k v ∧ H' = H := by
  unfold convertD at hk
  split at hk
  · rename_i ts td hs hd
    obtain ⟨i, u, z, hi, hu, hz, e⟩ := tinfo_spec hs
    obtain ⟨i', u', z', hi', hu', hz', e'⟩ := tinfo_spec hd
    split at hk
    · rename_i kd kx n hkind
      obtain rfl := tk_int (u := u') (by rw [e'] at hkind; exact hkind)
      simp only [VS, DS] at hp
      subst hp
      refine Gives.same h (v := .int kd (kd.wrap n)) ?_ ⟨hk, rfl⟩ (by simp [VS, DS])
      cases u <;> simp [Go.convert, run_underlying hu, run_underlying hu', Conv.intToInt]
    · rename_i s hkind
      obtain rfl := tk_str (u := u') (by rw [e'] at hkind; exact hkind)
      simp only [VS, DS] at hp
      subst hp
      refine Gives.same h (v := .string s) ?_ ⟨hk, rfl⟩ (by simp [VS, DS])
      cases u <;> simp [Go.convert, run_underlying hu, run_underlying hu']
    · exact hk.elim
  · exact hk.elim

theorem extractD_gives (h : Sim x N ⟨env, H⟩ φ a w) {p : V} {vp : Value} (hp : VS w (owned x.X φ H) φ p vp) (i : Nat)
    {k : V → Prop} (hk : extractD p i k) : Gives P x N env a w (Instr.extract vp i) fun v H' => k v ∧ H' = H := by
  unfold extractD at hk
  split at hk
  · rename_i l
    obtain ⟨c, hc, hk⟩ := hk
    simp only [VS] at hp
    obtain ⟨cs, rfl, hv⟩ := hp
    obtain ⟨v, hv1, hv2⟩ := VSs.get l _ hv i c hc
    refine Gives.same h (v := v) ?_ ⟨hk, rfl⟩ hv2
    have : cs[i]? = some v := by simpa using hv1
    simp [Instr.extract, this]
  · exact hk.elim

theorem lenD_gives (h : Sim x N ⟨env, H⟩ φ a w) (t ty : TypeId) {p : V} {vp : Value} (hp : VS w (owned x.X φ H) φ p vp)
    {k : V → Prop} (hk : lenD P t p k) : Gives P x N env a w (Builtin.len_ #[t] ty #[vp]) fun v H' => k v ∧ H' = H := by
  unfold lenD at hk
  split at hk
  all_goals first | exact hk.elim | skip
  all_goals
    rename_i hti
    obtain ⟨i, u, z, hi, hu, hz, e⟩ := tinfo_spec hti
  · obtain rfl := tk_str (u := u) (by injection e; symm; assumption)
    simp only [VS, DS] at hp
    subst hp
    exact Gives.same h (v := _) (by simp [Builtin.len_, run_underlying hu, goInt]; rfl) ⟨hk, rfl⟩ (by simp [VS, DS])
  · obtain rfl := tk_slice (u := u) (by injection e; symm; assumption)
    simp only [VS] at hp
    obtain ⟨g, o, A, cap, _, rfl, _⟩ := hp
    exact Gives.same h (v := _) (by simp [Builtin.len_, run_underlying hu, goInt]; rfl) ⟨hk, rfl⟩ (by simp [VS, DS])
  · obtain rfl := tk_slice (u := u) (by injection e; symm; assumption)
    simp only [VS, DS] at hp
    obtain ⟨A, cap, rfl, _⟩ := hp
    exact Gives.same h (v := _) (by simp [Builtin.len_, run_underlying hu, goInt]; rfl) ⟨hk, rfl⟩ (by simp [VS, DS])
  · obtain rfl := tk_slice (u := u) (by injection e; symm; assumption)
    simp only [VS, DS] at hp
    subst hp
    exact Gives.same h (v := _) (by simp [Builtin.len_, run_underlying hu, goInt]; rfl) ⟨hk, rfl⟩ (by simp [VS, DS])

end
end Go.Proofs.Ytpakdkiceoknjaa
