/- The abstract machine, part 6: addresses of fields and elements, parts of slices and strings, structs. No condition. -/
import Derived.Test.YtpakdkiceoknjaaA5
namespace Go.Proofs.Ytpakdkiceoknjaa
set_option linter.unusedVariables false
set_option linter.unusedSimpArgs false

section
variable {P : Program} {x : Ctx} {N : Nat} {env : Env} {H : Heap} {φ : List (Nat × Nat)} {a : Act} {w : World}

theorem add_add (p : Addr) (i j : Nat) : (p.add i).add j = p.add (i + j) := by
  unfold Addr.add
  by_cases hi : i = 0 <;> by_cases hj : j = 0 <;> simp_all [Nat.add_assoc]
theorem add_plain' (g o n : Nat) : (⟨g, o, none⟩ : Addr).add n = ⟨g, o + n, none⟩ := by unfold Addr.add; split <;> simp_all

theorem fieldAddrD_gives (h : Sim x N ⟨env, H⟩ φ a w) (s : TypeId) {p : V} {vp : Value} (hp : VS w (owned x.X φ H) φ p vp) (f : Nat)
    {k : V → Prop} (hk : fieldAddrD P s p f k) : Gives P x N env a w (Instr.fieldAt s vp f) fun v H' => k v ∧ H' = H := by
  unfold fieldAddrD at hk
  split at hk
  case h_2 => exact hk.elim
  rename_i flds hti
  obtain ⟨i, u, z, hi, hu, hz, e⟩ := tinfo_spec hti
  obtain ⟨fs, rfl, hfl⟩ := tk_struct (u := u) (l := flds) (by injection e; symm; assumption)
  split at hk
  case h_2 => exact hk.elim
  rename_i off ft size hfld
  obtain ⟨hsz, hk⟩ := hk
  obtain ⟨fd, hfd, hoff, hft, hsize⟩ : ∃ fd : Field, fs[f]? = some fd ∧ fd.offset = off ∧ fd.type = ft ∧ P.cellsOf fd.type = size := by
    rw [hfl] at hfld
    simp only [List.getElem?_map, Option.map_eq_some_iff] at hfld
    obtain ⟨fd, h1, h2⟩ := hfld
    simp only [Prod.mk.injEq] at h2
    exact ⟨fd, by simpa using h1, h2.1, h2.2.1, h2.2.2⟩
  have hso : ∀ ad : Addr, (fieldPlace ad fd).run P w = .ok (ad.add off) w := by
    intro ad
    unfold Program.cellsOf at hsize
    cases hq : P.info? fd.type with
    | none => rw [hq] at hsize; simp at hsize; omega
    | some j =>
      rw [hq] at hsize
      simp at hsize
      have : ¬ j.size = 0 := by omega
      simp [fieldPlace, sizeOf, typeInfo, hq, this, hoff]
  have hrun : ∀ ad : Addr, (Instr.fieldAt s (.pointer (some ad)) f).run P w = .ok (.pointer (some (ad.add off))) w := by
    intro ad
    simp [Instr.fieldAt, run_underlying hu, hfd, Instr.sureAddr, hso]
  split at hk
  · rename_i n g
    obtain ⟨hlt, hk⟩ := hk
    simp only [VS, DS] at hp
    obtain ⟨ad, rfl, hf⟩ := hp
    refine Gives.same h (hrun ad) ⟨hk, rfl⟩ ?_
    simp only [VS, DS]
    refine ⟨ad.add off, rfl, fun j hj => ?_⟩
    obtain ⟨h1, c, h2, h3⟩ := hf (off + j) (by omega)
    rw [add_block, add_add]
    exact ⟨h1, c, h2, h3⟩
  · rename_i id e i1 j1
    simp only [VS] at hp
    obtain ⟨g, o, hφ, rfl⟩ := hp
    refine Gives.same h (hrun _) ⟨hk, rfl⟩ ?_
    simp only [VS]
    refine ⟨g, o, hφ, ?_⟩
    rw [add_plain']
    simp [Nat.add_assoc]
  · exact hk.elim

theorem VSs.seg {own : Nat → Prop} {l : List V} {cs : Array Value} (h : VSs w own φ l cs.toList) (off n : Nat) : VSs w own φ ((l.drop off).take n) ((cs.extract off (off + n)).toList) := by
  have hl := VSs.length _ _ h
  refine VSs_of _ _ (by simp at hl ⊢; omega) fun j c v hc hv => ?_
  rw [List.getElem?_take] at hc
  split at hc
  · rw [List.getElem?_drop] at hc
    obtain ⟨v', h1, h2⟩ := VSs.get _ _ h _ c hc
    have : v' = v := by
      simp only [Array.toList_extract, List.extract_eq_take_drop, List.getElem?_take, List.getElem?_drop] at hv
      split at hv
      · rw [h1] at hv; exact Option.some.inj hv
      · cases hv
    exact this ▸ h2
  · cases hc

theorem fieldD_gives (h : Sim x N ⟨env, H⟩ φ a w) (s : TypeId) {p : V} {vp : Value} (hp : VS w (owned x.X φ H) φ p vp) (f : Nat)
    {k : V → Prop} (hk : fieldD P s p f k) : Gives P x N env a w (Instr.field s vp f) fun v H' => k v ∧ H' = H := by
  unfold fieldD at hk
  split at hk
  case h_2 => exact hk.elim
  rename_i flds hti
  obtain ⟨i, u, z, hi, hu, hz, e⟩ := tinfo_spec hti
  obtain ⟨fs, rfl, hfl⟩ := tk_struct (u := u) (l := flds) (by injection e; symm; assumption)
  split at hk
  case h_2 => exact hk.elim
  rename_i off ft size hfld
  obtain ⟨fd, hfd, hoff, hft⟩ : ∃ fd : Field, fs[f]? = some fd ∧ fd.offset = off ∧ fd.type = ft := by
    rw [hfl] at hfld
    simp only [List.getElem?_map, Option.map_eq_some_iff] at hfld
    obtain ⟨fd, h1, h2⟩ := hfld
    simp only [Prod.mk.injEq] at h2
    exact ⟨fd, by simpa using h1, h2.1, h2.2.1⟩
  split at hk
  case h_2 => exact hk.elim
  rename_i tf l htf
  obtain ⟨i', u', z', hi', hu', hz', e'⟩ := tinfo_spec htf
  subst e'
  obtain ⟨hlen, hs, hk⟩ := hk
  simp only at hlen hs hk
  simp only [VS] at hp
  obtain ⟨cs, rfl, hv⟩ := hp
  have hl := VSs.length _ _ hv
  have hseg := VSs.seg hv off i'.size
  subst hft
  subst hoff
  have hr : (part fd.type cs fd.offset).run P w = .ok (if isAggT u' then .agg (cs.extract fd.offset (fd.offset + i'.size)) else ((cs.extract fd.offset (fd.offset + i'.size)).toList).headD Go.undef) w := by
    by_cases ha : isAggT u' = true
    · have hi2 : (isAgg fd.type).run P w = .ok true w := by
        unfold isAgg
        simp only [Sem.run_bind, run_underlying hu', Result.andThen_ok]
        cases u' <;> simp [isAggT] at ha <;> simp
      simp [part, hi2, ha, sizeOf, typeInfo, hi']
    · have hi2 : (isAgg fd.type).run P w = .ok false w := by
        unfold isAgg
        simp only [Sem.run_bind, run_underlying hu', Result.andThen_ok]
        cases u' <;> simp [isAggT] at ha <;> simp
      have h1 : i'.size = 1 := hs.resolve_left ha
      have hlt : fd.offset < cs.size := by simp at hl; omega
      have hg : cs[fd.offset]? = some cs[fd.offset] := Array.getElem?_eq_getElem hlt
      have hx : ((cs.extract fd.offset (fd.offset + i'.size)).toList).headD Go.undef = cs[fd.offset] := by
        rw [h1, List.headD_eq_head?_getD, List.head?_eq_getElem?]
        simp [List.getElem?_take, hlt]
      rw [hx]
      simp [part, hi2, ha, hg]
  have hrun : (Instr.field s (.agg cs) f).run P w = (part fd.type cs fd.offset).run P w := by simp [Instr.field, run_underlying hu, hfd, asAgg]
  refine Gives.same h (hrun.trans hr) ⟨hk, rfl⟩ ?_
  have := asVal_spec (x := x) (agg := isAggT u') hseg (hs.imp (fun q => q) (fun q => by simp; omega))
  have e2 : (cs.extract fd.offset (fd.offset + i'.size)).toList.toArray = cs.extract fd.offset (fd.offset + i'.size) := rfl
  rw [e2] at this
  exact this

theorem indexAddrD_gives (h : Sim x N ⟨env, H⟩ φ a w) (t : TypeId) {p q : V} {vp vq : Value} (hp : VS w (owned x.X φ H) φ p vp) (hq : VS w (owned x.X φ H) φ q vq)
    {k : V → Prop} (hk : indexAddrD P t p q k) : Gives P x N env a w (Instr.indexAt t vp vq) fun v H' => k v ∧ H' = H := by
  unfold indexAddrD at hk
  split at hk
  case h_2 => exact hk.elim
  rename_i et hti
  obtain ⟨i, u, z, hi, hu, hz, e⟩ := tinfo_spec hti
  obtain rfl := tk_slice (u := u) (by injection e; symm; assumption)
  split at hk
  case h_2 => exact hk.elim
  rename_i te kq ix hte
  obtain ⟨i', u', z', hi', hu', hz', e'⟩ := tinfo_spec hte
  subst e'
  simp only at hk
  simp only [VS, DS] at hq
  subst hq
  have hrun : ∀ (ad : Addr) (n cap : Nat), 0 ≤ ix ∧ ix < n → (Instr.indexAt t (.slice (some ad) n cap) (.int kq ix)).run P w = .ok (.pointer (some (ad.add (ix.toNat * i'.size)))) w := by
    intro ad n cap hb
    simp [Instr.indexAt, asIntOf, run_underlying hu, sizeOf, typeInfo, hi', hb.1, hb.2]
  split at hk
  · rename_i e1 n f
    obtain ⟨⟨rfl, hpos⟩, hb, hk⟩ := hk
    simp only [VS, DS] at hp
    obtain ⟨A, cap, rfl, _, hf⟩ := hp
    obtain ⟨ad, rfl, _⟩ := hf ix.toNat 0 (by omega) hpos
    · refine Gives.same h (hrun ad n cap hb) ⟨hk, rfl⟩ ?_
      simp only [VS, DS]
      refine ⟨_, rfl, fun j hj => ?_⟩
      obtain ⟨ad', he, h1, c, h2, h3⟩ := hf ix.toNat j (by omega) hj
      cases he
      rw [add_block, add_add]
      exact ⟨h1, c, h2, h3⟩
  · rename_i id e1 off n
    obtain ⟨rfl, hb, hk⟩ := hk
    simp only [VS] at hp
    obtain ⟨g, o, A, cap, hφ, rfl, hcap, hA, hroom⟩ := hp
    have hA' : A = ⟨g, o + off * i'.size, none⟩ := hA.resolve_left (by omega)
    subst hA'
    refine Gives.same h (hrun _ n cap hb) ⟨hk, rfl⟩ ?_
    simp only [VS]
    refine ⟨g, o, hφ, ?_⟩
    rw [add_plain', Nat.add_mul]
    simp [Nat.add_assoc]
  · exact hk.elim

theorem indexD_gives (h : Sim x N ⟨env, H⟩ φ a w) (t : TypeId) {p q : V} {vp vq : Value} (hp : VS w (owned x.X φ H) φ p vp) (hq : VS w (owned x.X φ H) φ q vq)
    {k : V → Prop} (hk : indexD P t p q k) : Gives P x N env a w (Instr.index t vp vq) fun v H' => k v ∧ H' = H := by
  unfold indexD at hk
  split at hk
  case h_2 => exact hk.elim
  rename_i hti
  obtain ⟨i, u, z, hi, hu, hz, e⟩ := tinfo_spec hti
  obtain rfl := tk_str (u := u) (by injection e; symm; assumption)
  split at hk
  case h_2 => exact hk.elim
  rename_i s kq ix
  obtain ⟨⟨h0, h1⟩, hk⟩ := hk
  simp only [VS, DS] at hp hq
  subst hp
  subst hq
  have hlt : ix.toNat < s.size := by omega
  have hg : s[ix.toNat]? = some s[ix.toNat]! := by rw [getElem?_pos s _ hlt, getElem!_pos s _ hlt]
  refine Gives.same h (v := .int .u8 (s[ix.toNat]!).toNat) ?_ ⟨hk, rfl⟩ (by simp only [VS, DS])
  simp [Instr.index, asIntOf, run_underlying hu, h0, hg]

end
end Go.Proofs.Ytpakdkiceoknjaa
