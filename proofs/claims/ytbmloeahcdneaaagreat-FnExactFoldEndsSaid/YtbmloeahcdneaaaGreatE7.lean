/- The abstract machine: regions that draw their order, which store into one place and build a slice. No condition. -/
import Derived.Test.YtbmloeahcdneaaaGreatE6
namespace Go.Proofs.YtbmloeahcdneaaaGreat
set_option linter.unusedVariables false
set_option linter.unusedSimpArgs false
def isBS : Op → Bool
  | .buildSlice .. => true
  | _ => false
def sideZ (i0 : Nat) (env : Env) (H : Heap) (o : Op) : Prop := sideA i0 env o ∧ (isBS o = true → i0 < H.length)
def opZ (P : Program) (Γ : Table) (own : List FuncId) (i0 : Nat) (env : Env) (H : Heap) (o : Op) (k : V → Heap → Prop) : Prop := sideZ i0 env H o ∧ opT P Γ own env H o k
def stepZ (P : Program) (Γ : Table) (own : List FuncId) (i0 : Nat) (all : List (Option Nat)) (o : SOp) (env : Env) (H : Heap) (K : Env → Heap → Prop) : Prop :=
  match o.guard with
  | none => opZ P Γ own i0 env H o.op fun v H' => K (updO env o.dst v) H'
  | some _ => False
def opsZ (P : Program) (Γ : Table) (own : List FuncId) (i0 : Nat) (all : List (Option Nat)) : List SOp → Env → Heap → (Env → Heap → Prop) → Prop
  | [], env, H, k => k env H
  | o :: rest, env, H, k => stepZ P Γ own i0 all o env H fun e h => opsZ P Γ own i0 all rest e h k
def lateZ (own : List FuncId) (o : Op) : Bool := match clA own o with | .pure => true | .put => true | _ => false
def indepZ (own : List FuncId) (all : List (Option Nat)) (z y : SOp) : Bool := indepA own all z y || (apartB all z y && (isBS z.op && lateZ own y.op))
section
variable {P : Program} {Γ : Table} {own : List FuncId} {i0 : Nat} {all : List (Option Nat)}
theorem stepZ_A {z : SOp} {env : Env} {H : Heap} {K : Env → Heap → Prop} (h : stepZ P Γ own i0 all z env H K) : stepA P Γ own i0 all z env H K := by
  unfold stepZ at h
  unfold stepA
  split at h
  · rename_i e; simp only [e]; exact ⟨h.1.1, h.2⟩
  · exact h.elim
theorem stepZ_of {z : SOp} {env : Env} {H : Heap} {K : Env → Heap → Prop} (hz : isBS z.op = true → i0 < H.length) (h : stepA P Γ own i0 all z env H K) : stepZ P Γ own i0 all z env H K := by
  unfold stepA at h
  unfold stepZ
  split at h
  · rename_i e; simp only [e]; exact ⟨⟨h.1, hz⟩, h.2⟩
  · exact h.elim
theorem stepZ_side {z : SOp} {env : Env} {H : Heap} {K : Env → Heap → Prop} (h : stepZ P Γ own i0 all z env H K) : isBS z.op = true → i0 < H.length := by
  unfold stepZ at h
  split at h
  · exact h.1.2
  · exact h.elim
theorem stepZ_mono {o : SOp} {env : Env} {H : Heap} {K K' : Env → Heap → Prop} (h : stepZ P Γ own i0 all o env H K) (hk : ∀ e h, K e h → K' e h) : stepZ P Γ own i0 all o env H K' := stepZ_of (stepZ_side h) (stepA_mono (stepZ_A h) hk)
theorem stepZ_stepT {o : SOp} {env : Env} {H : Heap} {K : Env → Heap → Prop} (h : stepZ P Γ own i0 all o env H K) : stepT P Γ own all o env H K := stepA_stepT (stepZ_A h)
theorem clA_bs {o : Op} (h : isBS o = true) : clA own o = .no := by
  cases o <;> first | (simp only [isBS] at h; cases h; done) | rfl
theorem clA_put {o : Op} (h : clA own o = .put) : ∃ t a c, o = .store t a c := by
  cases o
  case store t a c => exact ⟨_, _, _, rfl⟩
  all_goals (simp only [clA] at h; try (split at h <;> cases h))
  all_goals cases h
theorem bs_form {t : TypeId} {n : Nat} {ps : List (Nat × V)} {H : Heap} {k : V → Heap → Prop} (h : buildSliceD P t n ps H k) : ∃ e row, k (.sl H.length e 0 n) (H ++ [row]) ∧ ∀ (H' : Heap) (k' : V → Heap → Prop), k' (.sl H'.length e 0 n) (H' ++ [row]) → buildSliceD P t n ps H' k' := by
  unfold buildSliceD at h ⊢
  split at h
  · split at h
    · exact ⟨_, _, h.2, fun H' k' hk => ⟨h.1, hk⟩⟩
    · exact h.elim
  · exact h.elim
theorem store_append {ti : Option TI} {a x : V} {H : Heap} {row : Place} {k : Heap → Prop} (ha : onIt i0 a = true) (hl : i0 < H.length) (h : storeD ti a x (H ++ [row]) k) : storeD ti a x H fun H' => H'.length = H.length ∧ k (H' ++ [row]) := by
  unfold storeD at h ⊢
  split at h
  · exact h.elim
  · split at h
    · rename_i id e i j
      have he : id = i0 := by simpa [onIt] using ha
      rw [List.getElem?_append_left (by omega)] at h
      cases hid : H[id]? with
      | none => rw [hid] at h; exact h.elim
      | some p =>
        rw [hid] at h
        cases p with
        | dead => exact h.elim
        | row e' es =>
          obtain ⟨h1, l, h2, h3, h4, h5, h6⟩ := h
          refine ⟨h1, l, h2, h3, h4, h5, by simp, ?_⟩
          rw [← List.set_append_left _ _ (show id < H.length by omega)]
          exact h6
    · exact h.elim
theorem storeD_mono {ti : Option TI} {a x : V} {H : Heap} {k k' : Heap → Prop} (h : storeD ti a x H k) (hk : ∀ h, k h → k' h) : storeD ti a x H k' := by
  unfold storeD at h ⊢
  split at h
  · exact h.elim
  · split at h
    · split at h
      · obtain ⟨h1, l, h2, h3, h4, h5, h6⟩ := h
        exact ⟨h1, l, h2, h3, h4, h5, hk _ h6⟩
      · exact h.elim
    · exact h.elim
theorem swapZ {z y : SOp} (hi : indepZ own all z y = true) {env : Env} {H : Heap} {K : Env → Heap → Prop} (h : stepZ P Γ own i0 all z env H fun e h => stepZ P Γ own i0 all y e h K) :
    stepZ P Γ own i0 all y env H fun e h => stepZ P Γ own i0 all z e h K := by
  rcases (Bool.or_eq_true _ _).mp hi with hi | hi
  · have hz : isBS z.op = false := by
      cases hb : isBS z.op with
      | false => rfl
      | true =>
        simp only [indepA, clA_bs hb, Bool.and_false] at hi
        cases hi
    have hA : stepA P Γ own i0 all z env H fun e h => stepA P Γ own i0 all y e h fun e' h' => K e' h' ∧ True := by
      refine stepA_mono (stepZ_A h) fun e h q => stepA_mono (stepZ_A q) fun e' h' q' => ⟨q', trivial⟩
    have hy : isBS y.op = true → i0 < H.length := by
      intro hb
      have := stepZ_A h
      -- z does not change the length: it is pure or a load
      simp only [indepA, apartB, Bool.and_eq_true] at hi
      have hc : clA own z.op = .pure ∨ clA own z.op = .get := by
        have a3 := hi.2
        split at a3
        · exact .inl (by assumption)
        · exact .inr (by assumption)
        · cases a3
      obtain ⟨v, q, _⟩ := yieldA hc this
      exact stepZ_side q hb
    have hs := swapA hi (stepA_mono (stepZ_A h) fun e h q => stepZ_A q)
    refine stepZ_of hy (stepA_mono hs fun e h q => stepZ_of (fun hb => by rw [hz] at hb; cases hb) q)
  · simp only [apartB, Bool.and_eq_true] at hi
    obtain ⟨⟨a1, a2⟩, a3, a4⟩ := hi
    have d1 : ∀ t ∈ looks all y, z.dst ≠ some t := by
      intro t ht e
      rw [e] at a1
      simp at a1
      exact a1.1 ht
    have d2 : ∀ x, z.dst = some x → y.dst ≠ some x := by
      intro x e
      rw [e] at a1
      simp at a1
      exact a1.2
    have d3 : ∀ t ∈ looks all z, y.dst ≠ some t := by
      intro t ht e
      rw [e] at a2
      simp at a2
      exact a2 ht
    have hl := stepZ_side h a3
    obtain ⟨zd, zo, zg⟩ := z
    cases zo
    case buildSlice t n ps =>
      unfold stepZ at h
      split at h
      · rename_i hg
        simp only [] at hg
        subst hg
        obtain ⟨_, h⟩ := h
        simp only [opT, opD] at h
        obtain ⟨e, row, h1, h2⟩ := bs_form h
        have h1 : stepZ P Γ own i0 all y (updO env zd (.sl H.length e 0 n)) (H ++ [row]) K := h1
        have hz : ∀ (env' : Env) (H' : Heap) (K' : Env → Heap → Prop), (∀ t ∈ looks all ⟨zd, .buildSlice t n ps, none⟩, env' t = env t) → i0 < H'.length → K' (updO env' zd (.sl H'.length e 0 n)) (H' ++ [row]) → stepZ P Γ own i0 all ⟨zd, .buildSlice t n ps, none⟩ env' H' K' := by
          intro env' H' K' ha hl' hk
          unfold stepZ
          refine ⟨⟨trivial, fun _ => hl'⟩, ?_⟩
          rw [opT_env (looks_ev (all := all) (o := ⟨zd, .buildSlice t n ps, none⟩) ha)]
          simp only [opT, opD]
          exact h2 H' _ hk
        simp only [lateZ] at a4
        cases hc : clA own y.op with
        | pure =>
          obtain ⟨v, q1, q2⟩ := yieldA (.inl hc) (stepZ_A h1)
          have hyb : isBS y.op = true → i0 < H.length := fun _ => hl
          refine stepZ_of hyb (q2 env H (fun t ht => (updO_ne (d1 t ht)).symm) (fun hr => by rw [hc] at hr; cases hr) _ ?_)
          refine hz _ _ _ (fun t ht => updO_ne (d3 t ht)) hl ?_
          rw [← updO_comm d2]
          exact q1
        | put =>
          obtain ⟨yd, yo, yg⟩ := y
          obtain ⟨ty, ay, cy, rfl⟩ := clA_put hc
          unfold stepZ at h1 ⊢
          split at h1
          · rename_i hg2
            simp only [] at hg2
            subst hg2
            obtain ⟨⟨s1, _⟩, h1⟩ := h1
            have agree : ∀ t ∈ looks all ⟨yd, .store ty ay cy, none⟩, env t = updO env zd (.sl H.length e 0 n) t := fun t ht => (updO_ne (d1 t ht)).symm
            have hev := looks_ev (all := all) (o := ⟨yd, .store ty ay cy, none⟩) agree
            refine ⟨⟨sideA_env hev s1, fun hb => by simp [isBS] at hb⟩, ?_⟩
            rw [opT_env hev]
            simp only [opT, opD] at h1 ⊢
            have hst := store_append (by simpa [sideA] using s1) hl h1
            refine (storeD_mono hst) ?_
            rintro H' ⟨e1, e2⟩
            refine hz _ _ _ (fun t ht => updO_ne (d3 t ht)) (by omega) ?_
            rw [← updO_comm d2, e1]
            exact e2
          · exact h1.elim
        | get => rw [hc] at a4; cases a4
        | no => rw [hc] at a4; cases a4
      · exact h.elim
    all_goals (simp only [isBS] at a3; cases a3)
theorem bubbleZ {y : SOp} {l2 : List SOp} {k : Env → Heap → Prop} : ∀ (l1 : List SOp), (∀ z ∈ l1, indepZ own all z y = true) → ∀ (env : Env) (H : Heap), opsZ P Γ own i0 all (l1 ++ y :: l2) env H k →
    stepZ P Γ own i0 all y env H fun e h => opsZ P Γ own i0 all (l1 ++ l2) e h k
  | [], _, env, H, h => h
  | z :: l1, hz, env, H, h => by
    refine swapZ (hz z List.mem_cons_self) ?_
    exact stepZ_mono h fun e h' q => bubbleZ l1 (fun z hm => hz z (List.mem_cons_of_mem _ hm)) e h' q
end
def pairsZ (own : List FuncId) (ops : Array Oper) (all : List (Option Nat)) : List Nat → Bool
  | [] => true
  | z :: l => (l.all fun y => indepZ own all (sop ops z) (sop ops y) || reachB ops 5 y z) && pairsZ own ops all l
def ordZ (own : List FuncId) (ops : Array Oper) (ord : List Nat) : Bool :=
  edgesOk ops.toList 0 && decide ord.Nodup && (List.range ops.size).all (fun j => ord.contains j) && ord.all (fun j => decide (j < ops.size)) && pairsZ own ops (ops.toList.map (·.dst)) ord
section
variable {P : Program} {Γ : Table} {own : List FuncId} {x : Ctx} {N i0 : Nat}
theorem pairsZ_spec {ops : Array Oper} {all : List (Option Nat)} : ∀ (l : List Nat), pairsZ own ops all l = true → l.Pairwise (fun z y => indepZ own all (sop ops z) (sop ops y) = true ∨ reachB ops 5 y z = true)
  | [], _ => .nil
  | z :: l, h => by
    simp only [pairsZ, Bool.and_eq_true, List.all_eq_true, Bool.or_eq_true] at h
    exact .cons (fun y hy => h.1 y hy) (pairsZ_spec l h.2)
theorem opsZ_any (hΓ : Good P Γ) {ops : Array Oper} (hok : ∀ (i : Nat) (o : Oper), ops[i]? = some o → opOk N o = true) (hedge : ∀ (i : Nat) (o : Oper), ops[i]? = some o → ∀ e ∈ o.after, Region.binds .any e = true → e.on < i) {k : Env → Heap → Prop} {Q : Exit → Act → World → Prop}
    (hq : ∀ env H φ a w, k env H → Sim x N ⟨env, H⟩ φ a w → Q .normal a w) :
    ∀ (fuel : Nat) (l : List Nat) (listed : Array Bool) (env : Env) (H : Heap) (φ : List (Nat × Nat)) (a : Act) (w : World), l.length ≤ fuel → l.Nodup → listed.size = ops.size → (∀ j, j ∈ l → j < ops.size) →
      (∀ j, j < ops.size → (listed.getD j true = false ↔ j ∈ l)) → (∀ (j : Nat) (o : Oper), ops[j]? = some o → j ∉ l → ∀ e ∈ o.after, Region.binds .any e = true → e.on ∉ l) →
      l.Pairwise (fun z y => indepZ own (ops.toList.map (·.dst)) (sop ops z) (sop ops y) = true ∨ reachB ops 5 y z = true) →
      opsZ P Γ own i0 (ops.toList.map (·.dst)) (l.map (sop ops)) env H k → Sim x N ⟨env, H⟩ φ a w → wpAny P .any ops Q fuel listed a w := by
  intro fuel
  induction fuel with
  | zero =>
    intro l listed env H φ a w hlen _ hsz hlt hiff _ _ h hs
    obtain rfl : l = [] := List.eq_nil_of_length_eq_zero (by omega)
    refine ⟨?_, hq _ _ _ _ _ h hs⟩
    cases hr : Region.ready .any ops listed with
    | nil => rfl
    | cons i rs =>
      have hi : i ∈ Region.ready .any ops listed := by rw [hr]; simp
      obtain ⟨h0, o, ho, _⟩ := mem_ready.1 hi
      have := (hiff i (Array.getElem?_eq_some_iff.1 ho).1).1 h0
      simp at this
  | succ fuel ih =>
    intro l listed env H φ a w hlen hnd hsz hlt hiff hdown hpair h hs
    have notin : ∀ j, listed.getD j false = true → j ∉ l := by
      intro j hj hm
      have h1 := hlt j hm
      have h2 := (hiff j h1).2 hm
      have h3 : j < listed.size := by omega
      simp [h3] at hj h2
      rw [h2] at hj
      cases hj
    refine ⟨fun hr => ?_, fun i hi => ?_⟩
    · cases l with
      | nil => exact hq _ _ _ _ _ h hs
      | cons z l =>
        exfalso
        obtain ⟨m, hm, hmin⟩ := least (z :: l) (by simp)
        have hml := hlt m hm
        have : m ∈ Region.ready .any ops listed := by
          refine mem_ready.2 ⟨(hiff m hml).2 hm, ops[m], Array.getElem?_eq_getElem hml, fun e he hbb => ?_⟩
          have h1 := hedge m _ (Array.getElem?_eq_getElem hml) e he hbb
          have h2 : e.on ∉ z :: l := fun hx => by have := hmin _ hx; omega
          have h3 : listed.getD e.on true ≠ false := fun hx => h2 ((hiff e.on (by omega)).1 hx)
          have h4 : e.on < listed.size := by omega
          simp [h4] at h3 ⊢
          exact h3
        rw [hr] at this
        cases this
    · obtain ⟨h0, o, ho, hall⟩ := mem_ready.1 hi
      have hil : i < ops.size := (Array.getElem?_eq_some_iff.1 ho).1
      have him : i ∈ l := (hiff i hil).1 h0
      obtain ⟨l1, l2, rfl⟩ := List.append_of_mem him
      have hready : ∀ o', ops[i]? = some o' → ∀ e ∈ o'.after, Region.binds .any e = true → e.on ∉ l1 ++ i :: l2 := by
        intro o' ho' e he hb
        rw [ho] at ho'
        cases ho'
        exact notin _ (hall e he hb)
      have hz : ∀ z ∈ l1, indepZ own (ops.toList.map (·.dst)) (sop ops z) (sop ops i) = true := by
        intro z hz
        have := (List.pairwise_append.1 hpair).2.2 z hz i (by simp)
        rcases this with h | h
        · exact h
        · exact absurd (List.mem_append_left _ hz) (reach_spec hdown 5 i h hready)
      rw [List.map_append, List.map_cons] at h
      have hb := bubbleZ (l1.map (sop ops)) (by simpa using hz) env H h
      refine stepT_wp hΓ ho (hok i o ho) hs (stepZ_stepT hb) ?_
      intro env' H' φ' a' w' hk hs'
      have hi1 : i ∉ l1 ++ l2 := by
        have := hnd
        rw [List.nodup_append] at this
        obtain ⟨_, h2, h3⟩ := this
        rw [List.nodup_cons] at h2
        intro hx
        rcases List.mem_append.1 hx with hx | hx
        · exact h3 i hx i (by simp) rfl
        · exact h2.1 hx
      have hsub : (l1 ++ l2).Sublist (l1 ++ i :: l2) := List.Sublist.append (List.Sublist.refl _) (List.sublist_cons_self _ _)
      refine ih (l1 ++ l2) (listed.setIfInBounds i true) env' H' φ' a' w' (by simp at hlen ⊢; omega) (hnd.sublist hsub) (by simpa using hsz) (fun j hj => hlt j (hsub.subset hj)) ?_ ?_ (hpair.sublist hsub) (by rw [List.map_append]; exact hk) hs'
      · intro j hj
        by_cases hji : i = j
        · subst hji
          have : i < listed.size := by omega
          simp [this]
          simpa using hi1
        · rw [getD_set_ne true hji, hiff j hj]
          simp only [List.mem_append, List.mem_cons]
          constructor
          · rintro (h | h | h)
            · exact .inl h
            · exact absurd h.symm hji
            · exact .inr h
          · rintro (h | h)
            · exact .inl h
            · exact .inr (.inr h)
      · intro j o' ho' hj e he hbb hx
        have hx' := hsub.subset hx
        by_cases hji : j = i
        · subst hji
          exact hready o' ho' e he hbb hx'
        · refine hdown j o' ho' ?_ e he hbb hx'
          intro hm
          apply hj
          simp only [List.mem_append, List.mem_cons] at hm ⊢
          rcases hm with h | h | h
          · exact .inl h
          · exact absurd h hji
          · exact .inr h

/-- A region that draws its order: stores into one place. -/
theorem W_drawZ (hm : P.follows .mixedOrders = true) (hΓ : Good P Γ) (K : List Nat) (own : List FuncId) (ord : List Nat) (i0 : Nat) {n0 id : Nat} {ops : Array Oper} {Q : Exit → St → Prop} {s : St} (hok : ops.toList.all (opOk N) = true) (ho : ordZ own ops ord = true)
    (h : opsZ P Γ own i0 (ops.toList.map (·.dst)) (ord.map (sop ops)) s.env s.H fun env H => Q .normal ⟨keep K env, H⟩) : W P N n0 (.region id ops true) Q s := by
  simp only [ordZ, Bool.and_eq_true, List.all_eq_true, decide_eq_true_eq] at ho
  obtain ⟨⟨⟨⟨o1, o2⟩, o3⟩, o4⟩, o5⟩ := ho
  have hok' : ∀ (i : Nat) (o : Oper), ops[i]? = some o → opOk N o = true := by
    intro i o hi
    simp only [List.all_eq_true] at hok
    exact hok o (by simpa using Array.mem_of_getElem? hi)
  intro x φ a w hx hs
  refine wp_region_any hm ?_
  have hs' := hs.drawn (w.drawn + 1)
  refine opsZ_any (x := x) (own := own) hΓ hok' ?_ (k := fun env H => Q .normal ⟨keep K env, H⟩) ?_ ops.size ord _ s.env s.H φ a _ ?_ o2 (by simp) (fun j hj => o4 j hj) ?_ ?_ (pairsZ_spec ord o5) h hs'
  · intro i o hi e he hbb
    have := edges_spec ops.toList 0 o1 i o (by simpa using hi) e (by simpa using he) hbb
    omega
  · intro env H φ a w hk hs''
    exact ⟨_, φ, hk, hs''.keep K⟩
  · have := List.Nodup.length_le_of_subset o2 (l₂ := List.range ops.size) fun j hj => by simpa using o4 j hj
    simpa using this
  · intro j hj
    have := o3 j (by simpa using hj)
    simp only [List.contains_iff_mem] at this
    simp [hj, this]
  · intro j o hj hn
    have hlt := (Array.getElem?_eq_some_iff.1 hj).1
    have := o3 j (by simpa using hlt)
    simp only [List.contains_iff_mem] at this
    exact absurd this hn

end
attribute [simp] isBS sideZ opZ stepZ opsZ
end Go.Proofs.YtbmloeahcdneaaaGreat
