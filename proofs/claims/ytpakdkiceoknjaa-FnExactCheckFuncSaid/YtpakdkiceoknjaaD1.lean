/- The abstract machine, part 31: a region that draws its order and stores into one place alone, while its loads look elsewhere. No condition. -/
import Derived.Test.YtpakdkiceoknjaaD0
namespace Go.Proofs.Ytpakdkiceoknjaa
set_option linter.unusedVariables false
set_option linter.unusedSimpArgs false

def away (i0 : Nat) : V → Bool
  | .ptr id .. => id != i0
  | _ => true
def onIt (i0 : Nat) : V → Bool
  | .ptr id .. => id == i0
  | _ => false
def sideA (i0 : Nat) (env : Env) : Op → Prop
  | .load _ a => away i0 (ev env a) = true
  | .store _ a _ => onIt i0 (ev env a) = true
  | _ => True
inductive ClA where
  | pure
  | get
  | put
  | no
  deriving DecidableEq
def clA (own : List FuncId) (o : Op) : ClA :=
  match o with
  | .load .. => .get
  | .store .. => .put
  | o => match clOf own o with
    | .pure => .pure
    | _ => .no
def keepsA (i0 : Nat) (H H' : Heap) : Prop := ∀ id, id ≠ i0 → ∀ p, H[id]? = some p → H'[id]? = some p
def opA (P : Program) (Γ : Table) (own : List FuncId) (i0 : Nat) (env : Env) (H : Heap) (o : Op) (k : V → Heap → Prop) : Prop := sideA i0 env o ∧ opT P Γ own env H o k
def stepA (P : Program) (Γ : Table) (own : List FuncId) (i0 : Nat) (all : List (Option Nat)) (o : SOp) (env : Env) (H : Heap) (K : Env → Heap → Prop) : Prop :=
  match o.guard with
  | none => opA P Γ own i0 env H o.op fun v H' => K (updO env o.dst v) H'
  | some _ => False
def opsA (P : Program) (Γ : Table) (own : List FuncId) (i0 : Nat) (all : List (Option Nat)) : List SOp → Env → Heap → (Env → Heap → Prop) → Prop
  | [], env, H, k => k env H
  | o :: rest, env, H, k => stepA P Γ own i0 all o env H fun e h => opsA P Γ own i0 all rest e h k
def indepA (own : List FuncId) (all : List (Option Nat)) (z y : SOp) : Bool :=
  apartB all z y && (match clA own z.op with | .pure => true | .get => (match clA own y.op with | .no => false | _ => true) | _ => false)

section
variable {P : Program} {Γ : Table} {own : List FuncId} {i0 : Nat} {all : List (Option Nat)}
theorem clA_pure {o : Op} (h : clA own o = .pure) : clOf own o = .pure := by
  unfold clA at h
  split at h
  · cases h
  · cases h
  · split at h
    · assumption
    · cases h
theorem sideA_env {env env' : Env} {o : Op} (he : ∀ x ∈ o.operands.toList, ev env' x = ev env x) (h : sideA i0 env o) : sideA i0 env' o := by
  cases o
  case load t a =>
    have := he a (by simp [Op.operands])
    simp only [sideA] at h ⊢
    rw [this]; exact h
  case store t a c =>
    have := he a (by simp [Op.operands])
    simp only [sideA] at h ⊢
    rw [this]; exact h
  all_goals trivial
theorem det_loadA {ti : Option TI} {a : V} {H : Heap} {k : V → Prop} (ha : away i0 a = true) (h : loadD ti a H k) : ∃ v, k v ∧ ∀ (H' : Heap) (k' : V → Prop), keepsA i0 H H' → k' v → loadD ti a H' k' := by
  unfold loadD at h ⊢
  split at h
  · exact h.elim
  · split at h
    · exact ⟨_, h.2.2, fun l k' _ h' => ⟨h.1, h.2.1, h'⟩⟩
    · split at h
      · rename_i id e i j _ _ _ hid
        have hne : id ≠ i0 := by simpa [away] using ha
        obtain ⟨h1, l, h2, h3, h4, h5⟩ := h
        refine ⟨_, h5, fun H' k' hk h' => ?_⟩
        simp only [hk _ hne _ hid]
        exact ⟨h1, l, h2, h3, h4, h'⟩
      · exact h.elim
    · exact h.elim
theorem yieldA {z : SOp} {env : Env} {H : Heap} {K : Env → Heap → Prop} (hc : clA own z.op = .pure ∨ clA own z.op = .get) (h : stepA P Γ own i0 all z env H K) :
    ∃ v, K (updO env z.dst v) H ∧ ∀ (env' : Env) (H' : Heap), (∀ t ∈ looks all z, env' t = env t) → (clA own z.op = .get → keepsA i0 H H') → ∀ K' : Env → Heap → Prop, K' (updO env' z.dst v) H' → stepA P Γ own i0 all z env' H' K' := by
  have run : ∀ {k : V → Heap → Prop}, opA P Γ own i0 env H z.op k → ∃ v, k v H ∧ ∀ (env' : Env) (H' : Heap), (∀ t ∈ looks all z, env' t = env t) → (clA own z.op = .get → keepsA i0 H H') → ∀ k' : V → Heap → Prop, k' v H' → opA P Γ own i0 env' H' z.op k' := by
    rintro k ⟨hside, hk⟩
    rcases hc with hc | hc
    · obtain ⟨v, h1, h2⟩ := opT_pure (clA_pure hc) hk
      exact ⟨v, h1, fun env' H' he _ k' hk' => ⟨sideA_env (looks_ev he) hside, h2 env' H' k' (looks_ev he) hk'⟩⟩
    · obtain ⟨dst, op, guard⟩ := z
      cases op
      case load t a =>
        simp only [opT, opD] at hk
        obtain ⟨v, h1, h2⟩ := det_loadA (by simpa [sideA] using hside) hk
        refine ⟨v, h1, fun env' H' he hl k' hk' => ⟨sideA_env (looks_ev he) hside, ?_⟩⟩
        rw [opT_env (looks_ev he)]
        exact h2 H' (fun v => k' v H') (hl hc) hk'
      all_goals (simp only [clA] at hc; try (split at hc <;> cases hc))
      all_goals cases hc
  unfold stepA at h
  split at h
  · rename_i hg
    obtain ⟨v, h1, h2⟩ := run h
    exact ⟨v, h1, fun env' H' he hl K' hk' => by unfold stepA; simp only [hg]; exact h2 env' H' he hl _ hk'⟩
  · exact h.elim
theorem opA_effect {env : Env} {H : Heap} {o : Op} {k : V → Heap → Prop} (h : opA P Γ own i0 env H o k) (hc : clA own o ≠ .no) : opA P Γ own i0 env H o fun v h' => k v h' ∧ keepsA i0 H h' := by
  have refl : keepsA i0 H H := fun _ _ _ h => h
  cases hcl : clA own o with
  | no => exact absurd hcl hc
  | pure =>
    obtain ⟨v, h1, h2⟩ := opT_pure (clA_pure hcl) h.2
    exact ⟨h.1, h2 env H _ (fun _ _ => rfl) ⟨h1, refl⟩⟩
  | get =>
    cases o
    case load t a =>
      obtain ⟨h0, h⟩ := h
      refine ⟨h0, ?_⟩
      simp only [opT, opD] at h ⊢
      obtain ⟨v, h1, h2⟩ := det_loadA (by simpa [sideA] using h0) h
      exact h2 H (fun v => k v H ∧ keepsA i0 H H) refl ⟨h1, refl⟩
    all_goals (simp only [clA] at hcl; try (split at hcl <;> cases hcl))
    all_goals cases hcl
  | put =>
    cases o
    case store t a c =>
      obtain ⟨h0, h⟩ := h
      refine ⟨h0, ?_⟩
      simp only [opT, opD] at h ⊢
      simp only [sideA] at h0
      generalize ev env a = av at h h0 ⊢
      unfold storeD at h ⊢
      split at h
      · exact h.elim
      · split at h
        · split at h
          · rename_i id e i j _ _ _ hid
            have he : id = i0 := by simpa [onIt] using h0
            obtain ⟨h1, l, h2, h3, h4, h5, h6⟩ := h
            refine ⟨h1, l, h2, h3, h4, h5, h6, fun id' hne p hp => ?_⟩
            rw [List.getElem?_set_ne (by omega)]
            exact hp
          · exact h.elim
        · exact h.elim
    all_goals (simp only [clA] at hcl; try (split at hcl <;> cases hcl))
    all_goals cases hcl
theorem opA_mono {env : Env} {H : Heap} {o : Op} {k k' : V → Heap → Prop} (h : opA P Γ own i0 env H o k) (hk : ∀ v h, k v h → k' v h) : opA P Γ own i0 env H o k' := ⟨h.1, opT_mono h.2 hk⟩
theorem opA_env {env env' : Env} {H : Heap} {o : Op} {k : V → Heap → Prop} (he : ∀ x ∈ o.operands.toList, ev env' x = ev env x) (h : opA P Γ own i0 env H o k) : opA P Γ own i0 env' H o k := ⟨sideA_env he h.1, by rw [opT_env he]; exact h.2⟩
theorem stepA_mono {o : SOp} {env : Env} {H : Heap} {K K' : Env → Heap → Prop} (h : stepA P Γ own i0 all o env H K) (hk : ∀ e h, K e h → K' e h) : stepA P Γ own i0 all o env H K' := by
  unfold stepA at h ⊢
  split at h
  · exact opA_mono h fun v h' => hk _ _
  · exact h.elim
theorem stepA_stepT {o : SOp} {env : Env} {H : Heap} {K : Env → Heap → Prop} (h : stepA P Γ own i0 all o env H K) : stepT P Γ own all o env H K := by
  unfold stepA at h
  unfold stepT
  split at h
  · rename_i e; simp only [e]; exact h.2
  · exact h.elim
theorem step_moveA {y : SOp} {env env1 : Env} {H : Heap} {K : Env → Heap → Prop} (he : ∀ t ∈ looks all y, env t = env1 t) (h : stepA P Γ own i0 all y env1 H K) :
    stepA P Γ own i0 all y env H fun e h => ∃ u, e = updO env y.dst u ∧ K (updO env1 y.dst u) h ∧ (clA own y.op ≠ .no → keepsA i0 H h) := by
  unfold stepA at h ⊢
  split at h
  · by_cases hc : clA own y.op = .no
    · exact opA_mono (opA_env (looks_ev he) h) fun v h' q => ⟨v, rfl, q, fun n => absurd hc n⟩
    · exact opA_mono (opA_env (looks_ev he) (opA_effect h hc)) fun v h' q => ⟨v, rfl, q.1, fun _ => q.2⟩
  · exact h.elim
theorem swapA {z y : SOp} (hi : indepA own all z y = true) {env : Env} {H : Heap} {K : Env → Heap → Prop} (h : stepA P Γ own i0 all z env H fun e h => stepA P Γ own i0 all y e h K) :
    stepA P Γ own i0 all y env H fun e h => stepA P Γ own i0 all z e h K := by
  simp only [indepA, apartB, Bool.and_eq_true] at hi
  obtain ⟨⟨a1, a2⟩, a3⟩ := hi
  have hz : clA own z.op = .pure ∨ clA own z.op = .get := by
    split at a3
    · exact .inl (by assumption)
    · exact .inr (by assumption)
    · cases a3
  have hy : clA own z.op = .get → clA own y.op ≠ .no := by
    intro hr
    rw [hr] at a3
    simp only [] at a3
    split at a3
    · cases a3
    · rename_i hn; exact hn
  obtain ⟨v, h1, h2⟩ := yieldA hz h
  have d1 : ∀ t ∈ looks all y, z.dst ≠ some t := by
    intro t ht e
    rw [e] at a1
    simp at a1
    exact a1.1 ht
  have d2 : ∀ x, z.dst = some x → y.dst ≠ some x := by
    intro x e
    rw [e] at a1
    simp at a1
    exact a1.2
  have d3 : ∀ t ∈ looks all z, y.dst ≠ some t := by
    intro t ht e
    rw [e] at a2
    simp at a2
    exact a2 ht
  refine stepA_mono (step_moveA (env := env) (fun t ht => (updO_ne (d1 t ht)).symm) h1) ?_
  rintro e h' ⟨u, rfl, hk, hl⟩
  refine h2 _ _ (fun t ht => updO_ne (d3 t ht)) (fun hr => hl (hy hr)) _ ?_
  rw [← updO_comm d2]
  exact hk
theorem bubbleA {y : SOp} {l2 : List SOp} {k : Env → Heap → Prop} : ∀ (l1 : List SOp), (∀ z ∈ l1, indepA own all z y = true) → ∀ (env : Env) (H : Heap), opsA P Γ own i0 all (l1 ++ y :: l2) env H k →
    stepA P Γ own i0 all y env H fun e h => opsA P Γ own i0 all (l1 ++ l2) e h k
  | [], _, env, H, h => h
  | z :: l1, hz, env, H, h => by
    refine swapA (hz z List.mem_cons_self) ?_
    exact stepA_mono h fun e h' q => bubbleA l1 (fun z hm => hz z (List.mem_cons_of_mem _ hm)) e h' q
end
def pairsA (own : List FuncId) (ops : Array Oper) (all : List (Option Nat)) : List Nat → Bool
  | [] => true
  | z :: l => (l.all fun y => indepA own all (sop ops z) (sop ops y) || reachB ops 5 y z) && pairsA own ops all l
def ordA (own : List FuncId) (ops : Array Oper) (ord : List Nat) : Bool :=
  edgesOk ops.toList 0 && decide ord.Nodup && (List.range ops.size).all (fun j => ord.contains j) && ord.all (fun j => decide (j < ops.size)) && pairsA own ops (ops.toList.map (·.dst)) ord
section
variable {P : Program} {Γ : Table} {own : List FuncId} {x : Ctx} {N i0 : Nat}
theorem pairsA_spec {ops : Array Oper} {all : List (Option Nat)} : ∀ (l : List Nat), pairsA own ops all l = true → l.Pairwise (fun z y => indepA own all (sop ops z) (sop ops y) = true ∨ reachB ops 5 y z = true)
  | [], _ => .nil
  | z :: l, h => by
    simp only [pairsA, Bool.and_eq_true, List.all_eq_true, Bool.or_eq_true] at h
    exact .cons (fun y hy => h.1 y hy) (pairsA_spec l h.2)
theorem opsA_any (hΓ : Good P Γ) {ops : Array Oper} (hok : ∀ (i : Nat) (o : Oper), ops[i]? = some o → opOk N o = true) (hedge : ∀ (i : Nat) (o : Oper), ops[i]? = some o → ∀ e ∈ o.after, Region.binds .any e = true → e.on < i) {k : Env → Heap → Prop} {Q : Exit → Act → World → Prop}
    (hq : ∀ env H φ a w, k env H → Sim x N ⟨env, H⟩ φ a w → Q .normal a w) :
    ∀ (fuel : Nat) (l : List Nat) (listed : Array Bool) (env : Env) (H : Heap) (φ : List (Nat × Nat)) (a : Act) (w : World), l.length ≤ fuel → l.Nodup → listed.size = ops.size → (∀ j, j ∈ l → j < ops.size) →
      (∀ j, j < ops.size → (listed.getD j true = false ↔ j ∈ l)) → (∀ (j : Nat) (o : Oper), ops[j]? = some o → j ∉ l → ∀ e ∈ o.after, Region.binds .any e = true → e.on ∉ l) →
      l.Pairwise (fun z y => indepA own (ops.toList.map (·.dst)) (sop ops z) (sop ops y) = true ∨ reachB ops 5 y z = true) →
      opsA P Γ own i0 (ops.toList.map (·.dst)) (l.map (sop ops)) env H k → Sim x N ⟨env, H⟩ φ a w → wpAny P .any ops Q fuel listed a w := by
  intro fuel
  induction fuel with
  | zero =>
    intro l listed env H φ a w hlen _ hsz hlt hiff _ _ h hs
    obtain rfl : l = [] := List.eq_nil_of_length_eq_zero (by omega)
    refine ⟨?_, hq _ _ _ _ _ h hs⟩
    cases hr : Region.ready .any ops listed with
    | nil => rfl
    | cons i rs =>
      have hi : i ∈ Region.ready .any ops listed := by rw [hr]; simp
      obtain ⟨h0, o, ho, _⟩ := mem_ready.1 hi
      have := (hiff i (Array.getElem?_eq_some_iff.1 ho).1).1 h0
      simp at this
  | succ fuel ih =>
    intro l listed env H φ a w hlen hnd hsz hlt hiff hdown hpair h hs
    have notin : ∀ j, listed.getD j false = true → j ∉ l := by
      intro j hj hm
      have h1 := hlt j hm
      have h2 := (hiff j h1).2 hm
      have h3 : j < listed.size := by omega
      simp [h3] at hj h2
      rw [h2] at hj
      cases hj
    refine ⟨fun hr => ?_, fun i hi => ?_⟩
    · cases l with
      | nil => exact hq _ _ _ _ _ h hs
      | cons z l =>
        exfalso
        obtain ⟨m, hm, hmin⟩ := least (z :: l) (by simp)
        have hml := hlt m hm
        have : m ∈ Region.ready .any ops listed := by
          refine mem_ready.2 ⟨(hiff m hml).2 hm, ops[m], Array.getElem?_eq_getElem hml, fun e he hbb => ?_⟩
          have h1 := hedge m _ (Array.getElem?_eq_getElem hml) e he hbb
          have h2 : e.on ∉ z :: l := fun hx => by have := hmin _ hx; omega
          have h3 : listed.getD e.on true ≠ false := fun hx => h2 ((hiff e.on (by omega)).1 hx)
          have h4 : e.on < listed.size := by omega
          simp [h4] at h3 ⊢
          exact h3
        rw [hr] at this
        cases this
    · obtain ⟨h0, o, ho, hall⟩ := mem_ready.1 hi
      have hil : i < ops.size := (Array.getElem?_eq_some_iff.1 ho).1
      have him : i ∈ l := (hiff i hil).1 h0
      obtain ⟨l1, l2, rfl⟩ := List.append_of_mem him
      have hready : ∀ o', ops[i]? = some o' → ∀ e ∈ o'.after, Region.binds .any e = true → e.on ∉ l1 ++ i :: l2 := by
        intro o' ho' e he hb
        rw [ho] at ho'
        cases ho'
        exact notin _ (hall e he hb)
      have hz : ∀ z ∈ l1, indepA own (ops.toList.map (·.dst)) (sop ops z) (sop ops i) = true := by
        intro z hz
        have := (List.pairwise_append.1 hpair).2.2 z hz i (by simp)
        rcases this with h | h
        · exact h
        · exact absurd (List.mem_append_left _ hz) (reach_spec hdown 5 i h hready)
      rw [List.map_append, List.map_cons] at h
      have hb := bubbleA (l1.map (sop ops)) (by simpa using hz) env H h
      refine stepT_wp hΓ ho (hok i o ho) hs (stepA_stepT hb) ?_
      intro env' H' φ' a' w' hk hs'
      have hi1 : i ∉ l1 ++ l2 := by
        have := hnd
        rw [List.nodup_append] at this
        obtain ⟨_, h2, h3⟩ := this
        rw [List.nodup_cons] at h2
        intro hx
        rcases List.mem_append.1 hx with hx | hx
        · exact h3 i hx i (by simp) rfl
        · exact h2.1 hx
      have hsub : (l1 ++ l2).Sublist (l1 ++ i :: l2) := List.Sublist.append (List.Sublist.refl _) (List.sublist_cons_self _ _)
      refine ih (l1 ++ l2) (listed.setIfInBounds i true) env' H' φ' a' w' (by simp at hlen ⊢; omega) (hnd.sublist hsub) (by simpa using hsz) (fun j hj => hlt j (hsub.subset hj)) ?_ ?_ (hpair.sublist hsub) (by rw [List.map_append]; exact hk) hs'
      · intro j hj
        by_cases hji : i = j
        · subst hji
          have : i < listed.size := by omega
          simp [this]
          simpa using hi1
        · rw [getD_set_ne true hji, hiff j hj]
          simp only [List.mem_append, List.mem_cons]
          constructor
          · rintro (h | h | h)
            · exact .inl h
            · exact absurd h.symm hji
            · exact .inr h
          · rintro (h | h)
            · exact .inl h
            · exact .inr (.inr h)
      · intro j o' ho' hj e he hbb hx
        have hx' := hsub.subset hx
        by_cases hji : j = i
        · subst hji
          exact hready o' ho' e he hbb hx'
        · refine hdown j o' ho' ?_ e he hbb hx'
          intro hm
          apply hj
          simp only [List.mem_append, List.mem_cons] at hm ⊢
          rcases hm with h | h | h
          · exact .inl h
          · exact absurd h hji
          · exact .inr h

/-- A region that draws its order: stores into one place. -/
theorem W_drawA (hm : P.follows .mixedOrders = true) (hΓ : Good P Γ) (K : List Nat) (own : List FuncId) (ord : List Nat) (i0 : Nat) {n0 id : Nat} {ops : Array Oper} {Q : Exit → St → Prop} {s : St} (hok : ops.toList.all (opOk N) = true) (ho : ordA own ops ord = true)
    (h : opsA P Γ own i0 (ops.toList.map (·.dst)) (ord.map (sop ops)) s.env s.H fun env H => Q .normal ⟨keep K env, H⟩) : W P N n0 (.region id ops true) Q s := by
  simp only [ordA, Bool.and_eq_true, List.all_eq_true, decide_eq_true_eq] at ho
  obtain ⟨⟨⟨⟨o1, o2⟩, o3⟩, o4⟩, o5⟩ := ho
  have hok' : ∀ (i : Nat) (o : Oper), ops[i]? = some o → opOk N o = true := by
    intro i o hi
    simp only [List.all_eq_true] at hok
    exact hok o (by simpa using Array.mem_of_getElem? hi)
  intro x φ a w hx hs
  refine wp_region_any hm ?_
  have hs' := hs.drawn (w.drawn + 1)
  refine opsA_any (x := x) (own := own) hΓ hok' ?_ (k := fun env H => Q .normal ⟨keep K env, H⟩) ?_ ops.size ord _ s.env s.H φ a _ ?_ o2 (by simp) (fun j hj => o4 j hj) ?_ ?_ (pairsA_spec ord o5) h hs'
  · intro i o hi e he hbb
    have := edges_spec ops.toList 0 o1 i o (by simpa using hi) e (by simpa using he) hbb
    omega
  · intro env H φ a w hk hs''
    exact ⟨_, φ, hk, hs''.keep K⟩
  · have := List.Nodup.length_le_of_subset o2 (l₂ := List.range ops.size) fun j hj => by simpa using o4 j hj
    simpa using this
  · intro j hj
    have := o3 j (by simpa using hj)
    simp only [List.contains_iff_mem] at this
    simp [hj, this]
  · intro j o hj hn
    have hlt := (Array.getElem?_eq_some_iff.1 hj).1
    have := o3 j (by simpa using hlt)
    simp only [List.contains_iff_mem] at this
    exact absurd this hn

end
theorem W_condT {P : Program} {N n0 : Nat} {o : Operand} {b c : Code} {Q : Exit → St → Prop} {s : St} (h : ev s.env o = .d (.bool true)) (k : W P N n0 b Q s) : W P N n0 (.cond o b c) Q s := by
  refine W_cond (t := true) (fun x φ a w hx hs => ?_) (fun _ => k) (fun e => by cases e)
  have := ev_spec hs o
  rw [h] at this
  simpa only [VS, DS] using this
theorem W_condF {P : Program} {N n0 : Nat} {o : Operand} {b c : Code} {Q : Exit → St → Prop} {s : St} (h : ev s.env o = .d (.bool false)) (k : W P N n0 c Q s) : W P N n0 (.cond o b c) Q s := by
  refine W_cond (t := false) (fun x φ a w hx hs => ?_) (fun e => by cases e) (fun _ => k)
  have := ev_spec hs o
  rw [h] at this
  simpa only [VS, DS] using this
attribute [simp] away onIt sideA opA stepA opsA
end Go.Proofs.Ytpakdkiceoknjaa
