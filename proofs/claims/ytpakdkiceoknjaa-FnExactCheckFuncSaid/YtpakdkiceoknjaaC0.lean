/- The abstract machine, part 20: a region that draws its order, by the walk of one order. No condition. -/
import Derived.Test.YtpakdkiceoknjaaB9
namespace Go.Proofs.Ytpakdkiceoknjaa
set_option linter.unusedVariables false
set_option linter.unusedSimpArgs false

/-- The slots that an operation looks at. -/
def looks (all : List (Option Nat)) (o : SOp) : List Nat :=
  (o.op.operands.toList.filterMap fun | .tmp t => some t | _ => none) ++ (match o.guard with | some (j, _) => (slotOf all j).toList | none => [])
def stepT (P : Program) (Γ : Table) (own : List FuncId) (all : List (Option Nat)) (o : SOp) (env : Env) (H : Heap) (K : Env → Heap → Prop) : Prop :=
  match o.guard with
  | none => opT P Γ own env H o.op fun v H' => K (updO env o.dst v) H'
  | some (j, want) => match slotOf all j with
    | none => False
    | some t => match env t with
      | .d (.bool b) => (b = want → opT P Γ own env H o.op fun v H' => K (updO env o.dst v) H') ∧ (b ≠ want → K (updO env o.dst (.tup [])) H)
      | .tup [] => K (updO env o.dst (.tup [])) H
      | _ => False
def opsT (P : Program) (Γ : Table) (own : List FuncId) (all : List (Option Nat)) : List SOp → Env → Heap → (Env → Heap → Prop) → Prop
  | [], env, H, k => k env H
  | o :: rest, env, H, k => stepT P Γ own all o env H fun e h => opsT P Γ own all rest e h k

def apartB (all : List (Option Nat)) (z y : SOp) : Bool :=
  (match z.dst with | some d => !(looks all y).contains d && y.dst != some d | none => true) && (match y.dst with | some d => !(looks all z).contains d | none => true)
def indepB (own : List FuncId) (all : List (Option Nat)) (z y : SOp) : Bool :=
  apartB all z y && (match clOf own z.op with | .pure => true | .read => (match clOf own y.op with | .any => false | _ => true) | _ => false)

section
variable {P : Program} {Γ : Table} {own : List FuncId} {all : List (Option Nat)}

theorem looks_ev {o : SOp} {env env' : Env} (h : ∀ t ∈ looks all o, env' t = env t) : ∀ x ∈ o.op.operands.toList, ev env' x = ev env x := by
  intro x hx
  cases x with
  | tmp t => exact h t (List.mem_append_left _ (List.mem_filterMap.2 ⟨_, hx, rfl⟩))
  | _ => rfl
theorem looks_guard {o : SOp} {env env' : Env} (h : ∀ t ∈ looks all o, env' t = env t) {j : Nat} {b : Bool} (hg : o.guard = some (j, b)) {t : Nat} (hs : slotOf all j = some t) : env' t = env t :=
  h t (List.mem_append_right _ (by rw [hg]; simp [hs]))

theorem stepT_mono {o : SOp} {env : Env} {H : Heap} {K K' : Env → Heap → Prop} (h : stepT P Γ own all o env H K) (hk : ∀ e h, K e h → K' e h) : stepT P Γ own all o env H K' := by
  unfold stepT at h ⊢
  split at h
  · exact opT_mono h fun v h' => hk _ _
  · split at h
    · exact h.elim
    · split at h
      · exact ⟨fun e => opT_mono (h.1 e) fun v h' => hk _ _, fun e => hk _ _ (h.2 e)⟩
      · exact hk _ _ h
      · exact h.elim

theorem opT_effect {env : Env} {H : Heap} {o : Op} {k : V → Heap → Prop} (h : opT P Γ own env H o k) : opT P Γ own env H o fun v h' => k v h' ∧ (clOf own o ≠ .any → ∃ l, h' = H ++ l) := by
  cases hc : clOf own o with
  | pure =>
    obtain ⟨v, h1, h2⟩ := opT_pure hc h
    exact h2 env H _ (fun _ _ => rfl) ⟨h1, fun _ => ⟨[], by simp⟩⟩
  | read =>
    obtain ⟨v, h1, h2⟩ := opT_read hc h
    have := h2 env [] (fun v h' => k v h' ∧ (Cl.read ≠ .any → ∃ l, h' = H ++ l)) (fun _ _ => rfl) (by rw [List.append_nil]; exact ⟨h1, fun _ => ⟨[], by simp⟩⟩)
    rwa [List.append_nil] at this
  | grow => exact opT_mono (opT_grow hc h) fun v h' q => ⟨q.1, fun _ => q.2⟩
  | any => exact opT_mono h fun v h' q => ⟨q, fun e => absurd rfl e⟩

theorem yield_of {z : SOp} {env : Env} {H : Heap} {K : Env → Heap → Prop} (hc : clOf own z.op = .pure ∨ clOf own z.op = .read) (h : stepT P Γ own all z env H K) :
    ∃ v, K (updO env z.dst v) H ∧ ∀ (env' : Env) (H' : Heap), (∀ t ∈ looks all z, env' t = env t) → (clOf own z.op = .read → ∃ l, H' = H ++ l) → ∀ K' : Env → Heap → Prop, K' (updO env' z.dst v) H' → stepT P Γ own all z env' H' K' := by
  have run : ∀ {k : V → Heap → Prop}, opT P Γ own env H z.op k → ∃ v, k v H ∧ ∀ (env' : Env) (H' : Heap), (∀ t ∈ looks all z, env' t = env t) → (clOf own z.op = .read → ∃ l, H' = H ++ l) → ∀ k' : V → Heap → Prop, k' v H' → opT P Γ own env' H' z.op k' := by
    intro k hk
    rcases hc with hc | hc
    · obtain ⟨v, h1, h2⟩ := opT_pure hc hk
      exact ⟨v, h1, fun env' H' he _ k' hk' => h2 env' H' k' (looks_ev he) hk'⟩
    · obtain ⟨v, h1, h2⟩ := opT_read hc hk
      refine ⟨v, h1, fun env' H' he hl k' hk' => ?_⟩
      obtain ⟨l, rfl⟩ := hl hc
      exact h2 env' l k' (looks_ev he) hk'
  unfold stepT at h
  split at h
  · rename_i hg
    obtain ⟨v, h1, h2⟩ := run h
    exact ⟨v, h1, fun env' H' he hl K' hk' => by unfold stepT; simp only [hg]; exact h2 env' H' he hl _ hk'⟩
  · rename_i j want hg
    split at h
    · exact h.elim
    · rename_i t hs
      split at h
      · rename_i b hb
        by_cases e : b = want
        · obtain ⟨v, h1, h2⟩ := run (h.1 e)
          refine ⟨v, h1, fun env' H' he hl K' hk' => ?_⟩
          have := looks_guard he hg hs
          unfold stepT
          simp only [hg, hs, this, hb]
          exact ⟨fun _ => h2 env' H' he hl _ hk', fun e' => absurd e e'⟩
        · refine ⟨_, h.2 e, fun env' H' he hl K' hk' => ?_⟩
          have := looks_guard he hg hs
          unfold stepT
          simp only [hg, hs, this, hb]
          exact ⟨fun e' => absurd e' e, fun _ => hk'⟩
      · rename_i hb
        refine ⟨_, h, fun env' H' he hl K' hk' => ?_⟩
        have := looks_guard he hg hs
        unfold stepT
        simp only [hg, hs, this, hb]
        exact hk'
      · exact h.elim

theorem step_move {y : SOp} {env env1 : Env} {H : Heap} {K : Env → Heap → Prop} (he : ∀ t ∈ looks all y, env t = env1 t) (h : stepT P Γ own all y env1 H K) :
    stepT P Γ own all y env H fun e h => ∃ u, e = updO env y.dst u ∧ K (updO env1 y.dst u) h ∧ (clOf own y.op ≠ .any → ∃ l, h = H ++ l) := by
  unfold stepT at h ⊢
  split at h
  · have h' := opT_effect h
    rw [← opT_env (env' := env) (looks_ev he)] at h'
    exact opT_mono h' fun v h' q => ⟨v, rfl, q.1, q.2⟩
  · rename_i j want hg
    split at h
    · exact h.elim
    · rename_i t hs
      rw [looks_guard he hg hs]
      split at h
      · refine ⟨fun e => ?_, fun e => ⟨_, rfl, h.2 e, fun _ => ⟨[], by simp⟩⟩⟩
        have h' := opT_effect (h.1 e)
        rw [← opT_env (env' := env) (looks_ev he)] at h'
        exact opT_mono h' fun v h' q => ⟨v, rfl, q.1, q.2⟩
      · exact ⟨_, rfl, h, fun _ => ⟨[], by simp⟩⟩
      · exact h.elim

theorem updO_ne {env : Env} {d : Option Nat} {v : V} {t : Nat} (h : d ≠ some t) : updO env d v t = env t := by
  cases d with
  | none => rfl
  | some d =>
    have : t ≠ d := fun e => h (by rw [e])
    simp [updO, upd, this]
theorem updO_comm {env : Env} {d d' : Option Nat} {v v' : V} (h : ∀ x, d = some x → d' ≠ some x) : updO (updO env d v) d' v' = updO (updO env d' v') d v := by
  cases d with
  | none => rfl
  | some d =>
    cases d' with
    | none => rfl
    | some d' =>
      have : d' ≠ d := fun e => h d rfl (by rw [e])
      funext t
      simp only [updO, upd]
      by_cases h1 : t = d <;> by_cases h2 : t = d' <;> simp_all

theorem swapT {z y : SOp} (hi : indepB own all z y = true) {env : Env} {H : Heap} {K : Env → Heap → Prop} (h : stepT P Γ own all z env H fun e h => stepT P Γ own all y e h K) :
    stepT P Γ own all y env H fun e h => stepT P Γ own all z e h K := by
  simp only [indepB, apartB, Bool.and_eq_true] at hi
  obtain ⟨⟨a1, a2⟩, a3⟩ := hi
  have hz : clOf own z.op = .pure ∨ clOf own z.op = .read := by
    split at a3
    · exact .inl (by assumption)
    · exact .inr (by assumption)
    · cases a3
  have hy : clOf own z.op = .read → clOf own y.op ≠ .any := by
    intro hr
    rw [hr] at a3
    simp only [] at a3
    split at a3
    · cases a3
    · rename_i hn; exact hn
  obtain ⟨v, h1, h2⟩ := yield_of hz h
  have d1 : ∀ t ∈ looks all y, z.dst ≠ some t := by
    intro t ht e
    rw [e] at a1
    simp at a1
    exact a1.1 ht
  have d2 : ∀ x, z.dst = some x → y.dst ≠ some x := by
    intro x e
    rw [e] at a1
    simp at a1
    exact a1.2
  have d3 : ∀ t ∈ looks all z, y.dst ≠ some t := by
    intro t ht e
    rw [e] at a2
    simp at a2
    exact a2 ht
  refine stepT_mono (step_move (env := env) (fun t ht => (updO_ne (d1 t ht)).symm) h1) ?_
  rintro e h' ⟨u, rfl, hk, hl⟩
  refine h2 _ _ (fun t ht => updO_ne (d3 t ht)) (fun hr => hl (hy hr)) _ ?_
  rw [← updO_comm d2]
  exact hk

theorem bubble {y : SOp} {l2 : List SOp} {k : Env → Heap → Prop} : ∀ (l1 : List SOp), (∀ z ∈ l1, indepB own all z y = true) → ∀ (env : Env) (H : Heap), opsT P Γ own all (l1 ++ y :: l2) env H k →
    stepT P Γ own all y env H fun e h => opsT P Γ own all (l1 ++ l2) e h k
  | [], _, env, H, h => h
  | z :: l1, hz, env, H, h => by
    refine swapT (hz z List.mem_cons_self) ?_
    exact stepT_mono h fun e h' q => bubble l1 (fun z hm => hz z (List.mem_cons_of_mem _ hm)) e h' q
end

/-! ### All orders -/
def sop (ops : Array Oper) (j : Nat) : SOp := match ops[j]? with | some o => ⟨o.dst, o.op, o.guard⟩ | none => ⟨none, .ready 0, none⟩
/-- Must z have come before y? -/
def reachB (ops : Array Oper) : Nat → Nat → Nat → Bool
  | 0, _, _ => false
  | n + 1, y, z => match ops[y]? with
    | none => false
    | some o => o.after.toList.any fun e => Region.binds .any e && (e.on == z || reachB ops n e.on z)
def pairsOk (own : List FuncId) (ops : Array Oper) (all : List (Option Nat)) : List Nat → Bool
  | [] => true
  | z :: l => (l.all fun y => indepB own all (sop ops z) (sop ops y) || reachB ops 5 y z) && pairsOk own ops all l
def edgesOk (ops : List Oper) : Nat → Bool
  | n => match ops with
    | [] => true
    | o :: l => (o.after.toList.all fun e => !Region.binds .any e || decide (e.on < n)) && edgesOk l (n + 1)
def ordOk (own : List FuncId) (ops : Array Oper) (ord : List Nat) : Bool :=
  edgesOk ops.toList 0 && decide ord.Nodup && (List.range ops.size).all (fun j => ord.contains j) && ord.all (fun j => decide (j < ops.size)) && pairsOk own ops (ops.toList.map (·.dst)) ord

section
variable {P : Program} {Γ : Table} {own : List FuncId} {x : Ctx} {N : Nat}

theorem edges_spec : ∀ (l : List Oper) (n : Nat), edgesOk l n = true → ∀ (i : Nat) (o : Oper), l[i]? = some o → ∀ e ∈ o.after.toList, Region.binds .any e = true → e.on < n + i
  | [], n, _, i, o, h => by simp at h
  | o :: l, n, hk, 0, o', h => by
    simp only [edgesOk, Bool.and_eq_true, List.all_eq_true, decide_eq_true_eq, Bool.or_eq_true, Bool.not_eq_true'] at hk
    simp at h
    subst h
    exact fun e he hb => (hk.1 e he).resolve_left (by rw [hb]; decide)
  | o :: l, n, hk, i + 1, o', h => by
    simp only [edgesOk, Bool.and_eq_true] at hk
    have := edges_spec l (n + 1) hk.2 i o' (by simpa using h)
    exact fun e he hb => by have := this e he hb; omega

theorem reach_spec {ops : Array Oper} {l : List Nat} (hd : ∀ (j : Nat) (o : Oper), ops[j]? = some o → j ∉ l → ∀ e ∈ o.after, Region.binds .any e = true → e.on ∉ l) {z : Nat} : ∀ (n y : Nat), reachB ops n y z = true →
    (∀ o, ops[y]? = some o → ∀ e ∈ o.after, Region.binds .any e = true → e.on ∉ l) → z ∉ l
  | 0, y, h, _ => by simp [reachB] at h
  | n + 1, y, h, hy => by
    simp only [reachB] at h
    split at h
    · cases h
    · rename_i o ho
      simp only [List.any_eq_true, Bool.and_eq_true, Bool.or_eq_true, beq_iff_eq] at h
      obtain ⟨e, he, hb, h⟩ := h
      have hn := hy o ho e (by simpa using he) hb
      rcases h with h | h
      · rw [← h]; exact hn
      · exact reach_spec hd n e.on h fun o' ho' => hd e.on o' ho' hn

theorem opT_wp {o : Oper} {env : Env} {H : Heap} {φ : List (Nat × Nat)} {a : Act} {w : World} {k : V → Heap → Prop} {next : Act → World → Prop} {Q : Exit → Act → World → Prop} (hΓ : Good P Γ) (h : Sim x N ⟨env, H⟩ φ a w)
    (hk : opT P Γ own env H o.op k) (hn : Nexts P x N env a o k next) : o.wp P a w next Q := by
  by_cases hg : ∃ c, o.op = .call c ∧ growCallee own c.callee = true
  · obtain ⟨c, e, hg⟩ := hg
    rw [e] at hk
    simp only [opT, hg, if_true] at hk
    unfold callG at hk
    split at hk
    · rename_i g hcal
      obtain ⟨r, R, hc, hk⟩ := hk
      obtain ⟨dst, op, type, pos, after, guard⟩ := o
      simp only [] at e
      subst e
      obtain ⟨callee, args, argTypes⟩ := c
      simp only [] at hcal
      subst hcal
      have hargs : VSs w (owned x.X φ H) φ (args.toList.map (ev env)) (args.map a.eval).toList := by simpa using evs_spec h args.toList
      refine call_wp (args := args.map a.eval) h ?_ hargs (hc.mono fun r' H' ⟨e1, e2⟩ => by rw [e1, e2]; exact hk) hn
      simp [execOp, resolve, Deferred.ofValue, Act.eval, invoke]
      exact run_callFunc hc.1 _
    · exact hk.elim
  · exact op_wp hΓ h (opT_opD (fun c e => by cases hq : growCallee own c.callee with | false => rfl | true => exact absurd ⟨c, e, hq⟩ hg) hk) hn
theorem stepT_wp (hΓ : Good P Γ) {all : Array Oper} {i : Nat} {o : Oper} (ho : all[i]? = some o) (hdst : opOk N o = true) {env : Env} {H : Heap} {φ : List (Nat × Nat)} {a : Act} {w : World} {K : Env → Heap → Prop}
    {Q : Exit → Act → World → Prop} {nxt : Act → World → Prop} (h : Sim x N ⟨env, H⟩ φ a w) (hk : stepT P Γ own (all.toList.map (·.dst)) (sop all i) env H K)
    (next : ∀ env H φ a w, K env H → Sim x N ⟨env, H⟩ φ a w → nxt a w) : wpOp P all Q i nxt a w := by
  have run_ : opT P Γ own env H o.op (fun v H' => K (updO env o.dst v) H') → o.wp P a w nxt Q := fun hk =>
    opT_wp hΓ h hk fun v c H' φ' w' hk' hs hv => next _ _ _ _ _ hk' (hs.putO hdst hv)
  have skip_ : K (updO env o.dst (.tup [])) H → nxt (a.put o.dst Go.undef) w := fun hk =>
    next _ _ _ _ _ hk (h.putO hdst (by simp [VS, VSs, Go.undef]))
  unfold wpOp
  simp only [ho]
  simp only [sop, ho, stepT] at hk
  cases hg : o.guard with
  | none =>
    simp only [hg] at hk
    have hw : Region.wanted o (yielded all a.tmps) = true := by simp [Region.wanted, hg]
    rw [if_pos hw]
    exact .inl (run_ hk)
  | some jw =>
    obtain ⟨j, want⟩ := jw
    simp only [hg] at hk
    cases hs : slotOf (all.toList.map (·.dst)) j with
    | none => simp only [hs] at hk
    | some t =>
      simp only [hs] at hk
      have hy : yielded all a.tmps j = match a.tmps[t]? with | some (.bool b) => some b | _ => none := by
        have hs' : (all[j]?).bind (·.dst) = some t := by
          unfold slotOf at hs
          rw [List.getElem?_map, Array.getElem?_toList] at hs
          cases hq : all[j]? with
          | none => rw [hq] at hs; simp at hs
          | some o => rw [hq] at hs; simpa using hs
        unfold yielded
        rw [hs']
        rfl
      split at hk
      · rename_i b he
        have hb := slot_bool h he
        have hw : Region.wanted o (yielded all a.tmps) = (b == want) := by simp [Region.wanted, hg, hy, hb]
        by_cases hbw : b = want
        · rw [if_pos (by rw [hw]; simpa using hbw)]
          exact .inl (run_ (hk.1 hbw))
        · rw [if_neg (by rw [hw]; simpa using hbw)]
          exact skip_ (hk.2 hbw)
      · rename_i he
        have hw : Region.wanted o (yielded all a.tmps) = false := by
          rcases slot_tup h he with hb | hb <;> simp [Region.wanted, hg, hy, hb]
        rw [if_neg (by rw [hw]; simp)]
        exact skip_ hk
      · exact hk.elim

theorem least : ∀ (l : List Nat), l ≠ [] → ∃ m ∈ l, ∀ j ∈ l, m ≤ j
  | [a], _ => ⟨a, by simp, by simp⟩
  | a :: b :: l, _ => by
    obtain ⟨m, h1, h2⟩ := least (b :: l) (by simp)
    by_cases h : a ≤ m
    · exact ⟨a, by simp, fun j hj => by
        rcases List.mem_cons.1 hj with rfl | hj
        · exact Nat.le_refl _
        · exact Nat.le_trans h (h2 j hj)⟩
    · exact ⟨m, List.mem_cons_of_mem _ h1, fun j hj => by
        rcases List.mem_cons.1 hj with rfl | hj
        · omega
        · exact h2 j hj⟩

theorem opsT_any (hΓ : Good P Γ) {ops : Array Oper} (hok : ∀ (i : Nat) (o : Oper), ops[i]? = some o → opOk N o = true) (hedge : ∀ (i : Nat) (o : Oper), ops[i]? = some o → ∀ e ∈ o.after, Region.binds .any e = true → e.on < i) {k : Env → Heap → Prop} {Q : Exit → Act → World → Prop}
    (hq : ∀ env H φ a w, k env H → Sim x N ⟨env, H⟩ φ a w → Q .normal a w) :
    ∀ (fuel : Nat) (l : List Nat) (listed : Array Bool) (env : Env) (H : Heap) (φ : List (Nat × Nat)) (a : Act) (w : World), l.length ≤ fuel → l.Nodup → listed.size = ops.size → (∀ j, j ∈ l → j < ops.size) →
      (∀ j, j < ops.size → (listed.getD j true = false ↔ j ∈ l)) → (∀ (j : Nat) (o : Oper), ops[j]? = some o → j ∉ l → ∀ e ∈ o.after, Region.binds .any e = true → e.on ∉ l) →
      l.Pairwise (fun z y => indepB own (ops.toList.map (·.dst)) (sop ops z) (sop ops y) = true ∨ reachB ops 5 y z = true) →
      opsT P Γ own (ops.toList.map (·.dst)) (l.map (sop ops)) env H k → Sim x N ⟨env, H⟩ φ a w → wpAny P .any ops Q fuel listed a w := by
  intro fuel
  induction fuel with
  | zero =>
    intro l listed env H φ a w hlen _ hsz hlt hiff _ _ h hs
    obtain rfl : l = [] := List.eq_nil_of_length_eq_zero (by omega)
    refine ⟨?_, hq _ _ _ _ _ h hs⟩
    cases hr : Region.ready .any ops listed with
    | nil => rfl
    | cons i rs =>
      have hi : i ∈ Region.ready .any ops listed := by rw [hr]; simp
      obtain ⟨h0, o, ho, _⟩ := mem_ready.1 hi
      have := (hiff i (Array.getElem?_eq_some_iff.1 ho).1).1 h0
      simp at this
  | succ fuel ih =>
    intro l listed env H φ a w hlen hnd hsz hlt hiff hdown hpair h hs
    have notin : ∀ j, listed.getD j false = true → j ∉ l := by
      intro j hj hm
      have h1 := hlt j hm
      have h2 := (hiff j h1).2 hm
      have h3 : j < listed.size := by omega
      simp [h3] at hj h2
      rw [h2] at hj
      cases hj
    refine ⟨fun hr => ?_, fun i hi => ?_⟩
    · cases l with
      | nil => exact hq _ _ _ _ _ h hs
      | cons z l =>
        exfalso
        obtain ⟨m, hm, hmin⟩ := least (z :: l) (by simp)
        have hml := hlt m hm
        have : m ∈ Region.ready .any ops listed := by
          refine mem_ready.2 ⟨(hiff m hml).2 hm, ops[m], Array.getElem?_eq_getElem hml, fun e he hbb => ?_⟩
          have h1 := hedge m _ (Array.getElem?_eq_getElem hml) e he hbb
          have h2 : e.on ∉ z :: l := fun hx => by have := hmin _ hx; omega
          have h3 : listed.getD e.on true ≠ false := fun hx => h2 ((hiff e.on (by omega)).1 hx)
          have h4 : e.on < listed.size := by omega
          simp [h4] at h3 ⊢
          exact h3
        rw [hr] at this
        cases this
    · obtain ⟨h0, o, ho, hall⟩ := mem_ready.1 hi
      have hil : i < ops.size := (Array.getElem?_eq_some_iff.1 ho).1
      have him : i ∈ l := (hiff i hil).1 h0
      obtain ⟨l1, l2, rfl⟩ := List.append_of_mem him
      have hready : ∀ o', ops[i]? = some o' → ∀ e ∈ o'.after, Region.binds .any e = true → e.on ∉ l1 ++ i :: l2 := by
        intro o' ho' e he hb
        rw [ho] at ho'
        cases ho'
        exact notin _ (hall e he hb)
      have hz : ∀ z ∈ l1, indepB own (ops.toList.map (·.dst)) (sop ops z) (sop ops i) = true := by
        intro z hz
        have := (List.pairwise_append.1 hpair).2.2 z hz i (by simp)
        rcases this with h | h
        · exact h
        · exact absurd (List.mem_append_left _ hz) (reach_spec hdown 5 i h hready)
      rw [List.map_append, List.map_cons] at h
      have hb := bubble (l1.map (sop ops)) (by simpa using hz) env H h
      refine stepT_wp hΓ ho (hok i o ho) hs hb ?_
      intro env' H' φ' a' w' hk hs'
      have hi1 : i ∉ l1 ++ l2 := by
        have := hnd
        rw [List.nodup_append] at this
        obtain ⟨_, h2, h3⟩ := this
        rw [List.nodup_cons] at h2
        intro hx
        rcases List.mem_append.1 hx with hx | hx
        · exact h3 i hx i (by simp) rfl
        · exact h2.1 hx
      have hsub : (l1 ++ l2).Sublist (l1 ++ i :: l2) := List.Sublist.append (List.Sublist.refl _) (List.sublist_cons_self _ _)
      refine ih (l1 ++ l2) (listed.setIfInBounds i true) env' H' φ' a' w' (by simp at hlen ⊢; omega) (hnd.sublist hsub) (by simpa using hsz) (fun j hj => hlt j (hsub.subset hj)) ?_ ?_ (hpair.sublist hsub) (by rw [List.map_append]; exact hk) hs'
      · intro j hj
        by_cases hji : i = j
        · subst hji
          have : i < listed.size := by omega
          simp [this]
          simpa using hi1
        · rw [getD_set_ne true hji, hiff j hj]
          simp only [List.mem_append, List.mem_cons]
          constructor
          · rintro (h | h | h)
            · exact .inl h
            · exact absurd h.symm hji
            · exact .inr h
          · rintro (h | h)
            · exact .inl h
            · exact .inr (.inr h)
      · intro j o' ho' hj e he hbb hx
        have hx' := hsub.subset hx
        by_cases hji : j = i
        · subst hji
          exact hready o' ho' e he hbb hx'
        · refine hdown j o' ho' ?_ e he hbb hx'
          intro hm
          apply hj
          simp only [List.mem_append, List.mem_cons] at hm ⊢
          rcases hm with h | h | h
          · exact .inl h
          · exact absurd h hji
          · exact .inr h

theorem pairs_spec {ops : Array Oper} {all : List (Option Nat)} : ∀ (l : List Nat), pairsOk own ops all l = true → l.Pairwise (fun z y => indepB own all (sop ops z) (sop ops y) = true ∨ reachB ops 5 y z = true)
  | [], _ => .nil
  | z :: l, h => by
    simp only [pairsOk, Bool.and_eq_true, List.all_eq_true, Bool.or_eq_true] at h
    exact .cons (fun y hy => h.1 y hy) (pairs_spec l h.2)

/-- A region that draws its order: one order is walked. -/
theorem W_draw (hm : P.follows .mixedOrders = true) (hΓ : Good P Γ) (K : List Nat) (own : List FuncId) (ord : List Nat) {n0 id : Nat} {ops : Array Oper} {Q : Exit → St → Prop} {s : St} (hok : ops.toList.all (opOk N) = true) (ho : ordOk own ops ord = true)
    (h : opsT P Γ own (ops.toList.map (·.dst)) (ord.map (sop ops)) s.env s.H fun env H => Q .normal ⟨keep K env, H⟩) : W P N n0 (.region id ops true) Q s := by
  simp only [ordOk, Bool.and_eq_true, List.all_eq_true, decide_eq_true_eq] at ho
  obtain ⟨⟨⟨⟨o1, o2⟩, o3⟩, o4⟩, o5⟩ := ho
  have hok' : ∀ (i : Nat) (o : Oper), ops[i]? = some o → opOk N o = true := by
    intro i o hi
    simp only [List.all_eq_true] at hok
    exact hok o (by simpa using Array.mem_of_getElem? hi)
  intro x φ a w hx hs
  refine wp_region_any hm ?_
  have hs' := hs.drawn (w.drawn + 1)
  refine opsT_any (x := x) (own := own) hΓ hok' ?_ (k := fun env H => Q .normal ⟨keep K env, H⟩) ?_ ops.size ord _ s.env s.H φ a _ ?_ o2 (by simp) (fun j hj => o4 j hj) ?_ ?_ (pairs_spec ord o5) h hs'
  · intro i o hi e he hbb
    have := edges_spec ops.toList 0 o1 i o (by simpa using hi) e (by simpa using he) hbb
    omega
  · intro env H φ a w hk hs''
    exact ⟨_, φ, hk, hs''.keep K⟩
  · have := List.Nodup.length_le_of_subset o2 (l₂ := List.range ops.size) fun j hj => by simpa using o4 j hj
    simpa using this
  · intro j hj
    have := o3 j (by simpa using hj)
    simp only [List.contains_iff_mem] at this
    simp [hj, this]
  · intro j o hj hn
    have hlt := (Array.getElem?_eq_some_iff.1 hj).1
    have := o3 j (by simpa using hlt)
    simp only [List.contains_iff_mem] at this
    exact absurd this hn
end

end Go.Proofs.Ytpakdkiceoknjaa
