/- The abstract machine, part 18: a region that draws its order. One order is walked; the others come to the same. No condition. -/
import Derived.Test.YtpakdkiceoknjaaB2
import Derived.Orders
namespace Go.Proofs.Ytpakdkiceoknjaa
set_option linter.unusedVariables false
set_option linter.unusedSimpArgs false

/-! ### Operations with one outcome -/
def Det1 (F : (V → Prop) → Prop) : Prop := ∀ k, F k → ∃ v, k v ∧ ∀ k' : V → Prop, k' v → F k'

theorem det_optK (o : Option D) : Det1 (optK o) := by
  intro k h
  cases o with
  | none => exact h.elim
  | some d => exact ⟨_, h, fun k' h' => h'⟩
theorem det_pick (c a b : V) : Det1 (pickD c a b) := by
  intro k h
  unfold pickD at h ⊢
  split at h
  · rename_i t
    split at h
    · exact ⟨_, h, fun k' h' => h'⟩
    · rename_i hn
      cases t with
      | true => exact ⟨a, h.1 rfl, fun k' h' => ⟨fun _ => h', fun q => (by cases q)⟩⟩
      | false => exact ⟨b, h.2 rfl, fun k' h' => ⟨fun q => (by cases q), fun _ => h'⟩⟩
  · exact h.elim
theorem det_nilCheck (x : V) : Det1 (nilCheckD x) := by
  intro k h
  unfold nilCheckD at h
  split at h
  all_goals first
    | exact h.elim
    | exact ⟨_, h, fun k' h' => by simpa [nilCheckD] using h'⟩
theorem det_un (op : UnOp) (x : V) : Det1 (unD op x) := by
  intro k h
  unfold unD at h
  split at h
  all_goals first
    | exact h.elim
    | exact ⟨_, h, fun k' h' => by simpa [unD] using h'⟩
theorem det_convert (P : Program) (src dst : TypeId) (x : V) : Det1 (convertD P src dst x) := by
  intro k h
  unfold convertD at h ⊢
  split at h
  · rename_i h1 h2
    try simp only [h1, h2]
    split at h
    · rename_i h3; exact ⟨_, h, fun k' h' => h'⟩
    · rename_i h3; exact ⟨_, h, fun k' h' => h'⟩
    · exact h.elim
  · exact h.elim
theorem det_fieldAddr (P : Program) (s : TypeId) (x : V) (f : Nat) : Det1 (fieldAddrD P s x f) := by
  intro k h
  unfold fieldAddrD at h ⊢
  split at h
  · rename_i h1
    try simp only [h1]
    split at h
    · rename_i h2
      try simp only [h2]
      obtain ⟨h3, h⟩ := h
      split at h
      · exact ⟨_, h.2, fun k' h' => ⟨h3, h.1, h'⟩⟩
      · exact ⟨_, h, fun k' h' => ⟨h3, h'⟩⟩
      · exact h.elim
    · exact h.elim
  · exact h.elim
theorem det_field (P : Program) (s : TypeId) (x : V) (f : Nat) : Det1 (fieldD P s x f) := by
  intro k h
  unfold fieldD at h ⊢
  split at h
  · rename_i h1
    try simp only [h1]
    split at h
    · rename_i h2
      try simp only [h2]
      split at h
      · rename_i h3
        try simp only [h3]
        exact ⟨_, h.2.2, fun k' h' => ⟨h.1, h.2.1, h'⟩⟩
      · exact h.elim
    · exact h.elim
  · exact h.elim
theorem det_indexAddr (P : Program) (t : TypeId) (x ix : V) : Det1 (indexAddrD P t x ix) := by
  intro k h
  unfold indexAddrD at h ⊢
  split at h
  · rename_i h1
    try simp only [h1]
    split at h
    · rename_i h2
      try simp only [h2]
      split at h
      · exact ⟨_, h.2.2, fun k' h' => ⟨h.1, h.2.1, h'⟩⟩
      · exact ⟨_, h.2.2, fun k' h' => ⟨h.1, h.2.1, h'⟩⟩
      · exact h.elim
    · exact h.elim
  · exact h.elim
theorem det_index (P : Program) (t : TypeId) (x ix : V) : Det1 (indexD P t x ix) := by
  intro k h
  unfold indexD at h ⊢
  split at h
  · rename_i h1
    try simp only [h1]
    split at h
    · exact ⟨_, h.2, fun k' h' => ⟨h.1, h'⟩⟩
    · exact h.elim
  · exact h.elim
theorem det_extract (x : V) (i : Nat) : Det1 (extractD x i) := by
  intro k h
  unfold extractD at h ⊢
  split at h
  · obtain ⟨v, h1, h2⟩ := h
    exact ⟨v, h2, fun k' h' => ⟨v, h1, h'⟩⟩
  · exact h.elim
theorem det_len (P : Program) (t : TypeId) (x : V) : Det1 (lenD P t x) := by
  intro k h
  unfold lenD at h ⊢
  split at h
  all_goals first
    | exact h.elim
    | (rename_i h1; exact ⟨_, h, fun k' h' => h'⟩)
theorem det_build (ti : Option TI) (parts : List (Nat × V)) : Det1 (buildD ti parts) := by
  intro k h
  unfold buildD at h ⊢
  split at h
  · exact h.elim
  · split at h
    · rename_i h1
      obtain ⟨h2, l, h3, h4⟩ := h
      exact ⟨_, h4, fun k' h' => ⟨h2, l, h3, h'⟩⟩
    · exact h.elim
theorem det_bound {v : Option V} {d : Nat} {F : Nat → (V → Prop) → Prop} (hF : ∀ n, Det1 (F n)) : Det1 (fun k => boundD v d fun n => F n k) := by
  intro k h
  unfold boundD at h ⊢
  split at h
  · exact hF _ k h
  · obtain ⟨v, h1, h2⟩ := hF _ k h.2
    exact ⟨v, h1, fun k' h' => ⟨h.1, h2 k' h'⟩⟩
  · exact h.elim
theorem det_side {s : Prop} {v : V} : Det1 (fun k => s ∧ k v) := fun k h => ⟨v, h.2, fun k' h' => ⟨h.1, h'⟩⟩
theorem det_under {s : Prop} {F : (V → Prop) → Prop} (hF : Det1 F) : Det1 (fun k => s ∧ F k) := fun k h => by
  obtain ⟨v, h1, h2⟩ := hF k h.2
  exact ⟨v, h1, fun k' h' => ⟨h.1, h2 k' h'⟩⟩
theorem det_slice (P : Program) (t : TypeId) (x : V) (lo hi mx : Option V) : Det1 (sliceD P t x lo hi mx) := by
  intro k h
  unfold sliceD at h ⊢
  split at h
  · rename_i h1
    try simp only [h1]
    split at h
    · rename_i h2
      try simp only [h2]
      split at h
      · exact det_under (det_bound fun _ => det_bound fun _ => det_side) k h
      · exact det_under (det_bound fun _ => det_bound fun _ => det_side) k h
      · exact (det_bound fun _ => det_bound fun _ => det_side) k h
      · exact h.elim
    · exact h.elim
  · rename_i h1
    try simp only [h1]
    split at h
    · exact (det_bound fun _ => det_bound fun _ => det_side) k h
    · exact h.elim
  · exact h.elim

/-- A comparison, but for that of a given slice with nil, whose outcome is open. -/
def binT (P : Program) (op : BinOp) (t : TypeId) (x y : V) (k : V → Prop) : Prop :=
  match x, y with
  | .d (.ro ..), .d .nilsl => False
  | _, _ => binD P op t x y k
theorem det_bin (P : Program) (op : BinOp) (t : TypeId) (x y : V) : Det1 (binT P op t x y) := by
  intro k h
  unfold binT at h ⊢
  split at h
  · exact h.elim
  · rename_i hne
    unfold binD at h ⊢
    split at h
    · split at h
      · exact det_optK _ k h
      · exact det_optK _ k h
      · exact det_under (det_optK _) k h
    · split at h
      · exact det_side k h
      · exact det_optK _ k h
    · split at h
      · rename_i h1; exact det_optK _ k h
      · exact h.elim
    · split at h
      · rename_i h1
        split at h
        · exact det_optK _ k h
        · exact det_optK _ k h
        · exact det_optK _ k h
        · exact h.elim
      · exact h.elim
    · split at h
      · rename_i h1
        split at h
        · exact det_optK _ k h
        · exact det_optK _ k h
        · exact absurd rfl (hne _ _ _ rfl)
        · exact h.elim
      · exact h.elim
    · exact h.elim

theorem det_load (ti : Option TI) (a : V) (H : Heap) (k : V → Prop) (h : loadD ti a H k) : ∃ v, k v ∧ ∀ (l : Heap) (k' : V → Prop), k' v → loadD ti a (H ++ l) k' := by
  unfold loadD at h ⊢
  split at h
  · exact h.elim
  · split at h
    · exact ⟨_, h.2.2, fun l k' h' => ⟨h.1, h.2.1, h'⟩⟩
    · split at h
      · rename_i hid
        obtain ⟨h1, l0, h2, h3, h4, h5⟩ := h
        refine ⟨_, h5, fun l k' h' => ?_⟩
        have hlt := (List.getElem?_eq_some_iff.1 hid).1
        simp only [List.getElem?_append_left hlt, hid]
        exact ⟨h1, l0, h2, h3, h4, h'⟩
      · exact h.elim
    · exact h.elim

/-! ### Classes of operations -/
inductive Cl where
  | pure
  | read
  | grow
  | any
  deriving DecidableEq
/-- A callee that answers with new places. -/
def ownCallee (own : List FuncId) : Callee → Bool
  | .value (.func g) => own.contains g
  | .value _ => false
  | .builtin .len => false
  | _ => true
/-- A callee that answers with new places alone (it is listed with a million added). -/
def growCallee (own : List FuncId) : Callee → Bool
  | .value (.func g) => own.contains (g + 1000000)
  | _ => false
def clOf (own : List FuncId) : Op → Cl
  | .move _ | .assign _ | .pick .. | .nilCheck _ | .unOp .. | .convert .. | .slice .. | .fieldAddr .. | .field .. | .indexAddr .. | .index .. | .extract .. | .build .. | .binOp .. | .makeFunc .. => .pure
  | .load .. => .read
  | .alloc _ | .box .. | .buildSlice .. | .makeSlice .. => .grow
  | .call c => if growCallee own c.callee then .grow else if ownCallee own c.callee then .any else .pure
  | _ => .any

/-- A call that is answered by value. -/
def goT (Γ : Table) (g : FuncId) (vs : List V) (k : V → Prop) : Prop :=
  match Γ g vs with
  | some (r, []) => k r
  | _ => False
theorem det_go (Γ : Table) (g : FuncId) (vs : List V) : Det1 (goT Γ g vs) := by
  intro k h
  unfold goT at h ⊢
  split at h
  · exact ⟨_, h, fun k' h' => h'⟩
  · exact h.elim
theorem goT_goD {P : Program} {Γ : Table} {g : FuncId} {vs : List V} {H : Heap} {k : V → Heap → Prop} (h : goT Γ g vs fun v => k v H) : goD P Γ g vs H k := by
  unfold goT at h
  unfold goD
  split at h
  · rename_i e; simp only [e]; exact h
  · exact h.elim
/-- Calls that are answered by value, and 'len'. -/
def callT (P : Program) (Γ : Table) (env : Env) (c : Call) (k : V → Prop) : Prop :=
  match c.callee with
  | .value f => (match ev env f with
    | .d (.clo g n cap) => goT Γ g (c.args.toList.map (ev env) ++ upto n fun j => .d (cap j)) k
    | .clo g l => goT Γ g (c.args.toList.map (ev env) ++ l) k
    | _ => False)
  | .builtin .len => (match c.args.toList, c.argTypes.toList with
    | [x], [t] => lenD P t (ev env x) k
    | _, _ => False)
  | _ => False
theorem callT_callD {P : Program} {Γ : Table} {env : Env} {H : Heap} {c : Call} {k : V → Heap → Prop} (h : callT P Γ env c fun v => k v H) : callD P Γ env H c k := by
  obtain ⟨callee, args, ct⟩ := c
  cases callee with
  | value f =>
    simp only [callT, callD] at h ⊢
    split at h
    · rename_i e
      simp only [e]
      exact goT_goD h
    · rename_i e
      simp only [e]
      exact goT_goD h
    · exact h.elim
  | invoke r m => simp only [callT] at h
  | builtin b =>
    cases b <;> simp only [callT, callD] at h ⊢
    all_goals exact h

/-- A call that is answered with new places alone. -/
def callG (P : Program) (env : Env) (H : Heap) (c : Call) (k : V → Heap → Prop) : Prop :=
  match c.callee with
  | .value (.func g) => ∃ r R, CallsD P g (c.args.toList.map (ev env)) H (fun r' H' => r' = r ∧ H' = H ++ R) ∧ k r (H ++ R)
  | _ => False
/-- An operation in a region that draws. -/
def opT (P : Program) (Γ : Table) (own : List FuncId) (env : Env) (H : Heap) (o : Op) (k : V → Heap → Prop) : Prop :=
  match o with
  | .binOp op t x y _ => binT P op t (ev env x) (ev env y) fun v => k v H
  | .call c => if growCallee own c.callee then callG P env H c k else if ownCallee own c.callee then callD P Γ env H c k else callT P Γ env c fun v => k v H
  | o => opD P Γ env H o k
theorem opT_opD {P : Program} {Γ : Table} {own : List FuncId} {env : Env} {H : Heap} {o : Op} {k : V → Heap → Prop} (hg : ∀ c, o = .call c → growCallee own c.callee = false) (h : opT P Γ own env H o k) : opD P Γ env H o k := by
  unfold opT at h
  split at h
  · unfold binT at h
    split at h
    · exact h.elim
    · exact h
  · rw [if_neg (by rw [hg _ rfl]; decide)] at h
    split at h
    · exact h
    · exact callT_callD h
  · exact h

theorem opT_env {P : Program} {Γ : Table} {own : List FuncId} {env env' : Env} {H : Heap} {o : Op} {k : V → Heap → Prop} (he : ∀ x ∈ o.operands.toList, ev env' x = ev env x) : opT P Γ own env' H o k = opT P Γ own env H o k := by
  have pairs : ∀ (ps : Array (Nat × Operand)), (∀ x ∈ ps.toList.map (·.2), ev env' x = ev env x) → (ps.toList.map fun p => (p.1, ev env' p.2)) = (ps.toList.map fun p => (p.1, ev env p.2)) := fun ps hp =>
    List.map_congr_left fun p hm => by rw [hp p.2 (List.mem_map.2 ⟨p, hm, rfl⟩)]
  have args : ∀ (xs : Array Operand), (∀ x ∈ xs.toList, ev env' x = ev env x) → xs.toList.map (ev env') = xs.toList.map (ev env) := fun xs hx => List.map_congr_left fun x hm => hx x hm
  cases o
  case call c =>
    simp only [Op.operands, Call.operands] at he
    have ha : c.args.toList.map (ev env') = c.args.toList.map (ev env) := args _ fun x hx => he x (by simp [hx])
    obtain ⟨callee, cargs, ct⟩ := c
    simp only [opT]
    cases callee with
    | value f =>
      have hf : ev env' f = ev env f := he f (by simp)
      cases f <;> simp only [callD, callT, callG, hf, ha]
    | invoke r m => simp only [callD, callT, callG]
    | builtin b =>
      cases b <;> simp only [callD, callT, callG]
      case len =>
        simp only [] at ha
        cases hcl : cargs.toList with
        | nil => rfl
        | cons x1 l1 =>
          rw [hcl] at ha
          simp only [List.map_cons, List.cons.injEq] at ha
          cases l1 with
          | nil =>
            cases hct : ct.toList with
            | nil => rfl
            | cons t1 lt =>
              cases lt with
              | nil => simp only [ha.1]
              | cons t2 lt => rfl
          | cons x2 l2 => rfl
      case append =>
        simp only [] at ha
        cases hcl : cargs.toList with
        | nil => rfl
        | cons x1 l1 =>
          rw [hcl] at ha
          simp only [List.map_cons, List.cons.injEq] at ha
          cases l1 with
          | nil => rfl
          | cons x2 l2 =>
            simp only [List.map_cons, List.cons.injEq] at ha
            cases l2 with
            | nil =>
              cases hct : ct.toList with
              | nil => rfl
              | cons t1 lt =>
                cases lt with
                | nil => rfl
                | cons t2 lt =>
                  cases lt with
                  | nil => simp only [ha.1, ha.2.1]
                  | cons t3 lt => rfl
            | cons x3 l3 => rfl
      case copy =>
        simp only [] at ha
        cases hcl : cargs.toList with
        | nil => rfl
        | cons x1 l1 =>
          rw [hcl] at ha
          simp only [List.map_cons, List.cons.injEq] at ha
          cases l1 with
          | nil => rfl
          | cons x2 l2 =>
            simp only [List.map_cons, List.cons.injEq] at ha
            cases l2 with
            | nil =>
              cases hct : ct.toList with
              | nil => rfl
              | cons t1 lt =>
                cases lt with
                | nil => rfl
                | cons t2 lt =>
                  cases lt with
                  | nil => simp only [ha.1, ha.2.1]
                  | cons t3 lt => rfl
            | cons x3 l3 => rfl
  case build t ps => simp only [opT, opD]; rw [pairs ps fun x hx => he x (by simpa [Op.operands] using hx)]
  case buildSlice t n ps => simp only [opT, opD]; rw [pairs ps fun x hx => he x (by simpa [Op.operands] using hx)]
  case makeFunc f first cap =>
    cases f <;> simp only [opT, opD]
    rw [args cap fun x hx => he x (by simp [Op.operands, hx])]
  case slice t x lo hi mx =>
    simp only [Op.operands] at he
    simp only [opT, opD]
    rw [he x (by simp)]
    have h1 : lo.map (ev env') = lo.map (ev env) := by cases lo with | none => rfl | some y => simp [he y (by simp)]
    have h2 : hi.map (ev env') = hi.map (ev env) := by cases hi with | none => rfl | some y => simp [he y (by simp)]
    have h3 : mx.map (ev env') = mx.map (ev env) := by cases mx with | none => rfl | some y => simp [he y (by simp)]
    rw [h1, h2, h3]
  all_goals first
    | (simp only [opT, opD]; done)
    | (simp only [Op.operands, List.mem_cons, List.not_mem_nil, or_false, forall_eq_or_imp, forall_eq] at he
       simp only [opT, opD, he])

end Go.Proofs.Ytpakdkiceoknjaa
