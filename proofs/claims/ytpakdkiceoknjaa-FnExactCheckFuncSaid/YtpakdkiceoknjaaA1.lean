/- The abstract machine, part 1: states, what a code is worth over abstract states, and the rules for code. No condition. -/
import Derived.Test.YtpakdkiceoknjaaA0
import Derived.Deep.LoopGhost
namespace Go.Proofs.Ytpakdkiceoknjaa
set_option linter.unusedVariables false

abbrev Env := Nat → V
def upd (env : Env) (t : Nat) (v : V) : Env := fun x => if x = t then v else env x
structure St where
  env : Env
  H : Heap
structure Ctx where
  X : Nat → Prop
  w0 : World
  φ0 : List (Nat × Nat)
  H0 : Heap

structure Sim (c : Ctx) (N : Nat) (s : St) (φ : List (Nat × Nat)) (a : Act) (w : World) : Prop where
  hs : HS c.X w φ s.H
  env : ∀ t, VS w (owned c.X φ s.H) φ (s.env t) (a.tmps.getD t undef)
  low : ∀ g, c.X g → g < c.w0.heap.size
  defers : a.defers = []
  size : a.tmps.size = N
  fr : Fr c.w0 (ownOf c.φ0 c.H0) w
  old : ∀ g, g < c.w0.heap.size → ownOf φ s.H g → ownOf c.φ0 c.H0 g
  ext : Ext c.φ0 φ
  long : c.H0.length ≤ s.H.length
  len0 : c.φ0.length = c.H0.length

/-- From the abstract state the code comes to its ends, each of which is told by Q. -/
def W (P : Program) (N n0 : Nat) (c : Code) (Q : Exit → St → Prop) (s : St) : Prop :=
  ∀ (x : Ctx) (φ : List (Nat × Nat)) (a : Act) (w : World), x.H0.length = n0 → Sim x N s φ a w →
    c.wp P (fun e a' w' => ∃ s' φ', Q e s' ∧ Sim x N s' φ' a' w') a w

/-- The second state says no more than the first. -/
def Weak (n0 : Nat) (s s' : St) : Prop := ∀ (x : Ctx) (N : Nat) (φ : List (Nat × Nat)) (a : Act) (w : World), x.H0.length = n0 → Sim x N s φ a w → ∃ φ', Sim x N s' φ' a w

theorem Weak.refl (n0 : Nat) (s : St) : Weak n0 s s := fun _ _ φ _ _ _ h => ⟨φ, h⟩
theorem Weak.trans {n0 : Nat} {a b c : St} (h : Weak n0 a b) (k : Weak n0 b c) : Weak n0 a c := fun x N φ y w hx hs =>
  let ⟨φ', h'⟩ := h x N φ y w hx hs
  k x N φ' y w hx h'

/-- What follows behind the first code. -/
def seqQ (k : St → Prop) (Q : Exit → St → Prop) : Exit → St → Prop
  | .normal, s => k s
  | e, s => Q e s
def blockQ (id : Nat) (Q : Exit → St → Prop) : Exit → St → Prop
  | .exit id', s => if id' = id then Q .normal s else Q (.exit id') s
  | e, s => Q e s

section
variable {P : Program} {N n0 : Nat} {Q : Exit → St → Prop} {s : St}

theorem W_mono {c : Code} {Q' : Exit → St → Prop} (h : W P N n0 c Q s) (hq : ∀ e s, Q e s → Q' e s) : W P N n0 c Q' s :=
  fun x φ a w hx hs => wp_mono (h x φ a w hx hs) fun e a' w' ⟨s', φ', q, r⟩ => ⟨s', φ', hq e s' q, r⟩
theorem W_weak {c : Code} {s' : St} (h : Weak n0 s s') (k : W P N n0 c Q s') : W P N n0 c Q s :=
  fun x φ a w hx hs => let ⟨φ', h'⟩ := h x N φ a w hx hs; k x φ' a w hx h'
theorem W_skip (h : Q .normal s) : W P N n0 .skip Q s := fun x φ a w hx hs => wp_skip ⟨s, φ, h, hs⟩
theorem W_exit {id : Nat} (h : Q (.exit id) s) : W P N n0 (.exit id) Q s := fun x φ a w hx hs => wp_exit ⟨s, φ, h, hs⟩
theorem W_ret (h : Q .ret s) : W P N n0 .ret Q s := fun x φ a w hx hs => wp_ret ⟨s, φ, h, hs⟩
theorem W_seq {b c : Code} (h : W P N n0 b (seqQ (W P N n0 c Q) Q) s) : W P N n0 (.seq b c) Q s := by
  intro x φ a w hx hs
  refine wp_seq (wp_mono (h x φ a w hx hs) ?_)
  rintro e a' w' ⟨s', φ', q, r⟩
  cases e with
  | normal => exact q x φ' a' w' hx r
  | _ => exact ⟨s', φ', q, r⟩
theorem W_block {id : Nat} {c : Code} (h : W P N n0 c (blockQ id Q) s) : W P N n0 (.block id c) Q s := by
  intro x φ a w hx hs
  refine wp_block (wp_mono (h x φ a w hx hs) ?_)
  rintro e a' w' ⟨s', φ', q, r⟩
  cases e with
  | exit id' =>
    unfold Exit.inBlock
    simp only [blockQ] at q
    split at q <;> rename_i hid <;> simp only [hid, if_true, if_false] <;> exact ⟨s', φ', q, r⟩
  | _ => exact ⟨s', φ', q, r⟩
theorem W_cond {o : Operand} {b c : Code} {t : Bool} (ho : ∀ x φ a w, x.H0.length = n0 → Sim x N s φ a w → a.eval o = .bool t)
    (ht : t = true → W P N n0 b Q s) (hf : t = false → W P N n0 c Q s) : W P N n0 (.cond o b c) Q s := by
  intro x φ a w hx hs
  refine wp_cond_split (ho x φ a w hx hs) (fun h => ht h x φ a w hx hs) (fun h => hf h x φ a w hx hs)
theorem W_loop {c : Code} (I : Nat → St → Prop) (n : Nat) (h0 : I n s)
    (round : ∀ n s, I n s → W P N n0 c (seqQ (fun s' => ∃ m s'', m < n ∧ Weak n0 s' s'' ∧ I m s'') Q) s) : W P N n0 (.loop c) Q s := by
  intro x φ a w hx hs
  refine wp_loop_ghost (fun n a w => ∃ s φ, I n s ∧ Sim x N s φ a w) n ⟨s, φ, h0, hs⟩ ?_
  rintro n a w ⟨s, φ, hI, hs⟩
  refine wp_mono (round n s hI x φ a w hx hs) ?_
  rintro e a' w' ⟨s', φ', q, r⟩
  cases e with
  | normal =>
    obtain ⟨m, s'', hm, hw, hI'⟩ := q
    obtain ⟨φ'', r'⟩ := hw x N φ' a' w' hx r
    exact ⟨m, hm, s'', φ'', hI', r'⟩
  | _ => exact ⟨s', φ', q, r⟩
end

/-- May the function be entered? -/
def enters (P : Program) (f : FuncId) : Bool :=
  match P.funcs[f]? with
  | some fn => !(fn.name == "runtime.NumGoroutine") && fn.body.isSome
  | none => false

/-- A call over abstract values: the callee may use the places H; what it tells is told by Q. -/
def CallsD (P : Program) (f : FuncId) (vs : List V) (H : Heap) (Q : V → Heap → Prop) : Prop :=
  enters P f = true ∧ ∀ (X : Nat → Prop) (w : World) (φ : List (Nat × Nat)) (args : Array Value), (∀ g, X g → g < w.heap.size) → HS X w φ H → VSs w (owned X φ H) φ vs args.toList →
    Calls P f args w fun e w' => ∃ v r φ' H', e = .returned v ∧ Q r H' ∧ HS X w' φ' H' ∧ VS w' (owned X φ' H') φ' r v ∧ Fr w (ownOf φ H) w' ∧
      Ext φ φ' ∧ H.length ≤ H'.length ∧ ∀ g, g < w.heap.size → ownOf φ' H' g → ownOf φ H g

theorem CallsD.mono {P : Program} {f : FuncId} {vs : List V} {H : Heap} {Q Q' : V → Heap → Prop} (h : CallsD P f vs H Q) (hq : ∀ r H', Q r H' → Q' r H') : CallsD P f vs H Q' :=
  ⟨h.1, fun X w φ args hX hs hv => (h.2 X w φ args hX hs hv).mono fun e w' ⟨v, r, φ', H', he, q, rest⟩ => ⟨v, r, φ', H', he, hq r H' q, rest⟩⟩

/-- Closed arguments, a closed answer: the callee writes nothing that was there. -/
def PureP (P : Program) (f : FuncId) (vs : List V) (Q : V → Prop) : Prop := CallsD P f vs [] fun r H' => H' = [] ∧ Q r

end Go.Proofs.Ytpakdkiceoknjaa
