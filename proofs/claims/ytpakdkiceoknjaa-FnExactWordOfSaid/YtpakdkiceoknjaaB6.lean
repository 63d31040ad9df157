/- The abstract machine, part 16: the walk's two recursions under lock: Lean's kernel is not to unfold what is yet to be walked. No condition. -/
import Derived.Test.YtpakdkiceoknjaaB4
import Derived.Laws.Wrap64
namespace Go.Proofs.Ytpakdkiceoknjaa

theorem opsL_ex : ∃ f, f = @opsD := ⟨_, rfl⟩
noncomputable def opsL : Program → Table → List (Option Nat) → List SOp → Env → Heap → (Env → Heap → Prop) → Prop := Classical.choose opsL_ex
theorem opsL_eq : opsL = @opsD := Classical.choose_spec opsL_ex
theorem wpL_ex : ∃ f, f = @wpD := ⟨_, rfl⟩
noncomputable def wpL : Program → Table → Nat → Nat → List Nat → SCode → (Exit → St → Prop) → St → Prop := Classical.choose wpL_ex
theorem wpL_eq : wpL = @wpD := Classical.choose_spec wpL_ex

section
variable {P : Program} {Γ : Table} {N n0 : Nat} {K : List Nat}
@[simp ↓] theorem opsL_nil {all : List (Option Nat)} {env : Env} {H : Heap} {k : Env → Heap → Prop} : opsL P Γ all [] env H k = k env H := by
  rw [opsL_eq]; rfl
@[simp ↓] theorem opsL_plain {all : List (Option Nat)} {dst : Option Nat} {op : Op} {rest : List SOp} {env : Env} {H : Heap} {k : Env → Heap → Prop} :
    opsL P Γ all (⟨dst, op, none⟩ :: rest) env H k = opD P Γ env H op fun v H' => opsL P Γ all rest (updO env dst v) H' k := by
  rw [opsL_eq]; rfl
@[simp ↓] theorem opsL_guard {all : List (Option Nat)} {dst : Option Nat} {op : Op} {j : Nat} {want : Bool} {rest : List SOp} {env : Env} {H : Heap} {k : Env → Heap → Prop} :
    opsL P Γ all (⟨dst, op, some (j, want)⟩ :: rest) env H k = (match slotOf all j with
      | none => False
      | some t => match env t with
        | .d (.bool b) => (b = want → opD P Γ env H op fun v H' => opsL P Γ all rest (updO env dst v) H' k) ∧ (b ≠ want → opsL P Γ all rest (updO env dst (.tup [])) H k)
        | .tup [] => opsL P Γ all rest (updO env dst (.tup [])) H k
        | _ => False) := by
  rw [opsL_eq]; rfl
@[simp ↓] theorem wpL_skip {Q : Exit → St → Prop} {s : St} : wpL P Γ N n0 K .skip Q s = Q .normal s := by rw [wpL_eq]; rfl
@[simp ↓] theorem wpL_ops {l : List SOp} {Q : Exit → St → Prop} {s : St} : wpL P Γ N n0 K (.ops l) Q s = opsL P Γ (dstsOf l) l s.env s.H fun env H => Q .normal ⟨keep K env, H⟩ := by rw [wpL_eq, opsL_eq]; rfl
@[simp ↓] theorem wpL_draw {id : Nat} {ops : Array Oper} {Q : Exit → St → Prop} {s : St} : wpL P Γ N n0 K (.draw id ops) Q s = W P N n0 (.region id ops true) Q s := by rw [wpL_eq]; rfl
@[simp ↓] theorem wpL_seq {a b : SCode} {Q : Exit → St → Prop} {s : St} : wpL P Γ N n0 K (.seq a b) Q s = wpL P Γ N n0 K a (seqQ (wpL P Γ N n0 K b Q) Q) s := by rw [wpL_eq]; rfl
@[simp ↓] theorem wpL_cond {c : Operand} {a b : SCode} {Q : Exit → St → Prop} {s : St} : wpL P Γ N n0 K (.cond c a b) Q s = (match ev s.env c with
    | .d (.bool t) => (t = true → wpL P Γ N n0 K a Q s) ∧ (t = false → wpL P Γ N n0 K b Q s)
    | _ => False) := by rw [wpL_eq]; rfl
@[simp ↓] theorem wpL_block {id : Nat} {c : SCode} {Q : Exit → St → Prop} {s : St} : wpL P Γ N n0 K (.block id c) Q s = wpL P Γ N n0 K c (blockQ id Q) s := by rw [wpL_eq]; rfl
@[simp ↓] theorem wpL_loop {c : Code} {Q : Exit → St → Prop} {s : St} : wpL P Γ N n0 K (.loop c) Q s = W P N n0 (.loop c) Q s := by rw [wpL_eq]; rfl
@[simp ↓] theorem wpL_exit {id : Nat} {Q : Exit → St → Prop} {s : St} : wpL P Γ N n0 K (.exit id) Q s = Q (.exit id) s := by rw [wpL_eq]; rfl
@[simp ↓] theorem wpL_ret {Q : Exit → St → Prop} {s : St} : wpL P Γ N n0 K .ret Q s = Q .ret s := by rw [wpL_eq]; rfl
@[simp ↓] theorem wpL_other {c : Code} {Q : Exit → St → Prop} {s : St} : wpL P Γ N n0 K (.other c) Q s = W P N n0 c Q s := by rw [wpL_eq]; rfl

theorem W_walk (hΓ : Good P Γ) (K : List Nat) {c : Code} {Q : Exit → St → Prop} {s : St} (hc : codeOk N c = true) (h : wpL P Γ N n0 K (strip c) Q s) : W P N n0 c Q s :=
  W_of hΓ K hc (by rw [← wpL_eq]; exact h)
end

theorem wrap_id {n : Int} (h1 : -9223372036854775808 ≤ n) (h2 : n ≤ 9223372036854775807) : IntKind.i64.wrap n = n := by
  rw [IntKind.wrap_i64]; omega

/-- A table that is answered may be told by its cells. -/
theorem PureP.ro {P : Program} {f : FuncId} {vs : List V} {e n : Nat} {f1 : Nat → Nat → D} (h : PureP P f vs fun r => ∃ f0, r = .d (.ro e n f0) ∧ ∀ i j, i < n → j < e → f0 i j = f1 i j) : PureP P f vs (· = .d (.ro e n f1)) := by
  refine ⟨h.1, fun X w φ args hX hs hv => (h.2 X w φ args hX hs hv).mono ?_⟩
  rintro e' w' ⟨v, r, φ', H', rfl, ⟨rfl, f0, rfl, hf⟩, hs', hv', rest⟩
  refine ⟨v, _, φ', [], rfl, ⟨rfl, rfl⟩, hs', ?_, rest⟩
  simp only [VS, DS] at hv' ⊢
  obtain ⟨A, cap, h1, h2, h3⟩ := hv'
  refine ⟨A, cap, h1, h2, fun i j hi hj => ?_⟩
  rw [← hf i j hi hj]
  exact h3 i j hi hj

theorem PureP.good {P : Program} {f : FuncId} {vs : List V} {r : V} (h : PureP P f vs (· = r)) (hc : closedL vs = true) (H : Heap) : CallsD P f vs H fun r' H' => r' = r ∧ H' = H :=
  (h.calls hc).mono fun _ _ ⟨a, b⟩ => ⟨b, a⟩

end Go.Proofs.Ytpakdkiceoknjaa
