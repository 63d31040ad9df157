/- The abstract machine, part 21: the walk of code with regions that draw; its recursions under lock. No condition. -/
import Derived.Test.YtpakdkiceoknjaaC0
import Derived.Test.YtpakdkiceoknjaaB7
namespace Go.Proofs.Ytpakdkiceoknjaa

/-- Code without what the walk does not ask; the orders of its drawing regions are told by O. -/
inductive XCode where
  | skip
  | ops (l : List SOp)
  | drawn (all : List (Option Nat)) (l : List SOp)
  | seq (a b : XCode)
  | cond (c : Operand) (a b : XCode)
  | block (id : Nat) (c : XCode)
  | loop (c : Code)
  | exit (id : Nat)
  | ret
  | other (c : Code)
def pickOps (l : List SOp) (ord : List Nat) : List SOp := ord.map fun j => (l[j]?).getD ⟨none, .ready 0, none⟩
def stripX (O : Nat → List Nat) : Code → XCode
  | .skip => .skip
  | .region _ ops false => .ops (stripOps ops.toList)
  | .region id ops true => .drawn (dstsOf (stripOps ops.toList)) (pickOps (stripOps ops.toList) (O id))
  | .seq a b => .seq (stripX O a) (stripX O b)
  | .cond c a b => .cond c (stripX O a) (stripX O b)
  | .block id c => .block id (stripX O c)
  | .loop c => .loop c
  | .exit id => .exit id
  | .ret => .ret
  | c => .other c
def wpX (P : Program) (Γ : Table) (own : List FuncId) (N n0 : Nat) (K : List Nat) : XCode → (Exit → St → Prop) → St → Prop
  | .skip, Q, s => Q .normal s
  | .ops l, Q, s => opsD P Γ (dstsOf l) l s.env s.H fun env H => Q .normal ⟨keep K env, H⟩
  | .drawn all l, Q, s => opsT P Γ own all l s.env s.H fun env H => Q .normal ⟨keep K env, H⟩
  | .seq a b, Q, s => wpX P Γ own N n0 K a (seqQ (wpX P Γ own N n0 K b Q) Q) s
  | .cond c a b, Q, s => (match ev s.env c with
    | .d (.bool t) => (t = true → wpX P Γ own N n0 K a Q s) ∧ (t = false → wpX P Γ own N n0 K b Q s)
    | _ => False)
  | .block id c, Q, s => wpX P Γ own N n0 K c (blockQ id Q) s
  | .loop c, Q, s => W P N n0 (.loop c) Q s
  | .exit id, Q, s => Q (.exit id) s
  | .ret, Q, s => Q .ret s
  | .other c, Q, s => W P N n0 c Q s
def codeOkX (N : Nat) (own : List FuncId) (O : Nat → List Nat) : Code → Bool
  | .region _ ops false => ops.toList.all (opOk N)
  | .region id ops true => ops.toList.all (opOk N) && ordOk own ops (O id)
  | .seq a b | .cond _ a b => codeOkX N own O a && codeOkX N own O b
  | .block _ c => codeOkX N own O c
  | _ => true

theorem strip_get (ops : List Oper) (j : Nat) : (stripOps ops)[j]? = (ops[j]?).map fun o => ⟨o.dst, o.op, o.guard⟩ := by
  induction ops generalizing j with
  | nil => simp [stripOps]
  | cons o l ih =>
    cases j with
    | zero => simp [stripOps]
    | succ j => simpa [stripOps] using ih j
theorem sop_strip (ops : Array Oper) (j : Nat) : ((stripOps ops.toList)[j]?).getD ⟨none, .ready 0, none⟩ = sop ops j := by
  rw [strip_get, Array.getElem?_toList]
  unfold sop
  cases ops[j]? <;> rfl
theorem pick_strip (ops : Array Oper) (ord : List Nat) : pickOps (stripOps ops.toList) ord = ord.map (sop ops) :=
  List.map_congr_left fun j _ => sop_strip ops j

section
variable {P : Program} {Γ : Table} {N n0 : Nat} {own : List FuncId} {O : Nat → List Nat}

theorem W_ofX (hm : P.follows .mixedOrders = true) (hΓ : Good P Γ) (K : List Nat) : ∀ {c : Code} {Q : Exit → St → Prop} {s : St}, codeOkX N own O c = true → wpX P Γ own N n0 K (stripX O c) Q s → W P N n0 c Q s := by
  intro c
  induction c with
  | skip => intro Q s _ h; exact W_skip h
  | region id ops draw =>
    intro Q s hok h
    cases draw with
    | false => exact W_region K hΓ hok h
    | true =>
      simp only [codeOkX, Bool.and_eq_true] at hok
      refine W_draw hm hΓ K own (O id) hok.1 hok.2 ?_
      simp only [stripX, wpX, dsts_spec, pick_strip] at h
      exact h
  | seq a b iha ihb =>
    intro Q s hok h
    simp only [codeOkX, Bool.and_eq_true] at hok
    refine W_seq (W_mono (iha hok.1 h) ?_)
    intro e s' hq
    cases e with
    | normal => exact ihb hok.2 hq
    | _ => exact hq
  | cond c a b iha ihb =>
    intro Q s hok h
    simp only [codeOkX, Bool.and_eq_true] at hok
    simp only [stripX, wpX] at h
    split at h
    · rename_i t ht
      refine W_cond (t := t) (fun x φ a w hx hs => ?_) (fun e => iha hok.1 (h.1 e)) (fun e => ihb hok.2 (h.2 e))
      have := ev_spec hs c
      rw [ht] at this
      simpa only [VS, DS] using this
    · exact h.elim
  | block id c ih => intro Q s hok h; exact W_block (ih hok h)
  | loop c ih => intro Q s _ h; exact h
  | exit id => intro Q s _ h; exact W_exit h
  | ret => intro Q s _ h; exact W_ret h
  | _ => intro Q s _ h; exact h
end

/-- A state is brought to its plain form before the walk goes on. -/
def nrm (s : St) (F : St → Prop) : Prop := F s
@[congr] theorem nrm_congr {s s' : St} {F : St → Prop} (h : ∀ _u : Unit, s = s') : nrm s F = nrm s' F := by rw [h ()]
@[simp] theorem nrm_go {s : St} {F : St → Prop} : nrm s F = F s := rfl
theorem opsTL_ex : ∃ f, f = @opsT := ⟨_, rfl⟩
noncomputable def opsTL : Program → Table → List FuncId → List (Option Nat) → List SOp → Env → Heap → (Env → Heap → Prop) → Prop := Classical.choose opsTL_ex
theorem opsTL_eq : opsTL = @opsT := Classical.choose_spec opsTL_ex
theorem wpXL_ex : ∃ f, f = @wpX := ⟨_, rfl⟩
noncomputable def wpXL : Program → Table → List FuncId → Nat → Nat → List Nat → XCode → (Exit → St → Prop) → St → Prop := Classical.choose wpXL_ex
theorem wpXL_eq : wpXL = @wpX := Classical.choose_spec wpXL_ex

section
variable {P : Program} {Γ : Table} {own : List FuncId} {N n0 : Nat} {K : List Nat} {O : Nat → List Nat}
@[simp ↓] theorem opsTL_nil {all : List (Option Nat)} {env : Env} {H : Heap} {k : Env → Heap → Prop} : opsTL P Γ own all [] env H k = k env H := by
  rw [opsTL_eq]; rfl
@[simp ↓] theorem opsTL_plain {all : List (Option Nat)} {dst : Option Nat} {op : Op} {rest : List SOp} {env : Env} {H : Heap} {k : Env → Heap → Prop} :
    opsTL P Γ own all (⟨dst, op, none⟩ :: rest) env H k = opT P Γ own env H op fun v H' => (nrmE (updO env dst v) H' fun e h => opsTL P Γ own all rest e h k) := by
  rw [opsTL_eq]; rfl
@[simp ↓ 100] theorem opsTL_guard {all : List (Option Nat)} {dst : Option Nat} {op : Op} {j : Nat} {want : Bool} {rest : List SOp} {env : Env} {H : Heap} {k : Env → Heap → Prop} :
    opsTL P Γ own all (⟨dst, op, some (j, want)⟩ :: rest) env H k = (match slotOf all j with
      | none => False
      | some t => match env t with
        | .d (.bool b) => (b = want → opT P Γ own env H op fun v H' => (nrmE (updO env dst v) H' fun e h => opsTL P Γ own all rest e h k)) ∧ (b ≠ want → (nrmE (updO env dst (.tup [])) H fun e h => opsTL P Γ own all rest e h k))
        | .tup [] => (nrmE (updO env dst (.tup [])) H fun e h => opsTL P Γ own all rest e h k)
        | _ => False) := by
  rw [opsTL_eq]; rfl
@[simp ↓ 2000] theorem opsTL_on {all : List (Option Nat)} {dst : Option Nat} {op : Op} {j : Nat} {want : Bool} {rest : List SOp} {env : Env} {H : Heap} {k : Env → Heap → Prop} (h : guardV all env j = .d (.bool want)) :
    opsTL P Γ own all (⟨dst, op, some (j, want)⟩ :: rest) env H k = opT P Γ own env H op fun v H' => (nrmE (updO env dst v) H' fun e h => opsTL P Γ own all rest e h k) := by
  rw [opsTL_eq]
  unfold guardV at h
  split at h
  · cases h
  · rename_i t e
    simp only [nrmE, opsT, stepT, e, h, ne_eq, not_true_eq_false, false_implies, and_true, true_implies]
@[simp ↓ 2000] theorem opsTL_off {all : List (Option Nat)} {dst : Option Nat} {op : Op} {j : Nat} {want : Bool} {rest : List SOp} {env : Env} {H : Heap} {k : Env → Heap → Prop} (h : guardV all env j = .d (.bool (!want))) :
    opsTL P Γ own all (⟨dst, op, some (j, want)⟩ :: rest) env H k = (nrmE (updO env dst (.tup [])) H fun e h => opsTL P Γ own all rest e h k) := by
  rw [opsTL_eq]
  unfold guardV at h
  split at h
  · cases h
  · rename_i t e
    cases want
    · simp only [opsT, stepT, e, h, Bool.not_false]
      exact propext ⟨fun q => q.2 (by decide), fun q => ⟨fun e => (by cases e), fun _ => q⟩⟩
    · simp only [opsT, stepT, e, h, Bool.not_true]
      exact propext ⟨fun q => q.2 (by decide), fun q => ⟨fun e => (by cases e), fun _ => q⟩⟩
@[simp ↓ 2000] theorem opsTL_tup {all : List (Option Nat)} {dst : Option Nat} {op : Op} {j : Nat} {want : Bool} {rest : List SOp} {env : Env} {H : Heap} {k : Env → Heap → Prop} (h : guardV all env j = .tup []) :
    opsTL P Γ own all (⟨dst, op, some (j, want)⟩ :: rest) env H k = (nrmE (updO env dst (.tup [])) H fun e h => opsTL P Γ own all rest e h k) := by
  rw [opsTL_eq]
  unfold guardV at h
  split at h
  · cases h
  · rename_i t e
    simp only [nrmE, opsT, stepT, e, h]
@[simp ↓ 2000] theorem wpXL_then {c : Operand} {a b : XCode} {Q : Exit → St → Prop} {s : St} (h : ev s.env c = .d (.bool true)) : wpXL P Γ own N n0 K (.cond c a b) Q s = wpXL P Γ own N n0 K a Q s := by
  rw [wpXL_eq]
  simp only [wpX, h]
  exact propext ⟨fun q => q.1 trivial, fun q => ⟨fun _ => q, fun e => (by cases e)⟩⟩
@[simp ↓ 2000] theorem wpXL_else {c : Operand} {a b : XCode} {Q : Exit → St → Prop} {s : St} (h : ev s.env c = .d (.bool false)) : wpXL P Γ own N n0 K (.cond c a b) Q s = wpXL P Γ own N n0 K b Q s := by
  rw [wpXL_eq]
  simp only [wpX, h]
  exact propext ⟨fun q => q.2 trivial, fun q => ⟨fun e => (by cases e), fun _ => q⟩⟩
@[simp ↓] theorem wpXL_skip {Q : Exit → St → Prop} {s : St} : wpXL P Γ own N n0 K .skip Q s = Q .normal s := by rw [wpXL_eq]; rfl
@[simp ↓] theorem wpXL_ops {l : List SOp} {Q : Exit → St → Prop} {s : St} : wpXL P Γ own N n0 K (.ops l) Q s = opsL P Γ (dstsOf l) l s.env s.H fun env H => nrm ⟨keep K env, H⟩ (Q .normal) := by rw [wpXL_eq, opsL_eq]; rfl
@[simp ↓] theorem wpXL_drawn {all : List (Option Nat)} {l : List SOp} {Q : Exit → St → Prop} {s : St} : wpXL P Γ own N n0 K (.drawn all l) Q s = opsTL P Γ own all l s.env s.H fun env H => nrm ⟨keep K env, H⟩ (Q .normal) := by rw [wpXL_eq, opsTL_eq]; rfl
@[simp ↓] theorem wpXL_seq {a b : XCode} {Q : Exit → St → Prop} {s : St} : wpXL P Γ own N n0 K (.seq a b) Q s = wpXL P Γ own N n0 K a (seqQ (wpXL P Γ own N n0 K b Q) Q) s := by rw [wpXL_eq]; rfl
@[simp ↓ 100] theorem wpXL_cond {c : Operand} {a b : XCode} {Q : Exit → St → Prop} {s : St} : wpXL P Γ own N n0 K (.cond c a b) Q s = (match ev s.env c with
    | .d (.bool t) => (t = true → wpXL P Γ own N n0 K a Q s) ∧ (t = false → wpXL P Γ own N n0 K b Q s)
    | _ => False) := by rw [wpXL_eq]; rfl
@[simp ↓] theorem wpXL_block {id : Nat} {c : XCode} {Q : Exit → St → Prop} {s : St} : wpXL P Γ own N n0 K (.block id c) Q s = wpXL P Γ own N n0 K c (blockQ id Q) s := by rw [wpXL_eq]; rfl
@[simp ↓] theorem wpXL_loop {c : Code} {Q : Exit → St → Prop} {s : St} : wpXL P Γ own N n0 K (.loop c) Q s = W P N n0 (.loop c) Q s := by rw [wpXL_eq]; rfl
@[simp ↓] theorem wpXL_exit {id : Nat} {Q : Exit → St → Prop} {s : St} : wpXL P Γ own N n0 K (.exit id) Q s = Q (.exit id) s := by rw [wpXL_eq]; rfl
@[simp ↓] theorem wpXL_ret {Q : Exit → St → Prop} {s : St} : wpXL P Γ own N n0 K .ret Q s = Q .ret s := by rw [wpXL_eq]; rfl
@[simp ↓] theorem wpXL_other {c : Code} {Q : Exit → St → Prop} {s : St} : wpXL P Γ own N n0 K (.other c) Q s = W P N n0 c Q s := by rw [wpXL_eq]; rfl

theorem W_walkX (hm : P.follows .mixedOrders = true) (hΓ : Good P Γ) (K : List Nat) (own : List FuncId) (O : Nat → List Nat) {c : Code} {Q : Exit → St → Prop} {s : St} (hc : codeOkX N own O c = true) (h : wpXL P Γ own N n0 K (stripX O c) Q s) : W P N n0 c Q s :=
  W_ofX hm hΓ K hc (by rw [← wpXL_eq]; exact h)
end
attribute [simp] opT binT callT goT ownCallee

end Go.Proofs.Ytpakdkiceoknjaa
