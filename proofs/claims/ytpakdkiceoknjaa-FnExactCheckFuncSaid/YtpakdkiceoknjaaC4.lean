/- The abstract machine, part 24: the walk over a stack of code: what is left, step by step; its recursion under lock. No condition. -/
import Derived.Test.YtpakdkiceoknjaaC3
namespace Go.Proofs.Ytpakdkiceoknjaa
set_option linter.unusedVariables false
set_option linter.unusedSimpArgs false

theorem R.mono {P : Program} {k k' : V → Heap → Prop} (hk : ∀ v h, k v h → k' v h) : ∀ (r : R), r.holds P k → r.holds P k'
  | .ok v H, h => hk v H h
  | .both a b, h => ⟨R.mono hk a h.1, R.mono hk b h.2⟩
  | .call g vs H, h => CallsD.mono h hk
  | .bad, h => h

inductive Fm where
  | code (c : XCode)
  | ops (dr : Bool) (all : List (Option Nat)) (l : List SOp)
  | blk (id : Nat)

section
variable {P : Program} (C : Cfg P)
noncomputable def opsR (dr : Bool) (all : List (Option Nat)) : List SOp → Env → Heap → (Env → Heap → Prop) → Prop
  | [], env, H, k => k env H
  | o :: rest, env, H, k => match o.guard with
    | none => (opR C dr env H o.op).holds P fun v H' => opsR dr all rest (updO env o.dst v) H' k
    | some (j, want) => match slotOf all j with
      | none => False
      | some t => match env t with
        | .d (.bool b) => (b = want → (opR C dr env H o.op).holds P fun v H' => opsR dr all rest (updO env o.dst v) H' k) ∧ (b ≠ want → opsR dr all rest (updO env o.dst (.tup [])) H k)
        | .tup [] => opsR dr all rest (updO env o.dst (.tup [])) H k
        | _ => False
noncomputable def wpR : XCode → (Exit → St → Prop) → St → Prop
  | .skip, Q, s => Q .normal s
  | .ops l, Q, s => opsR C false (dstsOf l) l s.env s.H fun env H => Q .normal ⟨keep C.K env, H⟩
  | .drawn all l, Q, s => opsR C true all l s.env s.H fun env H => Q .normal ⟨keep C.K env, H⟩
  | .seq a b, Q, s => wpR a (seqQ (wpR b Q) Q) s
  | .cond c a b, Q, s => (match ev s.env c with
    | .d (.bool t) => (t = true → wpR a Q s) ∧ (t = false → wpR b Q s)
    | _ => False)
  | .block id c, Q, s => wpR c (blockQ id Q) s
  | .loop c, Q, s => W P C.N C.n0 (.loop c) Q s
  | .exit id, Q, s => Q (.exit id) s
  | .ret, Q, s => Q .ret s
  | .other c, Q, s => W P C.N C.n0 c Q s
noncomputable def denX : List Fm → (Exit → St → Prop) → Exit → St → Prop
  | [], Q => Q
  | .code c :: stk, Q => fun e s => match e with | .normal => wpR C c (denX stk Q) s | e => denX stk Q e s
  | .ops dr all l :: stk, Q => fun e s => match e with | .normal => opsR C dr all l s.env s.H (fun env H => denX stk Q .normal ⟨keep C.K env, H⟩) | e => denX stk Q e s
  | .blk id :: stk, Q => blockQ id (denX stk Q)
variable {C}
theorem opsR_D {all : List (Option Nat)} {k k' : Env → Heap → Prop} (hk : ∀ e h, k e h → k' e h) : ∀ (l : List SOp) (env : Env) (H : Heap), opsR C false all l env H k → opsD P (tabG C.l) all l env H k'
  | [], env, H, h => hk _ _ h
  | o :: l, env, H, h => by
    simp only [opsR] at h
    simp only [opsD]
    split at h
    · rename_i e
      simp only [e]
      exact opR_ok (dr := false) (R.mono (fun v H' q => opsR_D hk l _ _ q) _ h)
    · rename_i e
      simp only [e]
      split at h
      · exact h.elim
      · rename_i e2
        simp only [e2]
        split at h
        · rename_i e3
          simp only [e3]
          exact ⟨fun q => opR_ok (dr := false) (R.mono (fun v H' q => opsR_D hk l _ _ q) _ (h.1 q)), fun q => opsR_D hk l _ _ (h.2 q)⟩
        · rename_i e3
          simp only [e3]
          exact opsR_D hk l _ _ h
        · exact h.elim
theorem opsR_T {all : List (Option Nat)} {k k' : Env → Heap → Prop} (hk : ∀ e h, k e h → k' e h) : ∀ (l : List SOp) (env : Env) (H : Heap), opsR C true all l env H k → opsT P (tabG C.l) C.own all l env H k'
  | [], env, H, h => hk _ _ h
  | o :: l, env, H, h => by
    simp only [opsR] at h
    simp only [opsT, stepT]
    split at h
    · rename_i e
      simp only [e]
      exact opR_ok (dr := true) (R.mono (fun v H' q => opsR_T hk l _ _ q) _ h)
    · rename_i e
      simp only [e]
      split at h
      · exact h.elim
      · rename_i e2
        simp only [e2]
        split at h
        · rename_i e3
          simp only [e3]
          exact ⟨fun q => opR_ok (dr := true) (R.mono (fun v H' q => opsR_T hk l _ _ q) _ (h.1 q)), fun q => opsR_T hk l _ _ (h.2 q)⟩
        · rename_i e3
          simp only [e3]
          exact opsR_T hk l _ _ h
        · exact h.elim
theorem wpR_X : ∀ (c : XCode) {Q Q' : Exit → St → Prop} (hq : ∀ e s, Q e s → Q' e s) (s : St), wpR C c Q s → wpX P (tabG C.l) C.own C.N C.n0 C.K c Q' s := by
  intro c
  induction c with
  | skip => intro Q Q' hq s h; exact hq _ _ h
  | ops l => intro Q Q' hq s h; exact opsR_D (fun e H q => hq _ _ q) l _ _ h
  | drawn all l => intro Q Q' hq s h; exact opsR_T (fun e H q => hq _ _ q) l _ _ h
  | seq a b iha ihb =>
    intro Q Q' hq s h
    refine iha (fun e s q => ?_) s h
    cases e with
    | normal => exact ihb hq s q
    | _ => exact hq _ _ q
  | cond c a b iha ihb =>
    intro Q Q' hq s h
    simp only [wpR] at h
    simp only [wpX]
    split at h
    · rename_i e; simp only [e]; exact ⟨fun q => iha hq s (h.1 q), fun q => ihb hq s (h.2 q)⟩
    · exact h.elim
  | block id c ih =>
    intro Q Q' hq s h
    refine ih (fun e s q => ?_) s h
    cases e with
    | exit id' =>
      simp only [blockQ] at q ⊢
      split at q
      · rename_i e1; rw [if_pos e1]; exact hq _ _ q
      · rename_i e1; rw [if_neg e1]; exact hq _ _ q
    | _ => exact hq _ _ q
  | loop c => intro Q Q' hq s h; exact W_mono h hq
  | exit id => intro Q Q' hq s h; exact hq _ _ h
  | ret => intro Q Q' hq s h; exact hq _ _ h
  | other c => intro Q Q' hq s h; exact W_mono h hq
end

theorem den_ex : ∃ f : (P : Program) → Cfg P → List Fm → (Exit → St → Prop) → Exit → St → Prop, f = fun P => @denX P := ⟨_, rfl⟩
noncomputable def den {P : Program} : Cfg P → List Fm → (Exit → St → Prop) → Exit → St → Prop := Classical.choose den_ex P
theorem den_eq {P : Program} : @den P = @denX P := congrFun (Classical.choose_spec den_ex) P

section
variable {P : Program} {C : Cfg P}
theorem W_run (hm : P.follows .mixedOrders = true) (C : Cfg P) (O : Nat → List Nat) {c : Code} {Q : Exit → St → Prop} {s : St} (hc : codeOkX C.N C.own O c = true) (h : den C [.code (stripX O c)] Q .normal s) : W P C.N C.n0 c Q s := by
  rw [den_eq] at h
  exact W_ofX hm (tabG_good C.l) C.K hc (wpR_X _ (fun _ _ q => q) _ h)

variable (C)
/-- What follows behind an operation. -/
noncomputable def aft (r : R) (dst : Option Nat) (dr : Bool) (all : List (Option Nat)) (l : List SOp) (stk : List Fm) (Q : Exit → St → Prop) (env : Env) : Prop :=
  r.holds P fun v H' => den C (.ops dr all l :: stk) Q .normal ⟨updO env dst v, H'⟩
noncomputable def put (v : V) (dst : Option Nat) (dr : Bool) (all : List (Option Nat)) (l : List SOp) (stk : List Fm) (Q : Exit → St → Prop) (env : Env) (H : Heap) : Prop :=
  den C (.ops dr all l :: stk) Q .normal ⟨updO env dst v, H⟩
noncomputable def spl (z : Bool) (p : Prop) (b : Bool) (t : Nat) (dr : Bool) (all : List (Option Nat)) (l : List SOp) (stk : List Fm) (Q : Exit → St → Prop) (env : Env) (H : Heap) : Prop :=
  bif z then (p → den C (.ops dr all l :: stk) Q .normal ⟨upd env t (.d (.bool true)), H⟩) ∧ (¬ p → den C (.ops dr all l :: stk) Q .normal ⟨upd env t (.d (.bool false)), H⟩)
  else den C (.ops dr all l :: stk) Q .normal ⟨upd env t (.d (.bool b)), H⟩
noncomputable def grd (v : V) (want : Bool) (op : Op) (dst : Option Nat) (dr : Bool) (all : List (Option Nat)) (l : List SOp) (stk : List Fm) (Q : Exit → St → Prop) (env : Env) (H : Heap) : Prop :=
  match v with
  | .d (.bool b) => (b = want → aft C (opR C dr env H op) dst dr all l stk Q env) ∧ (b ≠ want → den C (.ops dr all l :: stk) Q .normal ⟨updO env dst (.tup []), H⟩)
  | .tup [] => den C (.ops dr all l :: stk) Q .normal ⟨updO env dst (.tup []), H⟩
  | _ => False
noncomputable def cnd (v : V) (a b : XCode) (stk : List Fm) (Q : Exit → St → Prop) (s : St) : Prop :=
  match v with
  | .d (.bool t) => (t = true → den C (.code a :: stk) Q .normal s) ∧ (t = false → den C (.code b :: stk) Q .normal s)
  | _ => False
variable {C} {stk : List Fm} {Q : Exit → St → Prop} {e : Exit} {s : St} {env : Env} {H : Heap} {dr : Bool} {all : List (Option Nat)} {l : List SOp} {dst : Option Nat}

theorem den_nil : den C [] Q e s = Q e s := by rw [den_eq]; rfl
theorem den_skip : den C (.code .skip :: stk) Q .normal s = den C stk Q .normal s := by rw [den_eq]; rfl
theorem den_code_ops : den C (.code (.ops l) :: stk) Q .normal s = den C (.ops false (dstsOf l) l :: stk) Q .normal s := by rw [den_eq]; rfl
theorem den_code_drawn : den C (.code (.drawn all l) :: stk) Q .normal s = den C (.ops true all l :: stk) Q .normal s := by rw [den_eq]; rfl
theorem den_seq {a b : XCode} : den C (.code (.seq a b) :: stk) Q .normal s = den C (.code a :: .code b :: stk) Q .normal s := by
  rw [den_eq]
  show wpR C a (seqQ (wpR C b (denX C stk Q)) (denX C stk Q)) s = wpR C a (denX C (.code b :: stk) Q) s
  congr 1
  funext e s
  cases e <;> rfl
theorem den_cond {c : Operand} {a b : XCode} : den C (.code (.cond c a b) :: stk) Q .normal s = cnd C (ev s.env c) a b stk Q s := by
  unfold cnd
  rw [den_eq]
  rfl
theorem den_block {id : Nat} {c : XCode} : den C (.code (.block id c) :: stk) Q .normal s = den C (.code c :: .blk id :: stk) Q .normal s := by rw [den_eq]; rfl
theorem den_loop {c : Code} : den C (.code (.loop c) :: stk) Q .normal s = W P C.N C.n0 (.loop c) (den C stk Q) s := by rw [den_eq]; rfl
theorem den_exit {id : Nat} : den C (.code (.exit id) :: stk) Q .normal s = den C stk Q (.exit id) s := by rw [den_eq]; rfl
theorem den_ret : den C (.code .ret :: stk) Q .normal s = den C stk Q .ret s := by rw [den_eq]; rfl
theorem den_other {c : Code} : den C (.code (.other c) :: stk) Q .normal s = W P C.N C.n0 c (den C stk Q) s := by rw [den_eq]; rfl
theorem den_code_exit {c : XCode} {id : Nat} : den C (.code c :: stk) Q (.exit id) s = den C stk Q (.exit id) s := by rw [den_eq]; rfl
theorem den_code_ret {c : XCode} : den C (.code c :: stk) Q .ret s = den C stk Q .ret s := by rw [den_eq]; rfl
theorem den_blk {id : Nat} : den C (.blk id :: stk) Q .normal s = den C stk Q .normal s := by rw [den_eq]; rfl
theorem den_blk_ret {id : Nat} : den C (.blk id :: stk) Q .ret s = den C stk Q .ret s := by rw [den_eq]; rfl
theorem den_blk_exit {id id' : Nat} : den C (.blk id :: stk) Q (.exit id') s = if id' = id then den C stk Q .normal s else den C stk Q (.exit id') s := by rw [den_eq]; rfl
theorem den_ops_nil : den C (.ops dr all [] :: stk) Q .normal ⟨env, H⟩ = den C stk Q .normal ⟨keep C.K env, H⟩ := by rw [den_eq]; rfl
theorem den_ops {op : Op} : den C (.ops dr all (⟨dst, op, none⟩ :: l) :: stk) Q .normal ⟨env, H⟩ = aft C (opR C dr env H op) dst dr all l stk Q env := by
  unfold aft
  rw [den_eq]
  rfl
theorem den_ops_guard {op : Op} {j : Nat} {want : Bool} : den C (.ops dr all (⟨dst, op, some (j, want)⟩ :: l) :: stk) Q .normal ⟨env, H⟩ = grd C (guardV all env j) want op dst dr all l stk Q env H := by
  unfold grd aft guardV
  rw [den_eq]
  show (match slotOf all j with | none => False | some t => _) = _
  cases slotOf all j with
  | none => rfl
  | some t => rfl
theorem aft_ok {v : V} : aft C (.ok v H) dst dr all l stk Q env = put C v dst dr all l stk Q env H := by unfold aft put; rw [R.holds]
theorem aft_guard {p : Prop} {r : R} : aft C (guardR p r) dst dr all l stk Q env = (p ∧ aft C r dst dr all l stk Q env) := by unfold aft; rw [guardR_holds]
theorem aft_br {p : Prop} {a b : R} : aft C (brR p a b) dst dr all l stk Q env = ((p → aft C a dst dr all l stk Q env) ∧ (¬ p → aft C b dst dr all l stk Q env)) := by unfold aft; rw [brR_holds]
theorem aft_both {a b : R} : aft C (.both a b) dst dr all l stk Q env = (aft C a dst dr all l stk Q env ∧ aft C b dst dr all l stk Q env) := by unfold aft; rw [R.holds]
theorem aft_call {g : FuncId} {vs : List V} : aft C (.call g vs H) dst dr all l stk Q env = CallsD P g vs H (fun v H' => den C (.ops dr all l :: stk) Q .normal ⟨updO env dst v, H'⟩) := by unfold aft; rw [R.holds]
theorem aft_bad : aft C .bad dst dr all l stk Q env = False := by unfold aft; rw [R.holds]
theorem put_any {v : V} : put C v dst dr all l stk Q env H = den C (.ops dr all l :: stk) Q .normal ⟨updO env dst v, H⟩ := by rw [put]
theorem put_bool {b : Bool} {t : Nat} : put C (.d (.bool b)) (some t) dr all l stk Q env H = spl C (C.S.contains t) (b = true) b t dr all l stk Q env H := by
  unfold put spl
  cases C.S.contains t with
  | false => rfl
  | true =>
    simp only [cond_true, updO]
    cases b
    · exact propext ⟨fun h => ⟨fun q => (by cases q), fun _ => h⟩, fun h => h.2 (by decide)⟩
    · exact propext ⟨fun h => ⟨fun _ => h, fun q => absurd rfl q⟩, fun h => h.1 rfl⟩
theorem put_true {t : Nat} : put C (.d (.bool true)) (some t) dr all l stk Q env H = den C (.ops dr all l :: stk) Q .normal ⟨upd env t (.d (.bool true)), H⟩ := by rw [put, updO]
theorem put_false {t : Nat} : put C (.d (.bool false)) (some t) dr all l stk Q env H = den C (.ops dr all l :: stk) Q .normal ⟨upd env t (.d (.bool false)), H⟩ := by rw [put, updO]
theorem spl_yes {b : Bool} {t : Nat} : spl C true True b t dr all l stk Q env H = den C (.ops dr all l :: stk) Q .normal ⟨upd env t (.d (.bool true)), H⟩ := by simp [spl]
theorem spl_no {b : Bool} {t : Nat} : spl C true False b t dr all l stk Q env H = den C (.ops dr all l :: stk) Q .normal ⟨upd env t (.d (.bool false)), H⟩ := by simp [spl]
theorem spl_open {p : Prop} {b : Bool} {t : Nat} : spl C true p b t dr all l stk Q env H = ((p → den C (.ops dr all l :: stk) Q .normal ⟨upd env t (.d (.bool true)), H⟩) ∧ (¬ p → den C (.ops dr all l :: stk) Q .normal ⟨upd env t (.d (.bool false)), H⟩)) := by unfold spl; rw [cond_true]
theorem spl_not {p : Prop} {b : Bool} {t : Nat} : spl C false p b t dr all l stk Q env H = den C (.ops dr all l :: stk) Q .normal ⟨upd env t (.d (.bool b)), H⟩ := by unfold spl; rw [cond_false]
theorem grd_tt {op : Op} : grd C (.d (.bool true)) true op dst dr all l stk Q env H = aft C (opR C dr env H op) dst dr all l stk Q env := by simp [grd]
theorem grd_ff {op : Op} : grd C (.d (.bool false)) false op dst dr all l stk Q env H = aft C (opR C dr env H op) dst dr all l stk Q env := by simp [grd]
theorem grd_tf {op : Op} : grd C (.d (.bool true)) false op dst dr all l stk Q env H = den C (.ops dr all l :: stk) Q .normal ⟨updO env dst (.tup []), H⟩ := by simp [grd]
theorem grd_ft {op : Op} : grd C (.d (.bool false)) true op dst dr all l stk Q env H = den C (.ops dr all l :: stk) Q .normal ⟨updO env dst (.tup []), H⟩ := by simp [grd]
theorem grd_tup {op : Op} {want : Bool} : grd C (.tup []) want op dst dr all l stk Q env H = den C (.ops dr all l :: stk) Q .normal ⟨updO env dst (.tup []), H⟩ := by rw [grd]
theorem grd_open {op : Op} {b want : Bool} : grd C (.d (.bool b)) want op dst dr all l stk Q env H = ((b = want → aft C (opR C dr env H op) dst dr all l stk Q env) ∧ (b ≠ want → den C (.ops dr all l :: stk) Q .normal ⟨updO env dst (.tup []), H⟩)) := by rw [grd]
theorem cnd_t {a b : XCode} : cnd C (.d (.bool true)) a b stk Q s = den C (.code a :: stk) Q .normal s := by simp [cnd]
theorem cnd_f {a b : XCode} : cnd C (.d (.bool false)) a b stk Q s = den C (.code b :: stk) Q .normal s := by simp [cnd]
theorem cnd_open {a b : XCode} {t : Bool} : cnd C (.d (.bool t)) a b stk Q s = ((t = true → den C (.code a :: stk) Q .normal s) ∧ (t = false → den C (.code b :: stk) Q .normal s)) := by rw [cnd]
end
theorem elR_go {es : List (List V)} {i e e' j size : Nat} {agg : Bool} {H : Heap} : elR es i e e' j size agg H = guardR (i < es.length ∧ e' = e ∧ j + size ≤ e ∧ (agg = true ∨ size = 1)) (.ok (asVal agg (((es[i]?.getD []).drop j).take size)) H) := by rw [elR]
theorem setR_go {es : List (List V)} {id i e e' j size : Nat} {l : List V} {H : Heap} : setR es id i e e' j size l H = guardR (i < es.length ∧ e' = e ∧ l.length = size ∧ j + size ≤ e ∧ ones l = true) (.ok (.tup []) (H.set id (.row e (es.set i (setMany (es[i]?.getD []) j l))))) := by rw [setR]
attribute [simp 200] elR_go setR_go
attribute [simp] den_nil den_skip den_code_ops den_code_drawn den_seq den_cond den_block den_loop den_exit den_ret den_other den_code_exit den_code_ret den_blk den_blk_ret den_blk_exit den_ops_nil den_ops den_ops_guard
  aft_ok aft_guard aft_br aft_both aft_bad put_true put_false spl_yes spl_no spl_not grd_tt grd_ff grd_tf grd_ft grd_tup cnd_t cnd_f brR_true brR_false guardR_true guardR_false
attribute [simp 900] put_bool spl_open grd_open cnd_open
attribute [simp 500] put_any
attribute [simp] opR loadR storeR boxR allocR buildR buildSliceR makeSliceR nilCheckR optR binR unR convertR pickR fieldAddrR fieldR indexAddrR indexR extractR boundR cutR sliceR lenR elemsR putOnR appendR copyOnR copyR ansR ansT goR callR growR growCallee ownCallee tab tabH tabK
end Go.Proofs.Ytpakdkiceoknjaa
