/- The abstract machine: parts C4 C5 C6 C7 C8 C9 D0 D1 in one text. No condition. -/
import Derived.LoopN
import Derived.Test.YtcgekblpbheikaaGreatDoorQE3
section
/- The abstract machine,part 24: the walk over a stack of code: what is left,step by step;its recursion under lock. No condition. -/
namespace Go.Proofs.YtcgekblpbheikaaGreatDoor
set_option linter.unusedVariables false
set_option linter.unusedSimpArgs false

theorem R.mono {P:Program} {k k':V→Heap→Prop} (hk:∀ v h,k v h→k' v h):∀ (r:R),r.holds P k→r.holds P k'
  | .ok v H,h=>hk v H h
  | .both a b,h=>⟨R.mono hk a h.1,R.mono hk b h.2⟩
  | .call g vs H,h=>CallsD.mono h hk
  | .bad,h=>h

inductive Fm where
  | code (c:XCode)
  | ops (dr:Bool) (all:List (Option Nat)) (l:List SOp)
  | blk (id:Nat)

section
variable {P:Program} (C:Cfg P)
noncomputable def opsR (dr:Bool) (all:List (Option Nat)):List SOp→Env→Heap→(Env→Heap→Prop)→Prop
  | [],env,H,k=>k env H
  | o :: rest, env, H, k => match o.guard with
    | none=>(opR C dr env H o.op).holds P fun v H'=>opsR dr all rest (updO env o.dst v) H' k
    | some (j,want)=>match slotOf all j with
      | none=>False
      | some t=>match env t with
        | .d (.bool b)=>(b=want→(opR C dr env H o.op).holds P fun v H'=>opsR dr all rest (updO env o.dst v) H' k)∧(b ≠ want→opsR dr all rest (updO env o.dst (.tup [])) H k)
        | .tup []=>opsR dr all rest (updO env o.dst (.tup [])) H k
        | _=>False
noncomputable def wpR:XCode→(Exit→St→Prop)→St→Prop
  | .skip,Q,s=>Q .normal s
  | .ops l,Q,s=>opsR C false (dstsOf l) l s.env s.H fun env H=>Q .normal ⟨keep C.K env,H⟩
  | .drawn all l,Q,s=>opsR C true all l s.env s.H fun env H=>Q .normal ⟨keep C.K env,H⟩
  | .seq a b,Q,s=>wpR a (seqQ (wpR b Q) Q) s
  | .cond c a b,Q,s=>(match ev s.env c with
    | .d (.bool t)=>(t=true→wpR a Q s)∧(t=false→wpR b Q s)
    | _=>False)
  | .block id c,Q,s=>wpR c (blockQ id Q) s
  | .loop c,Q,s=>W P C.N C.n0 (.loop c) Q s
  | .exit id,Q,s=>Q (.exit id) s
  | .ret,Q,s=>Q .ret s
  | .other c,Q,s=>W P C.N C.n0 c Q s
noncomputable def denX:List Fm→(Exit→St→Prop)→Exit→St→Prop
  | [],Q=>Q
  | .code c :: stk,Q=>fun e s=>match e with | .normal=>wpR C c (denX stk Q) s | e=>denX stk Q e s
  | .ops dr all l :: stk,Q=>fun e s=>match e with | .normal=>opsR C dr all l s.env s.H (fun env H=>denX stk Q .normal ⟨keep C.K env,H⟩) | e=>denX stk Q e s
  | .blk id :: stk,Q=>blockQ id (denX stk Q)
variable {C}
theorem opsR_D {all : List (Option Nat)} {k k' : Env → Heap → Prop} (hk : ∀ e h, k e h → k' e h) : ∀ (l : List SOp) (env : Env) (H : Heap), opsR C false all l env H k → opsD P (tabG C.l) all l env H k'
  | [],env,H,h=>hk _ _ h
  | o :: l, env, H, h => by
    simp only [opsR] at h
    simp only [opsD]
    split at h
    · rename_i e
      simp only [e]
      exact opR_ok (dr:=false) (R.mono (fun v H' q=>opsR_D hk l _ _ q) _ h)
    · rename_i e
      simp only [e]
      split at h
      · exact h.elim
      · rename_i e2
        simp only [e2]
        split at h
        · rename_i e3
          simp only [e3]
          exact ⟨fun q=>opR_ok (dr:=false) (R.mono (fun v H' q=>opsR_D hk l _ _ q) _ (h.1 q)),fun q=>opsR_D hk l _ _ (h.2 q)⟩
        · rename_i e3
          simp only [e3]
          exact opsR_D hk l _ _ h
        · exact h.elim
theorem opsR_T {all : List (Option Nat)} {k k' : Env → Heap → Prop} (hk : ∀ e h, k e h → k' e h) : ∀ (l : List SOp) (env : Env) (H : Heap), opsR C true all l env H k → opsT P (tabG C.l) C.own all l env H k'
  | [],env,H,h=>hk _ _ h
  | o :: l, env, H, h => by
    simp only [opsR] at h
    simp only [opsT,stepT]
    split at h
    · rename_i e
      simp only [e]
      exact opR_ok (dr:=true) (R.mono (fun v H' q=>opsR_T hk l _ _ q) _ h)
    · rename_i e
      simp only [e]
      split at h
      · exact h.elim
      · rename_i e2
        simp only [e2]
        split at h
        · rename_i e3
          simp only [e3]
          exact ⟨fun q=>opR_ok (dr:=true) (R.mono (fun v H' q=>opsR_T hk l _ _ q) _ (h.1 q)),fun q=>opsR_T hk l _ _ (h.2 q)⟩
        · rename_i e3
          simp only [e3]
          exact opsR_T hk l _ _ h
        · exact h.elim
theorem wpR_X:∀ (c:XCode) {Q Q':Exit→St→Prop} (hq:∀ e s,Q e s→Q' e s) (s:St),wpR C c Q s→wpX P (tabG C.l) C.own C.N C.n0 C.K c Q' s:=by
  intro c
  induction c with
  | skip=>intro Q Q' hq s h;exact hq _ _ h
  | ops l=>intro Q Q' hq s h;exact opsR_D (fun e H q=>hq _ _ q) l _ _ h
  | drawn all l=>intro Q Q' hq s h;exact opsR_T (fun e H q=>hq _ _ q) l _ _ h
  | seq a b iha ihb =>
    intro Q Q' hq s h
    refine iha (fun e s q=>?_) s h
    cases e with
    | normal=>exact ihb hq s q
    | _=>exact hq _ _ q
  | cond c a b iha ihb =>
    intro Q Q' hq s h
    simp only [wpR] at h
    simp only [wpX]
    split at h
    · rename_i e;simp only [e];exact ⟨fun q=>iha hq s (h.1 q),fun q=>ihb hq s (h.2 q)⟩
    · exact h.elim
  | block id c ih =>
    intro Q Q' hq s h
    refine ih (fun e s q=>?_) s h
    cases e with
    | exit id' =>
      simp only [blockQ] at q ⊢
      split at q
      · rename_i e1;rw [if_pos e1];exact hq _ _ q
      · rename_i e1;rw [if_neg e1];exact hq _ _ q
    | _=>exact hq _ _ q
  | loop c=>intro Q Q' hq s h;exact W_mono h hq
  | exit id=>intro Q Q' hq s h;exact hq _ _ h
  | ret=>intro Q Q' hq s h;exact hq _ _ h
  | other c=>intro Q Q' hq s h;exact W_mono h hq
end

theorem den_ex:∃ f:(P:Program)→Cfg P→List Fm→(Exit→St→Prop)→Exit→St→Prop,f=fun P=>@denX P:=⟨_,rfl⟩
noncomputable def den {P:Program}:Cfg P→List Fm→(Exit→St→Prop)→Exit→St→Prop:=Classical.choose den_ex P
theorem den_eq {P:Program}:@den P = @denX P:=congrFun (Classical.choose_spec den_ex) P

section
variable {P:Program} {C:Cfg P}
theorem W_run (hm:P.follows .mixedOrders=true) (C:Cfg P) (O:Nat→List Nat) {c:Code} {Q:Exit→St→Prop} {s:St} (hc:codeOkX C.N C.own O c=true) (h:den C [.code (stripX O c)] Q .normal s):W P C.N C.n0 c Q s:=by
  rw [den_eq] at h
  exact W_ofX hm (tabG_good C.l) C.K hc (wpR_X _ (fun _ _ q=>q) _ h)

variable (C)
noncomputable def aft (r:R) (dst:Option Nat) (dr:Bool) (all:List (Option Nat)) (l:List SOp) (stk:List Fm) (Q:Exit→St→Prop) (env:Env):Prop :=
  r.holds P fun v H'=>den C (.ops dr all l :: stk) Q .normal ⟨updO env dst v,H'⟩
noncomputable def put (v:V) (dst:Option Nat) (dr:Bool) (all:List (Option Nat)) (l:List SOp) (stk:List Fm) (Q:Exit→St→Prop) (env:Env) (H:Heap):Prop :=
  den C (.ops dr all l :: stk) Q .normal ⟨updO env dst v,H⟩
noncomputable def spl (z:Bool) (p:Prop) (b:Bool) (t:Nat) (dr:Bool) (all:List (Option Nat)) (l:List SOp) (stk:List Fm) (Q:Exit→St→Prop) (env:Env) (H:Heap):Prop :=
  bif z then (p→den C (.ops dr all l :: stk) Q .normal ⟨upd env t (.d (.bool true)),H⟩)∧(¬ p→den C (.ops dr all l :: stk) Q .normal ⟨upd env t (.d (.bool false)),H⟩)
  else den C (.ops dr all l :: stk) Q .normal ⟨upd env t (.d (.bool b)),H⟩
noncomputable def grd (v:V) (want:Bool) (op:Op) (dst:Option Nat) (dr:Bool) (all:List (Option Nat)) (l:List SOp) (stk:List Fm) (Q:Exit→St→Prop) (env:Env) (H:Heap):Prop :=
  match v with
  | .d (.bool b)=>(b=want→aft C (opR C dr env H op) dst dr all l stk Q env)∧(b ≠ want→den C (.ops dr all l :: stk) Q .normal ⟨updO env dst (.tup []),H⟩)
  | .tup []=>den C (.ops dr all l :: stk) Q .normal ⟨updO env dst (.tup []),H⟩
  | _=>False
noncomputable def cnd (v:V) (a b:XCode) (stk:List Fm) (Q:Exit→St→Prop) (s:St):Prop :=
  match v with
  | .d (.bool t)=>(t=true→den C (.code a :: stk) Q .normal s)∧(t=false→den C (.code b :: stk) Q .normal s)
  | _=>False
variable {C} {stk:List Fm} {Q:Exit→St→Prop} {e:Exit} {s:St} {env:Env} {H:Heap} {dr:Bool} {all:List (Option Nat)} {l:List SOp} {dst:Option Nat}

theorem den_nil:den C [] Q e s=Q e s:=by rw [den_eq];rfl
theorem den_skip:den C (.code .skip :: stk) Q .normal s=den C stk Q .normal s:=by rw [den_eq];rfl
theorem den_code_ops:den C (.code (.ops l) :: stk) Q .normal s=den C (.ops false (dstsOf l) l :: stk) Q .normal s:=by rw [den_eq];rfl
theorem den_code_drawn:den C (.code (.drawn all l) :: stk) Q .normal s=den C (.ops true all l :: stk) Q .normal s:=by rw [den_eq];rfl
theorem den_seq {a b:XCode}:den C (.code (.seq a b) :: stk) Q .normal s=den C (.code a :: .code b :: stk) Q .normal s:=by
  rw [den_eq]
  show wpR C a (seqQ (wpR C b (denX C stk Q)) (denX C stk Q)) s=wpR C a (denX C (.code b :: stk) Q) s
  congr 1
  funext e s
  cases e <;> rfl
theorem den_cond {c:Operand} {a b:XCode}:den C (.code (.cond c a b) :: stk) Q .normal s=cnd C (ev s.env c) a b stk Q s:=by
  unfold cnd
  rw [den_eq]
  rfl
theorem den_block {id:Nat} {c:XCode}:den C (.code (.block id c) :: stk) Q .normal s=den C (.code c :: .blk id :: stk) Q .normal s:=by rw [den_eq];rfl
theorem den_loop {c:Code}:den C (.code (.loop c) :: stk) Q .normal s=W P C.N C.n0 (.loop c) (den C stk Q) s:=by rw [den_eq];rfl
theorem den_exit {id:Nat}:den C (.code (.exit id) :: stk) Q .normal s=den C stk Q (.exit id) s:=by rw [den_eq];rfl
theorem den_ret:den C (.code .ret :: stk) Q .normal s=den C stk Q .ret s:=by rw [den_eq];rfl
theorem den_other {c:Code}:den C (.code (.other c) :: stk) Q .normal s=W P C.N C.n0 c (den C stk Q) s:=by rw [den_eq];rfl
theorem den_code_exit {c:XCode} {id:Nat}:den C (.code c :: stk) Q (.exit id) s=den C stk Q (.exit id) s:=by rw [den_eq];rfl
theorem den_code_ret {c:XCode}:den C (.code c :: stk) Q .ret s=den C stk Q .ret s:=by rw [den_eq];rfl
theorem den_blk {id:Nat}:den C (.blk id :: stk) Q .normal s=den C stk Q .normal s:=by rw [den_eq];rfl
theorem den_blk_ret {id:Nat}:den C (.blk id :: stk) Q .ret s=den C stk Q .ret s:=by rw [den_eq];rfl
theorem den_blk_exit {id id':Nat}:den C (.blk id :: stk) Q (.exit id') s=if id'=id then den C stk Q .normal s else den C stk Q (.exit id') s:=by rw [den_eq];rfl
theorem den_ops_nil:den C (.ops dr all [] :: stk) Q .normal ⟨env,H⟩=den C stk Q .normal ⟨keep C.K env,H⟩:=by rw [den_eq];rfl
theorem den_ops {op:Op}:den C (.ops dr all (⟨dst,op,none⟩ :: l) :: stk) Q .normal ⟨env,H⟩=aft C (opR C dr env H op) dst dr all l stk Q env:=by
  unfold aft
  rw [den_eq]
  rfl
theorem den_ops_guard {op:Op} {j:Nat} {want:Bool}:den C (.ops dr all (⟨dst,op,some (j,want)⟩ :: l) :: stk) Q .normal ⟨env,H⟩=grd C (guardV all env j) want op dst dr all l stk Q env H:=by
  unfold grd aft guardV
  rw [den_eq]
  show (match slotOf all j with | none=>False | some t=>_)=_
  cases slotOf all j with
  | none=>rfl
  | some t=>rfl
theorem aft_ok {v:V}:aft C (.ok v H) dst dr all l stk Q env=put C v dst dr all l stk Q env H:=by unfold aft put;rw [R.holds]
theorem aft_guard {p:Prop} {r:R}:aft C (guardR p r) dst dr all l stk Q env=(p∧aft C r dst dr all l stk Q env):=by unfold aft;rw [guardR_holds]
theorem aft_br {p:Prop} {a b:R}:aft C (brR p a b) dst dr all l stk Q env=((p→aft C a dst dr all l stk Q env)∧(¬ p→aft C b dst dr all l stk Q env)):=by unfold aft;rw [brR_holds]
theorem aft_both {a b:R}:aft C (.both a b) dst dr all l stk Q env=(aft C a dst dr all l stk Q env∧aft C b dst dr all l stk Q env):=by unfold aft;rw [R.holds]
theorem aft_call {g:FuncId} {vs:List V}:aft C (.call g vs H) dst dr all l stk Q env=CallsD P g vs H (fun v H'=>den C (.ops dr all l :: stk) Q .normal ⟨updO env dst v,H'⟩):=by unfold aft;rw [R.holds]
theorem aft_bad:aft C .bad dst dr all l stk Q env=False:=by unfold aft;rw [R.holds]
theorem put_any {v:V}:put C v dst dr all l stk Q env H=den C (.ops dr all l :: stk) Q .normal ⟨updO env dst v,H⟩:=by rw [put]
theorem put_bool {b:Bool} {t:Nat}:put C (.d (.bool b)) (some t) dr all l stk Q env H=spl C (C.S.contains t) (b=true) b t dr all l stk Q env H:=by
  unfold put spl
  cases C.S.contains t with
  | false=>rfl
  | true =>
    simp only [cond_true,updO]
    cases b
    · exact propext ⟨fun h=>⟨fun q=>(by cases q),fun _=>h⟩,fun h=>h.2 (by decide)⟩
    · exact propext ⟨fun h=>⟨fun _=>h,fun q=>absurd rfl q⟩,fun h=>h.1 rfl⟩
theorem put_true {t:Nat}:put C (.d (.bool true)) (some t) dr all l stk Q env H=den C (.ops dr all l :: stk) Q .normal ⟨upd env t (.d (.bool true)),H⟩:=by rw [put,updO]
theorem put_false {t:Nat}:put C (.d (.bool false)) (some t) dr all l stk Q env H=den C (.ops dr all l :: stk) Q .normal ⟨upd env t (.d (.bool false)),H⟩:=by rw [put,updO]
theorem spl_yes {b:Bool} {t:Nat}:spl C true True b t dr all l stk Q env H=den C (.ops dr all l :: stk) Q .normal ⟨upd env t (.d (.bool true)),H⟩:=by simp [spl]
theorem spl_no {b:Bool} {t:Nat}:spl C true False b t dr all l stk Q env H=den C (.ops dr all l :: stk) Q .normal ⟨upd env t (.d (.bool false)),H⟩:=by simp [spl]
theorem spl_open {p:Prop} {b:Bool} {t:Nat}:spl C true p b t dr all l stk Q env H=((p→den C (.ops dr all l :: stk) Q .normal ⟨upd env t (.d (.bool true)),H⟩)∧(¬ p→den C (.ops dr all l :: stk) Q .normal ⟨upd env t (.d (.bool false)),H⟩)):=by unfold spl;rw [cond_true]
theorem spl_not {p:Prop} {b:Bool} {t:Nat}:spl C false p b t dr all l stk Q env H=den C (.ops dr all l :: stk) Q .normal ⟨upd env t (.d (.bool b)),H⟩:=by unfold spl;rw [cond_false]
theorem grd_tt {op:Op}:grd C (.d (.bool true)) true op dst dr all l stk Q env H=aft C (opR C dr env H op) dst dr all l stk Q env:=by simp [grd]
theorem grd_ff {op:Op}:grd C (.d (.bool false)) false op dst dr all l stk Q env H=aft C (opR C dr env H op) dst dr all l stk Q env:=by simp [grd]
theorem grd_tf {op:Op}:grd C (.d (.bool true)) false op dst dr all l stk Q env H=den C (.ops dr all l :: stk) Q .normal ⟨updO env dst (.tup []),H⟩:=by simp [grd]
theorem grd_ft {op:Op}:grd C (.d (.bool false)) true op dst dr all l stk Q env H=den C (.ops dr all l :: stk) Q .normal ⟨updO env dst (.tup []),H⟩:=by simp [grd]
theorem grd_tup {op:Op} {want:Bool}:grd C (.tup []) want op dst dr all l stk Q env H=den C (.ops dr all l :: stk) Q .normal ⟨updO env dst (.tup []),H⟩:=by rw [grd]
theorem grd_open {op:Op} {b want:Bool}:grd C (.d (.bool b)) want op dst dr all l stk Q env H=((b=want→aft C (opR C dr env H op) dst dr all l stk Q env)∧(b ≠ want→den C (.ops dr all l :: stk) Q .normal ⟨updO env dst (.tup []),H⟩)):=by rw [grd]
theorem cnd_t {a b:XCode}:cnd C (.d (.bool true)) a b stk Q s=den C (.code a :: stk) Q .normal s:=by simp [cnd]
theorem cnd_f {a b:XCode}:cnd C (.d (.bool false)) a b stk Q s=den C (.code b :: stk) Q .normal s:=by simp [cnd]
theorem cnd_open {a b:XCode} {t:Bool}:cnd C (.d (.bool t)) a b stk Q s=((t=true→den C (.code a :: stk) Q .normal s)∧(t=false→den C (.code b :: stk) Q .normal s)):=by rw [cnd]
end
theorem elR_go {es:List (List V)} {i e e' j size:Nat} {agg:Bool} {H:Heap}:elR es i e e' j size agg H=guardR (i < es.length∧e'=e∧j + size≤e∧(agg=true∨size=1)) (.ok (asVal agg (((es[i]?.getD []).drop j).take size)) H):=by rw [elR]
theorem setR_go {es:List (List V)} {id i e e' j size:Nat} {l:List V} {H:Heap}:setR es id i e e' j size l H=guardR (i < es.length∧e'=e∧l.length=size∧j + size≤e∧ones l=true) (.ok (.tup []) (H.set id (.row e (es.set i (setMany (es[i]?.getD []) j l))))):=by rw [setR]
attribute [simp 200] elR_go setR_go
attribute [simp] den_nil den_skip den_code_ops den_code_drawn den_seq den_cond den_block den_loop den_exit den_ret den_other den_code_exit den_code_ret den_blk den_blk_ret den_blk_exit den_ops_nil den_ops den_ops_guard
  aft_ok aft_guard aft_br aft_both aft_bad put_true put_false spl_yes spl_no spl_not grd_tt grd_ff grd_tf grd_ft grd_tup cnd_t cnd_f brR_true brR_false guardR_true guardR_false
attribute [simp 900] put_bool spl_open grd_open cnd_open
attribute [simp 500] put_any
attribute [simp] strT opR loadR storeR boxR allocR buildR buildSliceR makeSliceR nilCheckR optR binR unR convertR convHR bytesR pickR fieldAddrR fieldR indexAddrR indexR extractR boundR cutR sliceR lenR elemsR putOnR appendR copyOnR copyR ansR ansT goR callR growR growCallee ownCallee tab tabH tabK
end Go.Proofs.YtcgekblpbheikaaGreatDoor
end

section
/- The abstract machine,part 25: contracts over data of Lean,one for each number of arguments;pointers to data;what closes a walk. No condition. -/
namespace Go.Proofs.YtcgekblpbheikaaGreatDoor
set_option linter.unusedVariables false
set_option linter.unusedSimpArgs false

structure Ptr (α:Type) where
  v:α
instance {α:Type} [Inhabited α]:Inhabited (Ptr α):=⟨⟨default⟩⟩
@[reducible] instance encPtr {α:Type} [Enc α]:Enc (Ptr α) where
  size:=1
  agg:=false
  cells p _:=.rp (Enc.size α) (Enc.cells p.v)
  good p:=Enc.good p.v
  un f:=match f 0 with | .rp _ g=>⟨Enc.un g⟩ | _=>⟨Enc.un fun _=>.undef⟩
  un_of a f h:=by
    rw [h 0 (by omega)]
    simp only []
    rw [Enc.un_of a.v _ fun j hj=>rfl]
instance {α:Type} [Enc α]:Shaped (Ptr α):=⟨fun _=>rfl⟩

theorem closedL_map {l:List V} (h:∀ c∈l,c.closed=true):closedL l=true:=by
  induction l with
  | nil=>rfl
  | cons c l ih=>simp only [closedL,Bool.and_eq_true];exact ⟨h c List.mem_cons_self,ih fun d hd=>h d (List.mem_cons_of_mem _ hd)⟩
section
variable {α β γ δ ε ζ ρ:Type} [Enc α] [Enc β] [Enc γ] [Enc δ] [Enc ε] [Enc ζ] {P:Program}
noncomputable def Ent.p0 (f:FuncId) (r:V) (h:PureP P f [] (· = r)):Ent P :=
  ⟨f,fun vs=>match vs with | []=>some (True,r,[]) | _=>none,by
    intro vs c r' R e hc H
    split at e
    · cases e;exact h.good rfl H
    · (cases e),by
    intro vs x e
    split at e
    · rfl
    · cases e⟩
open Classical in
noncomputable def en1 (ans:α→ρ):List V→Option ρ
  | [x1]=>if x1=argV (unV x1:α) then some (ans (unV x1)) else none
  | _=>none
theorem en1_eq [Shaped α] (ans:α→ρ) (a1:α):en1 ans [argV a1]=some (ans a1):=by
  simp [en1,unV_argV]
theorem en1_inv {ans:α→ρ} {vs:List V} {r:ρ} (h:en1 ans vs=some r):∃ a1,vs=[argV a1]∧r=ans a1:=by
  unfold en1 at h
  split at h
  · split at h
    · rename_i hx
      cases h
      exact ⟨_,by rw [← hx],rfl⟩
    · cases h
  · cases h
noncomputable def Ent.p1 (f:FuncId) (c:α→Prop) (r:α→V) (h:∀ a1,c a1→PureP P f [argV a1] (· = r a1)):Ent P :=
  ⟨f,en1 fun a1=>(c a1,r a1,[]),by
    intro vs c' r' R e hc H
    obtain ⟨a1,rfl,e2⟩:=en1_inv e
    cases e2
    exact (h a1 hc).good (closedL_map (by simp [argV_closed])) H,by
    intro vs x e
    obtain ⟨a1,rfl,e2⟩:=en1_inv e
    exact closedL_map (by simp [argV_closed])⟩
theorem Ent.p1_eq [Shaped α] {f:FuncId} {c:α→Prop} {r:α→V} {h:∀ a1,c a1→PureP P f [argV a1] (· = r a1)} (a1:α):(Ent.p1 f c r h).e [argV a1]=some (c a1,r a1,[]):=by
  unfold Ent.p1;exact en1_eq (fun a1=>(c a1,r a1,[])) a1
open Classical in
noncomputable def en2 (ans:α→β→ρ):List V→Option ρ
  | [x1,x2]=>if x1=argV (unV x1:α)∧x2=argV (unV x2:β) then some (ans (unV x1) (unV x2)) else none
  | _=>none
theorem en2_eq [Shaped α] [Shaped β] (ans:α→β→ρ) (a1:α) (a2:β):en2 ans [argV a1,argV a2]=some (ans a1 a2):=by
  simp [en2,unV_argV]
theorem en2_inv {ans:α→β→ρ} {vs:List V} {r:ρ} (h:en2 ans vs=some r):∃ a1 a2,vs=[argV a1,argV a2]∧r=ans a1 a2:=by
  unfold en2 at h
  split at h
  · split at h
    · rename_i hx
      cases h
      exact ⟨_,_,by rw [← hx.1,← hx.2],rfl⟩
    · cases h
  · cases h
noncomputable def Ent.p2 (f:FuncId) (c:α→β→Prop) (r:α→β→V) (h:∀ a1 a2,c a1 a2→PureP P f [argV a1,argV a2] (· = r a1 a2)):Ent P :=
  ⟨f,en2 fun a1 a2=>(c a1 a2,r a1 a2,[]),by
    intro vs c' r' R e hc H
    obtain ⟨a1,a2,rfl,e2⟩:=en2_inv e
    cases e2
    exact (h a1 a2 hc).good (closedL_map (by simp [argV_closed])) H,by
    intro vs x e
    obtain ⟨a1,a2,rfl,e2⟩:=en2_inv e
    exact closedL_map (by simp [argV_closed])⟩
theorem Ent.p2_eq [Shaped α] [Shaped β] {f:FuncId} {c:α→β→Prop} {r:α→β→V} {h:∀ a1 a2,c a1 a2→PureP P f [argV a1,argV a2] (· = r a1 a2)} (a1:α) (a2:β):(Ent.p2 f c r h).e [argV a1,argV a2]=some (c a1 a2,r a1 a2,[]):=by
  unfold Ent.p2;exact en2_eq (fun a1 a2=>(c a1 a2,r a1 a2,[])) a1 a2
noncomputable def Ent.o2 (f:FuncId) (c:α→β→Prop) (r:α→β→V) (S:α→β→Heap) (h:∀ a1 a2,c a1 a2→∀ H,CallsD P f [argV a1,argV a2] H (answers (r a1 a2) (S a1 a2) H)):Ent P :=
  ⟨f,en2 fun a1 a2=>(c a1 a2,r a1 a2,S a1 a2),by
    intro vs c' r' R e hc H
    obtain ⟨a1,a2,rfl,e2⟩:=en2_inv e
    cases e2
    exact h a1 a2 hc H,by
    intro vs x e
    obtain ⟨a1,a2,rfl,e2⟩:=en2_inv e
    exact closedL_map (by simp [argV_closed])⟩
theorem Ent.o2_eq [Shaped α] [Shaped β] {f:FuncId} {c:α→β→Prop} {r:α→β→V} {S:α→β→Heap} {h:∀ a1 a2,c a1 a2→∀ H,CallsD P f [argV a1,argV a2] H (answers (r a1 a2) (S a1 a2) H)} (a1:α) (a2:β):(Ent.o2 f c r S h).e [argV a1,argV a2]=some (c a1 a2,r a1 a2,S a1 a2):=by
  unfold Ent.o2;exact en2_eq (fun a1 a2=>(c a1 a2,r a1 a2,S a1 a2)) a1 a2

open Classical in
noncomputable def en3 (ans:α→β→γ→ρ):List V→Option ρ
  | [x1,x2,x3]=>if x1=argV (unV x1:α)∧x2=argV (unV x2:β)∧x3=argV (unV x3:γ) then some (ans (unV x1) (unV x2) (unV x3)) else none
  | _=>none
theorem en3_eq [Shaped α] [Shaped β] [Shaped γ] (ans:α→β→γ→ρ) (a1:α) (a2:β) (a3:γ):en3 ans [argV a1,argV a2,argV a3]=some (ans a1 a2 a3):=by
  simp [en3,unV_argV]
theorem en3_inv {ans:α→β→γ→ρ} {vs:List V} {r:ρ} (h:en3 ans vs=some r):∃ a1 a2 a3,vs=[argV a1,argV a2,argV a3]∧r=ans a1 a2 a3:=by
  unfold en3 at h
  split at h
  · split at h
    · rename_i hx
      cases h
      exact ⟨_,_,_,by rw [← hx.1,← hx.2.1,← hx.2.2],rfl⟩
    · cases h
  · cases h
noncomputable def Ent.p3 (f:FuncId) (c:α→β→γ→Prop) (r:α→β→γ→V) (h:∀ a1 a2 a3,c a1 a2 a3→PureP P f [argV a1,argV a2,argV a3] (· = r a1 a2 a3)):Ent P :=
  ⟨f,en3 fun a1 a2 a3=>(c a1 a2 a3,r a1 a2 a3,[]),by
    intro vs c' r' R e hc H
    obtain ⟨a1,a2,a3,rfl,e2⟩:=en3_inv e
    cases e2
    exact (h a1 a2 a3 hc).good (closedL_map (by simp [argV_closed])) H,by
    intro vs x e
    obtain ⟨a1,a2,a3,rfl,e2⟩:=en3_inv e
    exact closedL_map (by simp [argV_closed])⟩
theorem Ent.p3_eq [Shaped α] [Shaped β] [Shaped γ] {f:FuncId} {c:α→β→γ→Prop} {r:α→β→γ→V} {h:∀ a1 a2 a3,c a1 a2 a3→PureP P f [argV a1,argV a2,argV a3] (· = r a1 a2 a3)} (a1:α) (a2:β) (a3:γ):(Ent.p3 f c r h).e [argV a1,argV a2,argV a3]=some (c a1 a2 a3,r a1 a2 a3,[]):=by
  unfold Ent.p3;exact en3_eq (fun a1 a2 a3=>(c a1 a2 a3,r a1 a2 a3,[])) a1 a2 a3
open Classical in
open Classical in
open Classical in
end
end Go.Proofs.YtcgekblpbheikaaGreatDoor
end

section
/- The abstract machine,part 26: data that say less;callees that only read the caller's places. No condition. -/
namespace Go.Proofs.YtcgekblpbheikaaGreatDoor
set_option linter.unusedVariables false
set_option linter.unusedSimpArgs false

def DLe:D→D→Prop
  | .rp n f,d'=>match d' with
    | .rp m g=>m≤n∧∀ j,j < m→DLe (f j) (g j)
    | _=>False
  | .ro e n f,d'=>match d' with
    | .ro e' n' g=>e=e'∧n=n'∧∀ i,i < n→∀ j,j < e→DLe (f i j) (g i j)
    | _=>False
  | .nilsl,d'=>match d' with
    | .nilsl=>True
    | .ro _ n _=>n=0
    | _=>False
  | d,d'=>d=d'
theorem DLe.refl:∀ d,DLe d d:=by
  intro d
  induction d with
  | rp n f ih=>exact ⟨Nat.le_refl _,fun j _=>ih j⟩
  | ro e n f ih=>exact ⟨rfl,rfl,fun i _ j _=>ih i j⟩
  | nilsl=>trivial
  | _=>rfl
theorem DS.le {w:World} {own:Nat→Prop}:∀ (d d':D) (v:Value),DLe d d'→DS w own d v→DS w own d' v:=by
  intro d
  induction d with
  | rp n f ih =>
    intro d' v h hv
    unfold DLe at h
    split at h
    · obtain ⟨a,rfl,hf⟩:=hv
      refine ⟨a,rfl,fun j hj=>?_⟩
      obtain ⟨h1,c,h2,h3⟩:=hf j (by omega)
      exact ⟨h1,c,h2,ih j _ _ (h.2 j hj) h3⟩
    · exact h.elim
  | ro e n f ih =>
    intro d' v h hv
    unfold DLe at h
    split at h
    · obtain ⟨rfl,rfl,h⟩:=h
      obtain ⟨A,cap,h1,h2,h3⟩:=hv
      refine ⟨A,cap,h1,h2,fun i j hi hj=>?_⟩
      obtain ⟨a,q1,q2,c,q3,q4⟩:=h3 i j hi hj
      exact ⟨a,q1,q2,c,q3,ih i j _ _ (h i hi j hj) q4⟩
    · exact h.elim
  | nilsl =>
    intro d' v h hv
    unfold DLe at h
    split at h
    · exact hv
    · subst h
      simp only [DS] at hv ⊢
      exact ⟨none,0,hv,Nat.le_refl _,fun i j hi=>by omega⟩
    · exact h.elim
  | _ =>
    intro d' v h hv
    have:_=d':=h
    subst this
    exact hv
mutual
def VLe:V→V→Prop
  | .d x,y=>match y with
    | .d z=>DLe x z
    | _=>False
  | .agg l,y=>match y with
    | .agg l'=>VLes l l'
    | _=>False
  | .tup l,y=>match y with
    | .tup l'=>VLes l l'
    | _=>False
  | x,y=>x=y
def VLes:List V→List V→Prop
  | [],y=>y=[]
  | x :: l,y=>match y with
    | z :: l'=>VLe x z∧VLes l l'
    | []=>False
end
mutual
theorem VS.le {w:World} {own:Nat→Prop} {φ:List (Nat × Nat)}:∀ (x y:V) (v:Value),VLe x y→VS w own φ x v→VS w own φ y v
  | .d x,y,v,h,hv=>by
    unfold VLe at h
    split at h
    · exact DS.le _ _ _ h hv
    · exact h.elim
  | .agg l,y,v,h,hv=>by
    unfold VLe at h
    split at h
    · obtain ⟨cs,h1,h2⟩:=hv
      exact ⟨cs,h1,VSs.le l _ _ h h2⟩
    · exact h.elim
  | .tup l,y,v,h,hv=>by
    unfold VLe at h
    split at h
    · obtain ⟨cs,h1,h2⟩:=hv
      exact ⟨cs,h1,VSs.le l _ _ h h2⟩
    · exact h.elim
  | .ptr a b c d,y,v,h,hv=>by
    have:V.ptr a b c d=y:=by simpa [VLe] using h
    subst this;exact hv
  | .sl a b c d,y,v,h,hv=>by
    have:V.sl a b c d=y:=by simpa [VLe] using h
    subst this;exact hv
  | .clo f l,y,v,h,hv=>by
    have:V.clo f l=y:=by simpa [VLe] using h
    subst this;exact hv
theorem VSs.le {w:World} {own:Nat→Prop} {φ:List (Nat × Nat)}:∀ (l l':List V) (vs:List Value),VLes l l'→VSs w own φ l vs→VSs w own φ l' vs
  | [],l',vs,h,hv=>by
    have:l'=[]:=by simpa [VLes] using h
    subst this;exact hv
  | x :: l, l', vs, h, hv => by
    unfold VLes at h
    split at h
    · obtain ⟨v,vs',h1,h2,h3⟩:=hv
      exact ⟨v,vs',h1,VS.le _ _ _ h.1 h2,VSs.le l _ _ h.2 h3⟩
    · exact h.elim
end
theorem PureP.le {P:Program} {f:FuncId} {vs:List V} {r0:V} (h:PureP P f vs fun r=>VLe r r0):PureP P f vs (· = r0):=by
  refine ⟨h.1,fun X w φ args hX hs hv=>(h.2 X w φ args hX hs hv).mono ?_⟩
  rintro e' w' ⟨v,r,φ',H',rfl,⟨rfl,hr⟩,hs',hv',rest⟩
  exact ⟨v,_,φ',[],rfl,⟨rfl,rfl⟩,hs',VS.le _ _ _ hr hv',rest⟩
attribute [simp] DLe.refl

def D.scl:D→Bool
  | .int .. | .bool _ | .str _ | .undef | .nilp | .nilsl | .nilf | .nili=>true
  | _=>false
mutual
def V.scl:V→Bool
  | .d x=>x.scl
  | .ptr .. | .sl ..=>true
  | .agg l | .tup l | .clo _ l=>sclL l
def sclL:List V→Bool
  | []=>true
  | c :: l=>c.scl && sclL l
end
def SclH (R:Heap):Prop:=∀ p∈R,match p with
  | .row _ es=>∀ l∈es,∀ c∈l,c.scl=true
  | .dead=>True
mutual
theorem scl_any {w:World} {own own':Nat→Prop} {φ:List (Nat × Nat)}:∀ (c:V) (v:Value),c.scl=true→VS w own φ c v→VS w own' φ c v
  | .d x,v,h,hv=>by
    cases x <;> simp [V.scl,D.scl] at h <;> exact hv
  | .agg l,v,h,hv=>by
    obtain ⟨cs,h1,h2⟩:=hv
    exact ⟨cs,h1,sclL_any l _ (by simpa [V.scl] using h) h2⟩
  | .tup l,v,h,hv=>by
    obtain ⟨cs,h1,h2⟩:=hv
    exact ⟨cs,h1,sclL_any l _ (by simpa [V.scl] using h) h2⟩
  | .clo f l,v,h,hv=>by
    obtain ⟨cs,h1,h2⟩:=hv
    exact ⟨cs,h1,sclL_any l _ (by simpa [V.scl] using h) h2⟩
  | .ptr ..,v,_,hv=>hv
  | .sl ..,v,_,hv=>hv
theorem sclL_any {w:World} {own own':Nat→Prop} {φ:List (Nat × Nat)}:∀ (l:List V) (vs:List Value),sclL l=true→VSs w own φ l vs→VSs w own' φ l vs
  | [],vs,_,hv=>hv
  | c :: l,vs,h,hv=>by
    simp only [sclL,Bool.and_eq_true] at h
    obtain ⟨v,vs',h1,h2,h3⟩:=hv
    exact ⟨v,vs',h1,scl_any c v h.1 h2,sclL_any l vs' h.2 h3⟩
end

def Reads1 (H:Heap) (vs vs':List V):Prop:=∀ (X:Nat→Prop) (w:World) (φ:List (Nat × Nat)) (xs:List Value),HS X w φ H→VSs w (owned X φ H) φ vs xs→VSs w X [] vs' xs

theorem CallsD.peek {P : Program} {f : FuncId} {vs vs' : List V} {r : V} {R : Heap} (h : CallsD P f vs' [] fun r' H' => r' = r ∧ H' = R) {H : Heap} (hv : Reads1 H vs vs') (hr : r.scl = true) (hR : SclH R) :
    CallsD P f vs H fun r' H'=>r'=r.shift H.length∧H'=H++R.map (Place.shift H.length):=by
  refine ⟨h.1,fun X w φ args hX hs hvs=>?_⟩
  refine (h.2 X w [] args hX.nil (HS.nil _ w) (by rw [owned_nil];exact hv X w φ _ hs hvs)).mono ?_
  rintro e w' ⟨v,r',φ',H',rfl,⟨rfl,rfl⟩,hs',hv',hfr,_,_,hnew⟩
  have hl:φ.length=H.length:=hs.len
  have hno:ownOf ([]:List (Nat × Nat)) []=fun _=>False:=by
    funext g
    apply propext
    constructor
    · rintro ⟨id,e,es,o,h,_⟩;simp at h
    · exact False.elim
  rw [hno] at hfr hnew
  have hlow:∀ g,ownOf φ H g→g < w.heap.size:=fun g hg=>owned_lt hs hg
  have hk:Keeps w (owned X φ H) w' (owned X (φ++φ') (H++H'.map (Place.shift H.length))):=fun b hb hn=>⟨hfr.block b hb (fun h=>h),fun hx=>hx.elim (fun q=>hn (.inl q)) (fun ho=>by
    rw [own_two hl] at ho
    exact ho.elim (fun q=>hn (.inr q)) (fun q=>(hnew b hb q).elim))⟩
  refine ⟨v,_,φ++φ',_,rfl,⟨rfl,rfl⟩,⟨?_, ?_, ?_, ?_⟩, ?_, ?_,Ext.append _ _,by simp, ?_⟩
  · simp [hl,hs'.len]
  · intro i j e es e' es' g o o' hi hj hgi hgj
    rcases get_two hi with ⟨a1,a2⟩ | ⟨es1,a1,_,a2⟩ <;> rcases get_two hj with ⟨b1,b2⟩ | ⟨es2,b1,_,b2⟩
    · rw [List.getElem?_append_left (by omega)] at hgi hgj
      exact hs.inj i j e es e' es' g o o' a1 b1 hgi hgj
    · rw [List.getElem?_append_left (by omega)] at hgi
      rw [List.getElem?_append_right (by omega),hl] at hgj
      exact (hnew g (hlow g ⟨i,e,es,o,a1,hgi⟩) ⟨_,_,_,_,b1,hgj⟩).elim
    · rw [List.getElem?_append_left (by omega)] at hgj
      rw [List.getElem?_append_right (by omega),hl] at hgi
      exact (hnew g (hlow g ⟨j,e',es',o',b1,hgj⟩) ⟨_,_,_,_,a1,hgi⟩).elim
    · rw [List.getElem?_append_right (by omega),hl] at hgi hgj
      have:=hs'.inj _ _ _ _ _ _ _ _ _ a1 b1 hgi hgj
      omega
  · intro g hg
    rw [own_two hl] at hg
    exact hg.elim (hs.disj g) (hs'.disj g)
  · intro id e es hid
    rcases get_two hid with ⟨a1,a2⟩ | ⟨es1,a1,rfl,a2⟩
    · obtain ⟨g,o,cs,t,h1,h2,h3,h4⟩:=hs.live id e es a1
      refine ⟨g,o,cs,t,by rw [List.getElem?_append_left (by omega)];exact h1, ?_,h3,fun i l hil=>⟨(h4 i l hil).1,fun j c hc=>?_⟩⟩
      · rw [hfr.block g (Array.getElem?_eq_some_iff.1 h2).1 (fun h=>h)];exact h2
      · obtain ⟨h5,y,h6,h7⟩:=(h4 i l hil).2 j c hc
        exact ⟨h5,y,h6,VS.keeps hk hfr.sizes (Ext.append _ _) _ _ h7⟩
    · obtain ⟨g,o,cs,t,h1,h2,h3,h4⟩:=hs'.live _ e es1 a1
      refine ⟨g,o,cs,t,by rw [List.getElem?_append_right (by omega),hl];exact h1,h2,by simpa using h3,fun i l hil=>?_⟩
      rw [List.getElem?_map] at hil
      cases hq:es1[i]? with
      | none=>rw [hq] at hil;simp at hil
      | some l1 =>
        rw [hq] at hil
        simp only [Option.map_some,Option.some.injEq] at hil
        subst hil
        refine ⟨by rw [shiftL_length];exact (h4 i l1 hq).1,fun j c hc=>?_⟩
        rw [shiftL_get] at hc
        cases hq2:l1[j]? with
        | none=>rw [hq2] at hc;simp at hc
        | some c1 =>
          rw [hq2] at hc
          simp only [Option.map_some,Option.some.injEq] at hc
          subst hc
          obtain ⟨h5,y,h6,h7⟩:=(h4 i l1 hq).2 j c1 hq2
          refine ⟨by rw [shift_one];exact h5,y,h6, ?_⟩
          have hsc:c1.scl=true:=hR _ (List.mem_of_getElem? a1) l1 (List.mem_of_getElem? hq) c1 (List.mem_of_getElem? hq2)
          have:=VS.shift (own:=owned X (φ++φ') (H++H'.map (Place.shift H.length))) φ φ' c1 y (scl_any c1 y hsc h7)
          rw [hl] at this
          exact this
  · have:=VS.shift (own:=owned X (φ++φ') (H++H'.map (Place.shift H.length))) φ φ' _ v (scl_any _ v hr hv')
    rw [hl] at this
    exact this
  · exact ⟨hfr.os,hfr.tape,hfr.output,hfr.size,fun b hb _=>hfr.block b hb (fun h=>h),hfr.sizes⟩
  · intro g hg ho
    rw [own_two hl] at ho
    exact ho.elim (fun h=>h) (fun h=>(hnew g hg h).elim)

mutual
theorem shift_zero:∀ (c:V),c.shift 0=c
  | .d x=>rfl
  | .ptr id e i j=>by simp [V.shift]
  | .sl id e off n=>by simp [V.shift]
  | .agg l=>by simp [V.shift,shiftL_zero l]
  | .tup l=>by simp [V.shift,shiftL_zero l]
  | .clo f l=>by simp [V.shift,shiftL_zero l]
theorem shiftL_zero:∀ (l:List V),shiftL 0 l=l
  | []=>rfl
  | c :: l=>by simp [shiftL,shift_zero c,shiftL_zero l]
end
theorem place_shift_zero (p:Place):p.shift 0=p:=by
  cases p with
  | dead=>rfl
  | row e es =>
    simp only [Place.shift]
    congr 1
    have:shiftL 0=id:=by funext l;exact shiftL_zero l
    rw [this,List.map_id]
theorem answers_nil {r:V} {R:Heap} {r':V} {H':Heap} (h:answers r R [] r' H'):r'=r∧H'=R:=by
  unfold answers at h
  split at h
  · exact h
  · obtain ⟨h1,h2⟩:=h
    have:Place.shift 0=id:=by funext p;exact place_shift_zero p
    simp only [List.length_nil,List.nil_append,this,List.map_id] at h1 h2
    exact ⟨by rw [h1,shift_zero],h2⟩
theorem PureP.ans {P:Program} {f:FuncId} {vs:List V} {r:V} (h:PureP P f vs (· = r)):CallsD P f vs [] fun r' H'=>r'=r∧H'=[]:=h.mono fun _ _ q=>⟨q.2,q.1⟩
theorem CallsD.ans {P:Program} {f:FuncId} {vs:List V} {r:V} {S:Heap} (h:CallsD P f vs [] (answers r S [])):CallsD P f vs [] fun r' H'=>r'=r∧H'=S:=h.mono fun _ _ q=>answers_nil q
noncomputable def peekR (c:Prop) (r:V) (S H:Heap):R:=guardR (c∧r.scl=true∧SclH S) (.ok (r.shift H.length) (H++S.map (Place.shift H.length)))

class Dec (α:Type) [Enc α] where
  dec:Heap→List V→Prop × α
  ok:∀ (H:Heap) (l:List V),(dec H l).1→∀ (X:Nat→Prop) (w:World) (φ:List (Nat × Nat)) (xs:List Value),HS X w φ H→VSs w (owned X φ H) φ l xs →
    l.length=Enc.size α∧∀ j v,xs[j]? = some v→DS w X (Enc.cells (dec H l).2 j) v

@[reducible] instance decInt:Dec Int where
  dec _ l:=match l with | [.d (.int .i64 n)]=>(True,n) | _=>(False,0)
  ok H l h X w φ xs hs hv:=by
    split at h
    · obtain ⟨v,vs',rfl,h2,h3⟩:=hv
      have:vs'=[]:=h3
      subst this
      refine ⟨rfl,fun j u hu=>?_⟩
      match j,hu with
      | 0,hu=>simp at hu;subst hu;exact h2
    · exact h.elim
@[reducible] instance decBool:Dec Bool where
  dec _ l:=match l with | [.d (.bool n)]=>(True,n) | _=>(False,false)
  ok H l h X w φ xs hs hv:=by
    split at h
    · obtain ⟨v,vs',rfl,h2,h3⟩:=hv
      have:vs'=[]:=h3
      subst this
      refine ⟨rfl,fun j u hu=>?_⟩
      match j,hu with
      | 0,hu=>simp at hu;subst hu;exact h2
    · exact h.elim
@[reducible] instance decStr:Dec ByteArray where
  dec _ l:=match l with | [.d (.str n)]=>(True,n) | _=>(False,default)
  ok H l h X w φ xs hs hv:=by
    split at h
    · obtain ⟨v,vs',rfl,h2,h3⟩:=hv
      have:vs'=[]:=h3
      subst this
      refine ⟨rfl,fun j u hu=>?_⟩
      match j,hu with
      | 0,hu=>simp at hu;subst hu;exact h2
    · exact h.elim
@[reducible] instance decList {α:Type} [Enc α] [Dec α] [Inhabited α]:Dec (List α) where
  dec H l:=match l with
    | [.sl id e off n]=>match H[id]? with
      | some (.row e' es)=>((e=Enc.size α∧e'=e)∧off + n≤es.length∧∀ r∈(es.drop off).take n,(Dec.dec (α:=α) H r).1,((es.drop off).take n).map fun r=>(Dec.dec (α:=α) H r).2)
      | _=>(False,[])
    | [.d x]=>(DLe x (Enc.cells (Enc.un (α:=List α) fun _=>x) 0),Enc.un fun _=>x)
    | _=>(False,[])
  ok H l h X w φ xs hs hv:=by
    split at h
    · rename_i id e off n
      split at h
      · rename_i e' es hid
        simp only [hid]
        obtain ⟨⟨rfl,rfl⟩,hlen,hel⟩:=h
        obtain ⟨v,vs',rfl,h2,h3⟩:=hv
        have:vs'=[]:=h3
        subst this
        refine ⟨rfl,fun j u hu=>?_⟩
        match j,hu with
        | 0,hu =>
          simp at hu
          subst hu
          obtain ⟨g,o,A,cap,hφ,rfl,hcap,hA,hroom⟩:=h2
          obtain ⟨g',o',cs,t,q1,q2,q3,q4⟩:=hs.live id _ es hid
          rw [hφ] at q1
          obtain ⟨rfl,rfl⟩:=Prod.mk.inj (Option.some.inj q1)
          have hl:(((es.drop off).take n).map fun r=>(Dec.dec (α:=α) H r).2).length=n:=by simp;omega
          refine ⟨some A,cap,by rw [hl],by rw [hl];exact hcap,fun i j hi hj=>?_⟩
          rw [hl] at hi
          refine ⟨A,rfl, ?_, ?_⟩
          · rw [hA.resolve_left (by omega)]
            exact fun hx=>hs.disj g ⟨id,_,es,o,hid,hφ⟩ hx
          · have hlt:off + i < es.length:=by omega
            have hget:((es.drop off).take n)[i]? = some es[off + i]:=by
              rw [List.getElem?_take,if_pos hi,List.getElem?_drop,List.getElem?_eq_getElem hlt]
            obtain ⟨r1,r2⟩:=q4 (off + i) es[off + i] (List.getElem?_eq_getElem hlt)
            have hd:=hel _ (List.mem_of_getElem? hget)
            obtain ⟨ys,hys1,hys2⟩:=exists_list (es[off + i].length) (fun j y=>cs[o + (off + i) * Enc.size α + j]? = some y∧∃ c,es[off + i][j]? = some c∧VS w (owned X φ H) φ c y) (fun j hj=>by
              obtain ⟨_,y,hy,hyv⟩:=r2 j _ (List.getElem?_eq_getElem hj)
              exact ⟨y,hy,_,List.getElem?_eq_getElem hj,hyv⟩)
            have:=Dec.ok (α:=α) H _ hd X w φ ys hs (VSs_of _ _ hys1.symm fun j c y hc hy=>by
              obtain ⟨_,c',hc',hv'⟩:=hys2 j y hy
              rw [hc] at hc'
              cases hc'
              exact hv')
            have hjy:j < ys.length:=by rw [hys1,r1];exact hj
            obtain ⟨p1,_⟩:=hys2 j _ (List.getElem?_eq_getElem hjy)
            refine ⟨ys[j], ?_, ?_⟩
            · rw [hA.resolve_left (by omega),add_plain',cell_of_row w g _ cs t _ q2,← p1]
              congr 1
              rw [Nat.add_mul]
              omega
            · have:=this.2 j _ (List.getElem?_eq_getElem hjy)
              show DS w X (Enc.cells ((List.map (fun r=>(Dec.dec (α:=α) H r).2) (List.take n (List.drop off es)))[i]?.getD default) j) ys[j]
              rw [List.getElem?_map,hget]
              exact this
      · exact h.elim
    · rename_i x
      obtain ⟨v,vs',rfl,h2,h3⟩:=hv
      have:vs'=[]:=h3
      subst this
      refine ⟨rfl,fun j u hu=>?_⟩
      match j,hu with
      | 0,hu =>
        simp at hu
        subst hu
        exact DS.le _ _ _ h (DS.keeps (fun b _ hn=>⟨rfl,fun hx=>hn (.inl hx)⟩) _ _ h2)
    · exact h.elim

theorem VS.argV_of {α:Type} [Enc α] [Shaped α] {w:World} {X:Nat→Prop} {a:α} {x:V} {v:Value} {φ:List (Nat × Nat)} {own:Nat→Prop} (hsh:match x with | .agg _=>Enc.agg α=true | .tup _=>False | _=>Enc.agg α=false)
    (hv:VS w own φ x v) (h:∀ xs:List Value,VSs w own φ x.flat xs→x.flat.length=Enc.size α∧∀ j u,xs[j]? = some u→DS w X (Enc.cells a j) u):VS w X [] (argV a) v:=by
  have one:Enc.agg α=false→VSs w own φ [x] [v]→x.flat=[x]→VS w X [] (argV a) v:=by
    intro ha hv1 hfl
    rw [hfl] at h
    have:=(h [v] hv1).2 0 v rfl
    simp only [argV,ha,cond_false,VS]
    exact this
  cases x with
  | agg l =>
    simp only [] at hsh
    obtain ⟨cs,rfl,hcs⟩:=hv
    obtain ⟨h1,h2⟩:=h cs.toList hcs
    simp only [argV,hsh,cond_true,VS]
    refine ⟨cs,rfl, ?_⟩
    have hlen:=VSs.length _ _ hcs
    have:=VSs.of_cells (w:=w) (own:=X) (φ:=[]) (f:=Enc.cells a) (Enc.size α) 0 cs.toList (by rw [← hlen];exact h1) fun j u hu=>by rw [Nat.zero_add];exact h2 j u hu
    rwa [← List.range_eq_range'] at this
  | tup l=>exact hsh.elim
  | d y=>exact one hsh ⟨v,[],rfl,hv,rfl⟩ rfl
  | ptr a b c d=>exact one hsh ⟨v,[],rfl,hv,rfl⟩ rfl
  | sl a b c d=>exact one hsh ⟨v,[],rfl,hv,rfl⟩ rfl
  | clo f l=>exact one hsh ⟨v,[],rfl,hv,rfl⟩ rfl

def decA {α:Type} [Enc α] [Dec α] (H:Heap) (x:V):Prop × α :=
  (((match x with | .agg _=>Enc.agg α=true | .tup _=>False | _=>Enc.agg α=false)∧(Dec.dec (α:=α) H x.flat).1),(Dec.dec (α:=α) H x.flat).2)
theorem decA_ok {α:Type} [Enc α] [Shaped α] [Dec α] {H:Heap} {x:V} (h:(decA (α:=α) H x).1) {X:Nat→Prop} {w:World} {φ:List (Nat × Nat)} {v:Value} (hs:HS X w φ H) (hv:VS w (owned X φ H) φ x v) :
    VS w X [] (argV (decA (α:=α) H x).2) v :=
  VS.argV_of h.1 hv fun xs hxs=>Dec.ok H _ h.2 X w φ xs hs hxs

@[reducible] instance decPtr {α:Type} [Enc α] [Dec α] [Inhabited α]:Dec (Ptr α) where
  dec H l:=match l with
    | [.ptr id e i j]=>match H[id]? with
      | some (.row e' es)=>((e'=e∧j + Enc.size α≤e)∧i < es.length∧(Dec.dec (α:=α) H ((((es[i]?).getD []).drop j).take (Enc.size α))).1,⟨(Dec.dec (α:=α) H ((((es[i]?).getD []).drop j).take (Enc.size α))).2⟩)
      | _=>(False,default)
    | [.d x]=>(DLe x (Enc.cells (Enc.un (α:=Ptr α) fun _=>x) 0),Enc.un fun _=>x)
    | _=>(False,default)
  ok H l h X w φ xs hs hv:=by
    split at h
    · rename_i id e i j0
      split at h
      · rename_i e' es hid
        simp only [hid]
        obtain ⟨⟨rfl,hsz⟩,hi,hd⟩:=h
        obtain ⟨v,vs',rfl,h2,h3⟩:=hv
        have:vs'=[]:=h3
        subst this
        refine ⟨rfl,fun j u hu=>?_⟩
        match j,hu with
        | 0,hu =>
          simp at hu
          subst hu
          obtain ⟨g,o,hφ,rfl⟩:=h2
          obtain ⟨g',o',cs,t,q1,q2,q3,q4⟩:=hs.live id _ es hid
          rw [hφ] at q1
          obtain ⟨rfl,rfl⟩:=Prod.mk.inj (Option.some.inj q1)
          obtain ⟨r1,r2⟩:=q4 i es[i] (List.getElem?_eq_getElem hi)
          have hgi:(es[i]?).getD []=es[i]:=by rw [List.getElem?_eq_getElem hi];rfl
          rw [hgi] at hd ⊢
          have hlen:((es[i].drop j0).take (Enc.size α)).length=Enc.size α:=by rw [List.length_take,List.length_drop,r1];omega
          obtain ⟨ys,hys1,hys2⟩:=exists_list (Enc.size α) (fun j y=>cs[o + i * e' + (j0 + j)]? = some y∧∃ c,((es[i].drop j0).take (Enc.size α))[j]? = some c∧VS w (owned X φ H) φ c y) (fun j hj=>by
            have hlt:j0 + j < es[i].length:=by omega
            obtain ⟨_,y,hy,hyv⟩:=r2 (j0 + j) _ (List.getElem?_eq_getElem hlt)
            refine ⟨y,hy,es[i][j0 + j], ?_,hyv⟩
            rw [List.getElem?_take,if_pos hj,List.getElem?_drop,List.getElem?_eq_getElem hlt])
          have:=Dec.ok (α:=α) H _ hd X w φ ys hs (VSs_of _ _ (by rw [hlen,hys1]) fun j c y hc hy=>by
            obtain ⟨_,c',hc',hv'⟩:=hys2 j y hy
            rw [hc] at hc'
            cases hc'
            exact hv')
          refine ⟨_,rfl,fun j hj=>⟨fun hx=>hs.disj g ⟨id,_,es,o,hid,hφ⟩ hx, ?_⟩⟩
          have hjy:j < ys.length:=by omega
          obtain ⟨p1,_⟩:=hys2 j _ (List.getElem?_eq_getElem hjy)
          refine ⟨ys[j], ?_,this.2 j _ (List.getElem?_eq_getElem hjy)⟩
          rw [add_plain',cell_of_row w g _ cs t _ q2,← p1]
          congr 1
          omega
      · exact h.elim
    · rename_i x
      obtain ⟨v,vs',rfl,h2,h3⟩:=hv
      have:vs'=[]:=h3
      subst this
      refine ⟨rfl,fun j u hu=>?_⟩
      match j,hu with
      | 0,hu =>
        simp at hu
        subst hu
        exact DS.le _ _ _ h (DS.keeps (fun b _ hn=>⟨rfl,fun hx=>hn (.inl hx)⟩) _ _ h2)
    · exact h.elim

theorem un_self {α:Type} [Enc α] [Shaped α] (a:α) (h:Enc.agg α=false):(Enc.un (α:=α) fun _=>Enc.cells a 0)=a :=
  Enc.un_of a _ fun j hj=>by
    have:=Shaped.one (α:=α) h
    have:j=0:=by omega
    rw [this]
section
variable {α:Type} [Enc α] [Dec α] [Inhabited α] {H:Heap}
theorem dec_int {n:Int}:Dec.dec (α:=Int) H [.d (.int .i64 n)]=(True,n):=rfl
theorem dec_bool {n:Bool}:Dec.dec (α:=Bool) H [.d (.bool n)]=(True,n):=rfl
theorem dec_str {n:ByteArray}:Dec.dec (α:=ByteArray) H [.d (.str n)]=(True,n):=rfl
theorem dec_sl {id e off n:Nat}:Dec.dec (α:=List α) H [.sl id e off n]=(match H[id]? with
      | some (.row e' es)=>((e=Enc.size α∧e'=e)∧off + n≤es.length∧∀ r∈(es.drop off).take n,(Dec.dec (α:=α) H r).1,((es.drop off).take n).map fun r=>(Dec.dec (α:=α) H r).2)
      | _=>(False,[])):=rfl
theorem dec_ro {l:List α}:Dec.dec (α:=List α) H [.d (.ro (Enc.size α) l.length fun i j=>Enc.cells (l[i]?.getD default) j)]=(True,l):=by
  have:=un_self (α:=List α) l rfl
  show (DLe _ (Enc.cells (Enc.un (α:=List α) fun _=>Enc.cells l 0) 0),Enc.un (α:=List α) fun _=>Enc.cells l 0)=_
  rw [this]
  exact congrArg (fun p=>(p,l)) (eq_true (DLe.refl _))
theorem dec_nilsl:Dec.dec (α:=List α) H [.d .nilsl]=(True,[]):=by
  show (DLe .nilsl (.ro (Enc.size α) 0 _),([]:List α))=_
  simp [DLe]
theorem dec_ptr {id e i j:Nat}:Dec.dec (α:=Ptr α) H [.ptr id e i j]=(match H[id]? with
      | some (.row e' es)=>((e'=e∧j + Enc.size α≤e)∧i < es.length∧(Dec.dec (α:=α) H ((((es[i]?).getD []).drop j).take (Enc.size α))).1,⟨(Dec.dec (α:=α) H ((((es[i]?).getD []).drop j).take (Enc.size α))).2⟩)
      | _=>(False,default)):=rfl
theorem dec_rp {p:Ptr α}:Dec.dec (α:=Ptr α) H [.d (.rp (Enc.size α) (Enc.cells p.v))]=(True,p):=by
  have:=un_self (α:=Ptr α) p rfl
  show (DLe _ (Enc.cells (Enc.un (α:=Ptr α) fun _=>Enc.cells p 0) 0),Enc.un (α:=Ptr α) fun _=>Enc.cells p 0)=_
  rw [this]
  exact congrArg (fun q=>(q,p)) (eq_true (DLe.refl _))
end
attribute [simp] dec_int dec_bool dec_str dec_sl dec_nilsl dec_ptr decA D.scl V.scl sclL SclH peekR

section
variable {α β γ δ ε ζ ρ:Type} [Enc α] [Enc β] [Enc γ] [Enc δ] [Enc ε] [Enc ζ] [Shaped α] [Shaped β] [Shaped γ] [Shaped δ] [Shaped ε] [Shaped ζ] [Dec α] [Dec β] [Dec γ] [Dec δ] [Dec ε] [Dec ζ] {P:Program}
theorem peekR_ok {f:FuncId} {c:Prop} {r:V} {S H:Heap} {vs vs':List V} {k:V→Heap→Prop} (h:(peekR c r S H).holds P k) (hr:Reads1 H vs vs') (hc:c→CallsD P f vs' [] fun r' H'=>r'=r∧H'=S):CallsD P f vs H k:=by
  unfold peekR at h
  rw [guardR_holds] at h
  obtain ⟨⟨h1,h2,h3⟩,h4⟩:=h
  exact (CallsD.peek (hc h1) hr h2 h3).mono fun r' H' ⟨e1,e2⟩=>by rw [e1,e2];exact h4

noncomputable def EntH.pk1 (f:FuncId) (c:α→Prop) (r:α→V) (S:α→Heap) (h:∀ a1,c a1→CallsD P f [argV a1] [] fun r' H'=>r'=r a1∧H'=S a1):EntH P :=
  ⟨f,fun vs H=>match vs with
    | [x1]=>guardR ((decA (α:=α) H x1).1) (peekR (c (decA (α:=α) H x1).2) (r (decA (α:=α) H x1).2) (S (decA (α:=α) H x1).2) H)
    | _=>.bad,by
    intro vs H k hk
    split at hk
    · rw [guardR_holds] at hk
      obtain ⟨hc,hk⟩:=hk
      refine peekR_ok hk ?_ (h _ )
      intro X w φ xs hs hv
      obtain ⟨_,_,rfl,hv1,hvn⟩:=hv
      have:_=[]:=hvn
      subst this
      exact ⟨_,_,rfl,decA_ok hc hs hv1,rfl⟩
    · exact hk.elim,true,by
    intro _ vs H k hk
    split at hk
    · rw [guardR_holds] at hk
      obtain ⟨hc,hk⟩:=hk
      unfold peekR at hk
      rw [guardR_holds] at hk
      refine ⟨_,_,fun k' hk'=>?_,hk.2⟩
      rw [guardR_holds]
      unfold peekR
      rw [guardR_holds]
      exact ⟨hc,hk.1,hk'⟩
    · exact hk.elim⟩
noncomputable def EntH.pk2 (f:FuncId) (c:α→β→Prop) (r:α→β→V) (S:α→β→Heap) (h:∀ a1 a2,c a1 a2→CallsD P f [argV a1,argV a2] [] fun r' H'=>r'=r a1 a2∧H'=S a1 a2):EntH P :=
  ⟨f,fun vs H=>match vs with
    | [x1,x2]=>guardR ((decA (α:=α) H x1).1∧(decA (α:=β) H x2).1) (peekR (c (decA (α:=α) H x1).2 (decA (α:=β) H x2).2) (r (decA (α:=α) H x1).2 (decA (α:=β) H x2).2) (S (decA (α:=α) H x1).2 (decA (α:=β) H x2).2) H)
    | _=>.bad,by
    intro vs H k hk
    split at hk
    · rw [guardR_holds] at hk
      obtain ⟨hc,hk⟩:=hk
      refine peekR_ok hk ?_ (h _ _)
      intro X w φ xs hs hv
      obtain ⟨_,_,rfl,hv1,⟨_,_,rfl,hv2,hvn⟩⟩:=hv
      have:_=[]:=hvn
      subst this
      exact ⟨_,_,rfl,decA_ok hc.1 hs hv1,⟨_,_,rfl,decA_ok hc.2 hs hv2,rfl⟩⟩
    · exact hk.elim,true,by
    intro _ vs H k hk
    split at hk
    · rw [guardR_holds] at hk
      obtain ⟨hc,hk⟩:=hk
      unfold peekR at hk
      rw [guardR_holds] at hk
      refine ⟨_,_,fun k' hk'=>?_,hk.2⟩
      rw [guardR_holds]
      unfold peekR
      rw [guardR_holds]
      exact ⟨hc,hk.1,hk'⟩
    · exact hk.elim⟩
noncomputable def EntH.pk3 (f:FuncId) (c:α→β→γ→Prop) (r:α→β→γ→V) (S:α→β→γ→Heap) (h:∀ a1 a2 a3,c a1 a2 a3→CallsD P f [argV a1,argV a2,argV a3] [] fun r' H'=>r'=r a1 a2 a3∧H'=S a1 a2 a3):EntH P :=
  ⟨f,fun vs H=>match vs with
    | [x1,x2,x3]=>guardR ((decA (α:=α) H x1).1∧(decA (α:=β) H x2).1∧(decA (α:=γ) H x3).1) (peekR (c (decA (α:=α) H x1).2 (decA (α:=β) H x2).2 (decA (α:=γ) H x3).2) (r (decA (α:=α) H x1).2 (decA (α:=β) H x2).2 (decA (α:=γ) H x3).2) (S (decA (α:=α) H x1).2 (decA (α:=β) H x2).2 (decA (α:=γ) H x3).2) H)
    | _=>.bad,by
    intro vs H k hk
    split at hk
    · rw [guardR_holds] at hk
      obtain ⟨hc,hk⟩:=hk
      refine peekR_ok hk ?_ (h _ _ _)
      intro X w φ xs hs hv
      obtain ⟨_,_,rfl,hv1,⟨_,_,rfl,hv2,⟨_,_,rfl,hv3,hvn⟩⟩⟩:=hv
      have:_=[]:=hvn
      subst this
      exact ⟨_,_,rfl,decA_ok hc.1 hs hv1,⟨_,_,rfl,decA_ok hc.2.1 hs hv2,⟨_,_,rfl,decA_ok hc.2.2 hs hv3,rfl⟩⟩⟩
    · exact hk.elim,true,by
    intro _ vs H k hk
    split at hk
    · rw [guardR_holds] at hk
      obtain ⟨hc,hk⟩:=hk
      unfold peekR at hk
      rw [guardR_holds] at hk
      refine ⟨_,_,fun k' hk'=>?_,hk.2⟩
      rw [guardR_holds]
      unfold peekR
      rw [guardR_holds]
      exact ⟨hc,hk.1,hk'⟩
    · exact hk.elim⟩
end

structure Clo1 (fn:Nat) (α:Type) where
  c:α
instance {fn:Nat} {α:Type} [Inhabited α]:Inhabited (Clo1 fn α):=⟨⟨default⟩⟩
class One (α:Type) [Enc α]:Prop where
  size:Enc.size α=1
  agg:Enc.agg α=false
instance:One Int:=⟨rfl,rfl⟩
instance:One Bool:=⟨rfl,rfl⟩
instance:One ByteArray:=⟨rfl,rfl⟩
instance {α:Type} [Enc α] [Inhabited α]:One (List α):=⟨rfl,rfl⟩
instance {α:Type} [Enc α]:One (Ptr α):=⟨rfl,rfl⟩
@[reducible] instance encClo1 {fn:Nat} {α:Type} [Enc α]:Enc (Clo1 fn α) where
  size:=1
  agg:=false
  cells p _:=.clo fn 1 (Enc.cells p.c)
  good p:=Enc.good p.c
  un f:=match f 0 with | .clo _ _ g=>⟨Enc.un g⟩ | _=>⟨Enc.un fun _=>.undef⟩
  un_of a f h:=by
    rw [h 0 (by omega)]
    simp only []
    rw [Enc.un_of a.c _ fun j hj=>rfl]
instance {fn:Nat} {α:Type} [Enc α]:Shaped (Clo1 fn α):=⟨fun _=>rfl⟩
@[reducible] instance decClo1 {fn:Nat} {α:Type} [Enc α] [One α] [Dec α] [Inhabited α]:Dec (Clo1 fn α) where
  dec H l:=match l with
    | [.clo f [x]]=>(f=fn∧(Dec.dec (α:=α) H [x]).1,⟨(Dec.dec (α:=α) H [x]).2⟩)
    | _=>(False,default)
  ok H l h X w φ xs hs hv:=by
    split at h
    · rename_i f x
      obtain ⟨rfl,hd⟩:=h
      obtain ⟨v,vs',rfl,h2,h3⟩:=hv
      have:vs'=[]:=h3
      subst this
      refine ⟨rfl,fun j u hu=>?_⟩
      match j,hu with
      | 0,hu =>
        simp at hu
        subst hu
        obtain ⟨cs,rfl,y,ys,e,g1,g2⟩:=h2
        have:ys=[]:=g2
        subst this
        have q:=Dec.ok (α:=α) H _ hd X w φ [y] hs ⟨y,[],rfl,g1,rfl⟩
        have ecs:cs=#[y]:=by apply Array.ext';rw [e]
        subst ecs
        refine ⟨_,rfl,rfl,fun j hj=>?_⟩
        have:j=0:=by omega
        subst this
        exact ⟨y,rfl,q.2 0 y rfl⟩
    · exact h.elim
@[simp] theorem dec_clo1 {fn f:Nat} {α:Type} [Enc α] [One α] [Dec α] [Inhabited α] {H:Heap} {x:V}:Dec.dec (α:=Clo1 fn α) H [.clo f [x]]=(f=fn∧(Dec.dec (α:=α) H [x]).1,⟨(Dec.dec (α:=α) H [x]).2⟩):=rfl
structure KInt (k:IntKind) where
  v:Int
instance {k:IntKind}:Inhabited (KInt k):=⟨⟨0⟩⟩
@[reducible] instance encK {k:IntKind}:Enc (KInt k) where
  size:=1
  agg:=false
  cells n _:=.int k n.v
  good n:=True
  un f:=match f 0 with | .int _ n=>⟨n⟩ | _=>⟨0⟩
  un_of a f h:=by rw [h 0 (by omega)]
instance {k:IntKind}:Shaped (KInt k):=⟨fun _=>rfl⟩
instance {k:IntKind}:One (KInt k):=⟨rfl,rfl⟩
@[reducible] instance decK {k:IntKind}:Dec (KInt k) where
  dec _ l:=match l with | [.d (.int k' n)]=>(k'=k,⟨n⟩) | _=>(False,⟨0⟩)
  ok H l h X w φ xs hs hv:=by
    split at h
    · simp only [] at h
      subst h
      obtain ⟨v,vs',rfl,h2,h3⟩:=hv
      have:vs'=[]:=h3
      subst this
      refine ⟨rfl,fun j u hu=>?_⟩
      match j,hu with
      | 0,hu=>simp at hu;subst hu;exact h2
    · exact h.elim
@[simp] theorem dec_k {k k':IntKind} {n:Int} {H:Heap}:Dec.dec (α:=KInt k) H [.d (.int k' n)]=(k'=k,⟨n⟩):=rfl
@[simp] theorem agg_k {k:IntKind}:Enc.agg (KInt k)=false:=rfl
@[simp] theorem size_k {k:IntKind}:Enc.size (KInt k)=1:=rfl
section
variable {α:Type} [Enc α]
@[simp] theorem agg_int:Enc.agg Int=false:=rfl
@[simp] theorem agg_bool:Enc.agg Bool=false:=rfl
@[simp] theorem agg_str:Enc.agg ByteArray=false:=rfl
@[simp] theorem agg_list [Inhabited α]:Enc.agg (List α)=false:=rfl
@[simp] theorem agg_ptr:Enc.agg (Ptr α)=false:=rfl
@[simp] theorem agg_clo {fn:Nat}:Enc.agg (Clo1 fn α)=false:=rfl
@[simp] theorem size_int:Enc.size Int=1:=rfl
@[simp] theorem size_bool:Enc.size Bool=1:=rfl
@[simp] theorem size_str:Enc.size ByteArray=1:=rfl
@[simp] theorem size_list [Inhabited α]:Enc.size (List α)=1:=rfl
@[simp] theorem size_ptr:Enc.size (Ptr α)=1:=rfl
@[simp] theorem size_clo {fn:Nat}:Enc.size (Clo1 fn α)=1:=rfl
end
def loopsIn:Code→List Code
  | .seq a b=>loopsIn a++loopsIn b
  | .cond _ a b=>loopsIn a++loopsIn b
  | .block _ c=>loopsIn c
  | .loop c=>.loop c :: loopsIn c
  | _=>[]
end Go.Proofs.YtcgekblpbheikaaGreatDoor
end

section
/- The abstract machine,part 27: places under new numbers: at a loop's head,and where a call hands places back. No condition. -/
namespace Go.Proofs.YtcgekblpbheikaaGreatDoor
set_option linter.unusedVariables false
set_option linter.unusedSimpArgs false

mutual
def V.ren (σ:List Nat):V→V
  | .d x=>.d x
  | .ptr id e i j=>.ptr (σ.getD id 0) e i j
  | .sl id e off n=>.sl (σ.getD id 0) e off n
  | .agg l=>.agg (renL σ l)
  | .tup l=>.tup (renL σ l)
  | .clo f l=>.clo f (renL σ l)
def renL (σ:List Nat):List V→List V
  | []=>[]
  | c :: l=>c.ren σ :: renL σ l
end
def Place.ren (σ:List Nat):Place→Place
  | .dead=>.dead
  | .row e es=>.row e (es.map (renL σ))
def placesR (σ:List Nat) (H0:Heap):List Nat→Heap→Prop
  | [],H=>H=[]
  | i :: τ,H=>match H with
    | p :: H=>(H0[i]? = some (p.ren σ)∧placeBelow σ.length p=true)∧placesR σ H0 τ H
    | []=>False
def envR (σ:List Nat) (env:Env):List (Nat × V)→Prop
  | []=>True
  | (k,v) :: l=>(env k=v.ren σ∧v.under σ.length=true)∧envR σ env l
def pickφ (φ:List (Nat × Nat)) (σ:List Nat):List (Nat × Nat):=σ.map fun i=>φ.getD i (0,0)

theorem renL_get (σ:List Nat):∀ (l:List V) (j:Nat),(renL σ l)[j]? = (l[j]?).map (V.ren σ)
  | [],j=>by simp [renL]
  | c :: l,0=>by simp [renL]
  | c :: l,j + 1=>by simpa [renL] using renL_get σ l j
theorem renL_length (σ:List Nat):∀ (l:List V),(renL σ l).length=l.length
  | []=>rfl
  | c :: l=>by simp [renL,renL_length σ l]
theorem ren_one (σ:List Nat) (c:V):(c.ren σ).one=c.one:=by
  cases c <;> simp [V.ren,V.one]
theorem pickφ_get {φ:List (Nat × Nat)} {σ:List Nat} {id:Nat} {x:Nat × Nat} (h:id < σ.length) (hx:φ[σ.getD id 0]? = some x):(pickφ φ σ)[id]? = some x:=by
  unfold pickφ
  rw [List.getElem?_map,List.getElem?_eq_getElem h]
  have:σ.getD id 0=σ[id]:=by rw [List.getD_eq_getElem?_getD,List.getElem?_eq_getElem h];rfl
  rw [this] at hx
  simp [hx]
mutual
theorem ren_back {w:World} {own:Nat→Prop} {φ:List (Nat × Nat)} {σ:List Nat}:∀ (c:V) (v:Value),c.under σ.length=true→VS w own φ (c.ren σ) v→VS w own (pickφ φ σ) c v
  | .d x,v,_,h=>h
  | .ptr id e i j,v,hb,h=>by
    obtain ⟨g,o,h1,h2⟩:=h
    exact ⟨g,o,pickφ_get (by simpa [V.under] using hb) h1,h2⟩
  | .sl id e off m,v,hb,h=>by
    obtain ⟨g,o,A,cap,h1,h2⟩:=h
    exact ⟨g,o,A,cap,pickφ_get (by simpa [V.under] using hb) h1,h2⟩
  | .agg l,v,hb,h=>by
    obtain ⟨cs,h1,h2⟩:=h
    exact ⟨cs,h1,renL_back l _ (by simpa [V.under] using hb) h2⟩
  | .tup l,v,hb,h=>by
    obtain ⟨cs,h1,h2⟩:=h
    exact ⟨cs,h1,renL_back l _ (by simpa [V.under] using hb) h2⟩
  | .clo f l,v,hb,h=>by
    obtain ⟨cs,h1,h2⟩:=h
    exact ⟨cs,h1,renL_back l _ (by simpa [V.under] using hb) h2⟩
theorem renL_back {w:World} {own:Nat→Prop} {φ:List (Nat × Nat)} {σ:List Nat}:∀ (l:List V) (vs:List Value),belowL σ.length l=true→VSs w own φ (renL σ l) vs→VSs w own (pickφ φ σ) l vs
  | [],vs,_,h=>h
  | c :: l,vs,hb,h=>by
    simp only [belowL,Bool.and_eq_true] at hb
    obtain ⟨v,vs',h1,h2,h3⟩:=h
    exact ⟨v,vs',h1,ren_back c v hb.1 h2,renL_back l vs' hb.2 h3⟩
end
theorem placesR_get {σ:List Nat} {H0:Heap}:∀ {τ:List Nat} {H:Heap},placesR σ H0 τ H→∀ {i:Nat} {p:Place},H[i]? = some p→∃ k,τ[i]? = some k∧H0[k]? = some (p.ren σ)∧placeBelow σ.length p=true
  | [],H,h,i,p,hp=>by
    have:H=[]:=h
    subst this
    simp at hp
  | k :: τ,[],h,i,p,hp=>by simp at hp
  | k :: τ,q :: H,h,0,p,hp=>by
    simp at hp
    subst hp
    exact ⟨k,rfl,h.1.1,h.1.2⟩
  | k :: τ,q :: H,h,i + 1,p,hp=>by
    obtain ⟨k',h1,h2⟩:=placesR_get h.2 (i:=i) (p:=p) (by simpa using hp)
    exact ⟨k',by simpa using h1,h2⟩

def okσ (n0:Nat) (σ:List Nat) (n:Nat):Bool:=σ.length == n && decide σ.Nodup && decide (n0≤n) && (σ.take n0 == List.range n0)

theorem HS.ren {X:Nat→Prop} {w:World} {φ:List (Nat × Nat)} {H0 H:Heap} (hs:HS X w φ H0) {n0:Nat} {σ:List Nat} (hσ:okσ n0 σ H.length=true) (hp:placesR σ H0 σ H) :
    HS X w (pickφ φ σ) H∧(∀ g,ownOf (pickφ φ σ) H g→ownOf φ H0 g)∧(∀ id,id < n0→id < φ.length→(pickφ φ σ)[id]? = φ[id]?):=by
  simp only [okσ,Bool.and_eq_true,beq_iff_eq,decide_eq_true_eq] at hσ
  obtain ⟨⟨⟨hlen,hnd⟩,hn0⟩,htk⟩:=hσ
  have get:∀ {id:Nat} {e:Nat} {es:List (List V)},H[id]? = some (.row e es)→∃ k,σ[id]? = some k∧H0[k]? = some (.row e (es.map (renL σ)))∧placeBelow σ.length (.row e es)=true:=fun h=>placesR_get hp h
  have φget:∀ {id k:Nat} {x:Nat × Nat},σ[id]? = some k→k < φ.length→(pickφ φ σ)[id]? = some x→φ[k]? = some x:=by
    intro id k x h1 h2 h3
    unfold pickφ at h3
    rw [List.getElem?_map,h1] at h3
    simp only [Option.map_some,Option.some.injEq] at h3
    rw [List.getD_eq_getElem?_getD,List.getElem?_eq_getElem h2] at h3
    rw [List.getElem?_eq_getElem h2]
    exact congrArg some h3
  have klt:∀ {k e:Nat} {es:List (List V)},H0[k]? = some (.row e es)→k < φ.length:=fun h=>by
    rw [hs.len];exact (List.getElem?_eq_some_iff.1 h).1
  have hown:∀ g,ownOf (pickφ φ σ) H g→ownOf φ H0 g:=by
    rintro g ⟨id,e,es,o,h1,h2⟩
    obtain ⟨k,q1,q2,_⟩:=get h1
    exact ⟨k,e,_,o,q2,φget q1 (klt q2) h2⟩
  have less:∀ {c:V} {v:Value},VS w (owned X φ H0) φ c v→VS w (owned X (pickφ φ σ) H) φ c v:=fun hv =>
    VS.keeps (fun b _ hn=>⟨rfl,fun h'=>hn (h'.imp (fun q=>q) (hown b))⟩) (Sizes.refl w) (Ext.refl φ) _ _ hv
  refine ⟨⟨by simp [pickφ,hlen], ?_,fun g hg=>hs.disj g (hown g hg), ?_⟩,hown, ?_⟩
  · intro i j e es e' es' g o o' hi hj hgi hgj
    obtain ⟨k,q1,q2,_⟩:=get hi
    obtain ⟨k',q1',q2',_⟩:=get hj
    have:=hs.inj k k' _ _ _ _ g o o' q2 q2' (φget q1 (klt q2) hgi) (φget q1' (klt q2') hgj)
    subst this
    have hi1:=(List.getElem?_eq_some_iff.1 q1)
    have hj1:=(List.getElem?_eq_some_iff.1 q1')
    obtain ⟨a1,a2⟩:=hi1
    obtain ⟨b1,b2⟩:=hj1
    exact (List.getElem_inj hnd).1 (a2.trans b2.symm)
  · intro id e es hid
    obtain ⟨k,q1,q2,q3⟩:=get hid
    obtain ⟨g,o,cs,t,r1,r2,r3,r4⟩:=hs.live k e _ q2
    have hlt:=(List.getElem?_eq_some_iff.1 q1).1
    have hk:σ.getD id 0=k:=by rw [List.getD_eq_getElem?_getD,q1];rfl
    refine ⟨g,o,cs,t,pickφ_get hlt (by rw [hk];exact r1),r2,by simpa using r3,fun i l hl=>?_⟩
    have hl':(es.map (renL σ))[i]? = some (renL σ l):=by rw [List.getElem?_map,hl];rfl
    obtain ⟨p1,p2⟩:=r4 i _ hl'
    refine ⟨by rw [renL_length] at p1;exact p1,fun j c hc=>?_⟩
    have hc':(renL σ l)[j]? = some (c.ren σ):=by rw [renL_get,hc];rfl
    obtain ⟨p3,y,p4,p5⟩:=p2 j _ hc'
    rw [ren_one] at p3
    refine ⟨p3,y,p4,ren_back c y ?_ (less p5)⟩
    simp only [placeBelow,List.all_eq_true] at q3
    exact q3 l (List.mem_of_getElem? hl) c (List.mem_of_getElem? hc)
  · intro id h1 h2
    have:σ[id]? = some id:=by
      have h3:(σ.take n0)[id]? = (List.range n0)[id]?:=by rw [htk]
      rw [List.getElem?_take,if_pos h1] at h3
      rw [h3]
      simp [h1]
    unfold pickφ
    rw [List.getElem?_map,this]
    simp only [Option.map_some]
    rw [List.getD_eq_getElem?_getD,List.getElem?_eq_getElem h2]
    rfl

def IntoS (n0:Nat) (σ:List Nat) (s:St) (l:List (Nat × V)) (H:Heap):Prop:=okσ n0 σ H.length=true∧placesR σ s.H σ H∧envR σ s.env l
theorem envR_mk {σ:List Nat} {env:Env}:∀ (l:List (Nat × V)),envR σ env l→∀ t,mk l t=.d .undef∨(env t=(mk l t).ren σ∧(mk l t).under σ.length=true)
  | [],_,t=>.inl rfl
  | (k,v) :: l,h,t=>by
    simp only [envR] at h
    simp only [mk_cons]
    split
    · rename_i e
      subst e
      exact .inr h.1
    · exact envR_mk l h.2 t
theorem IntoS.weak {n0:Nat} {σ:List Nat} {s:St} {l:List (Nat × V)} {H:Heap} (h:IntoS n0 σ s l H):Weak n0 s ⟨mk l,H⟩:=by
  intro x N φ a w hx hs
  obtain ⟨h1,h2,h3⟩:=h
  obtain ⟨r1,r2,r3⟩:=hs.hs.ren h1 h2
  have hn0:n0≤H.length:=by
    simp only [okσ,Bool.and_eq_true,decide_eq_true_eq] at h1
    exact h1.1.2
  refine ⟨pickφ φ σ,⟨r1,fun t=>?_,hs.low,hs.defers,hs.size,hs.fr,fun g hg ho=>hs.old g hg (r2 g ho), ?_,by show x.H0.length≤H.length;rw [hx];exact hn0,hs.len0⟩⟩
  · show VS w (owned x.X (pickφ φ σ) H) (pickφ φ σ) (mk l t) _
    rcases envR_mk l h3 t with q | ⟨q,hb⟩
    · rw [q];simp [VS,DS]
    · refine ren_back _ _ hb ?_
      rw [← q]
      exact VS.keeps (fun b _ hn=>⟨rfl,fun h'=>hn (h'.imp (fun q=>q) (r2 b))⟩) (Sizes.refl w) (Ext.refl φ) _ _ (hs.env t)
  · intro id hid
    rw [hs.len0,hx] at hid
    have hlong:=hs.long
    rw [hx] at hlong
    rw [r3 id hid (by rw [hs.hs.len];omega)]
    exact hs.ext id (by rw [hs.len0,hx];exact hid)

theorem W_loopS {P:Program} {N n0:Nat} {c:Code} {Q:Exit→St→Prop} {s:St} {α:Type} (E:α→List (Nat × V)) (Hp:α→Heap) (Inv:α→Prop) (μ:α→Nat) (a0:α) (σ:List Nat)
    (h0:IntoS n0 σ s (E a0) (Hp a0)) (hI:Inv a0)
    (round:∀ a,Inv a→W P N n0 c (seqQ (fun s'=>∃ b,Inv b∧μ b < μ a∧∃ σ,IntoS n0 σ s' (E b) (Hp b)) Q) ⟨mk (E a),Hp a⟩):W P N n0 (.loop c) Q s:=by
  refine W_weak h0.weak (W_loop (fun n s=>∃ a,μ a=n∧Inv a∧s=⟨mk (E a),Hp a⟩) (μ a0) ⟨a0,rfl,hI,rfl⟩ ?_)
  rintro n s ⟨a,rfl,hI,rfl⟩
  refine W_mono (round a hI) ?_
  intro e s' hq
  cases e with
  | normal =>
    obtain ⟨b,hb,hlt,σ,hi⟩:=hq
    exact ⟨μ b,_,hlt,hi.weak,b,rfl,hb,rfl⟩
  | _=>exact hq

theorem Fin.ren {n0:Nat} {H0 H:Heap} {r0 r:V} (σ:List Nat) (h1:okσ n0 σ H.length=true) (h2:placesR σ H0 σ H) (h3:r0=r.ren σ) (h4:r.under σ.length=true) (h5:n0≤H0.length):Fin n0 H0 r0 H r:=by
  intro X w φ v hs hv
  subst h3
  obtain ⟨r1,r2,r3⟩:=hs.ren h1 h2
  have hn0:n0≤H.length:=by
    simp only [okσ,Bool.and_eq_true,decide_eq_true_eq] at h1
    exact h1.1.2
  refine ⟨pickφ φ σ,r1, ?_,fun id hid=>r3 id hid (by rw [hs.len];omega),hn0,r2⟩
  exact ren_back _ _ h4 (VS.keeps (fun b _ hn=>⟨rfl,fun h'=>hn (h'.imp (fun q=>q) (r2 b))⟩) (Sizes.refl w) (Ext.refl φ) _ _ hv)
attribute [simp] V.ren renL Place.ren placesR envR IntoS okσ
end Go.Proofs.YtcgekblpbheikaaGreatDoor
end

section
/- The abstract machine,part 28: places that are given up become closed data,at a loop's head. No condition. -/
namespace Go.Proofs.YtcgekblpbheikaaGreatDoor
set_option linter.unusedVariables false
set_option linter.unusedSimpArgs false

def closeK (K:List Nat) (H:Heap):Nat→V→D
  | _,.d x=>x
  | 0,_=>.undef
  | f + 1,.sl id e off n=>if id∈K then .undef else match H[id]? with
    | some (.row e' es)=>if e'=e∧off + n≤es.length then .ro e n fun i j=>closeK K H f (((es[off + i]?).getD [])[j]?.getD (.d .undef)) else .undef
    | _=>.undef
  | f + 1,.ptr id e i j=>if id∈K then .undef else match H[id]? with
    | some (.row e' es)=>if e'=e∧i < es.length then .rp (e - j) fun m=>closeK K H f (((es[i]?).getD [])[j + m]?.getD (.d .undef)) else .undef
    | _=>.undef
  | f + 1,.clo fn l=>.clo fn l.length fun j=>closeK K H f ((l[j]?).getD (.d .undef))
  | _ + 1,_=>.undef
theorem closeK_spec {K : List Nat} {X : Nat → Prop} {w : World} {φ : List (Nat × Nat)} {H : Heap} (hs : HS X w φ H) {own' : Nat → Prop}
    (hown:∀ g,own' g→X g∨∃ id e es o,id∈K∧H[id]? = some (.row e es)∧φ[id]? = some (g,o)):∀ (f:Nat) (c:V) (v:Value),VS w (owned X φ H) φ c v→DS w own' (closeK K H f c) v:=by
  have less:∀ {d:D} {v:Value},DS w (owned X φ H) d v→DS w own' d v:=fun h=>DS.keeps (fun b _ hn=>⟨rfl,fun hx=>hn ((hown b hx).imp (fun q=>q) fun ⟨id,e,es,o,_,h2,h3⟩=>⟨id,e,es,o,h2,h3⟩)⟩) _ _ h
  have free:∀ {id e:Nat} {es:List (List V)} {g o:Nat},¬ id∈K→H[id]? = some (.row e es)→φ[id]? = some (g,o)→¬ own' g:=by
    intro id e es g o hk hid hφ hx
    rcases hown g hx with hx | ⟨id',e',es',o',h1,h2,h3⟩
    · exact hs.disj g ⟨id,e,es,o,hid,hφ⟩ hx
    · exact hk ((hs.inj id id' _ _ _ _ g o o' hid h2 hφ h3) ▸ h1)
  intro f
  induction f with
  | zero =>
    intro c v hv
    cases c with
    | d x=>simp only [closeK];simp only [VS] at hv;exact less hv
    | _=>simp only [closeK,DS]
  | succ f ih =>
    intro c v hv
    cases c with
    | d x=>simp only [closeK];simp only [VS] at hv;exact less hv
    | sl id e off n =>
      simp only [VS] at hv
      obtain ⟨g,o,A,cap,hφ,rfl,hcap,hA,hroom⟩:=hv
      simp only [closeK]
      split
      · simp only [DS]
      rename_i hk
      split
      · rename_i e' es hid
        split
        · rename_i hc
          obtain ⟨rfl,hlen⟩:=hc
          obtain ⟨g',o',cs,t,h1,h2,h3,h4⟩:=hs.live id _ es hid
          rw [hφ] at h1
          obtain ⟨rfl,rfl⟩:=Prod.mk.inj (Option.some.inj h1)
          simp only [DS]
          refine ⟨_,_,rfl,hcap,fun i j hi hj=>⟨A,rfl, ?_, ?_⟩⟩
          · rw [hA.resolve_left (by omega)]
            exact free hk hid hφ
          · have hlt:off + i < es.length:=by omega
            obtain ⟨r1,r2⟩:=h4 (off + i) es[off + i] (List.getElem?_eq_getElem hlt)
            have hj':j < es[off + i].length:=by omega
            obtain ⟨_,y,hy,hyv⟩:=r2 j _ (List.getElem?_eq_getElem hj')
            refine ⟨y, ?_, ?_⟩
            · rw [hA.resolve_left (by omega),add_plain',cell_of_row w g _ cs t _ h2,← hy]
              congr 1
              rw [Nat.add_mul]
              omega
            · have:=ih _ _ hyv
              simpa [hlt,hj'] using this
        · simp only [DS]
      · simp only [DS]
    | ptr id e i j =>
      simp only [VS] at hv
      obtain ⟨g,o,hφ,rfl⟩:=hv
      simp only [closeK]
      split
      · simp only [DS]
      rename_i hk
      split
      · rename_i e' es hid
        split
        · rename_i hc
          obtain ⟨rfl,hlen⟩:=hc
          obtain ⟨g',o',cs,t,h1,h2,h3,h4⟩:=hs.live id _ es hid
          rw [hφ] at h1
          obtain ⟨rfl,rfl⟩:=Prod.mk.inj (Option.some.inj h1)
          simp only [DS]
          refine ⟨_,rfl,fun m hm=>⟨free hk hid hφ, ?_⟩⟩
          obtain ⟨r1,r2⟩:=h4 i es[i] (List.getElem?_eq_getElem hlen)
          have hj':j + m < es[i].length:=by omega
          obtain ⟨_,y,hy,hyv⟩:=r2 (j + m) _ (List.getElem?_eq_getElem hj')
          refine ⟨y, ?_, ?_⟩
          · rw [add_plain',cell_of_row w g _ cs t _ h2,← hy]
            congr 1
            omega
          · have:=ih _ _ hyv
            simpa [hlen,hj'] using this
        · simp only [DS]
      · simp only [DS]
    | clo fn l =>
      simp only [VS] at hv
      obtain ⟨cs,rfl,hv⟩:=hv
      have hl:=VSs.length _ _ hv
      simp only [closeK,DS]
      refine ⟨cs,rfl,by simpa using hl.symm,fun j hj=>?_⟩
      obtain ⟨y,h1,h2⟩:=VSs.get _ _ hv j l[j] (List.getElem?_eq_getElem hj)
      refine ⟨y,by simpa using h1, ?_⟩
      have:=ih _ _ h2
      simpa [hj] using this
    | _=>simp only [closeK,DS]

def fits (σ:List Nat) (H0:Heap) (v0 v:V):Prop :=
  match v with
  | .d d=>DLe (closeK σ H0 4 v0) d
  | v=>v0=v.ren σ
def fitsL (σ:List Nat) (H0:Heap):List V→List V→Prop
  | [],l=>l=[]
  | a :: l0,l=>match l with
    | b :: l=>(fits σ H0 a b∧b.one=true)∧fitsL σ H0 l0 l
    | []=>False
def fitsR (σ:List Nat) (H0:Heap) (es0 es:List (List V)):Prop :=
  es0=es.map (renL σ)∨(es0.length=es.length∧∀ i,i < es.length→fitsL σ H0 (es0[i]?.getD []) (es[i]?.getD []))
def fitsP (σ:List Nat) (H0:Heap) (p0:Option Place) (p:Place):Prop :=
  match p,p0 with
  | .row e es,some (.row e0 es0)=>e0=e∧fitsR σ H0 es0 es
  | .dead,some _=>True
  | _,_=>False
def placesF (σ:List Nat) (H0:Heap):List Nat→Heap→Prop
  | [],H=>H=[]
  | i :: τ,H=>match H with
    | p :: H=>(fitsP σ H0 (H0[i]?) p∧placeBelow σ.length p=true)∧placesF σ H0 τ H
    | []=>False
def envF (σ:List Nat) (H0:Heap) (env:Env):List (Nat × V)→Prop
  | []=>True
  | (k,v) :: l=>(fits σ H0 (env k) v∧v.under σ.length=true)∧envF σ H0 env l
def IntoF (n0:Nat) (σ:List Nat) (s:St) (l:List (Nat × V)) (H:Heap):Prop:=okσ n0 σ H.length=true∧placesF σ s.H σ H∧envF σ s.H s.env l

theorem fitsP_row {σ:List Nat} {H0:Heap} {p0:Option Place} {e:Nat} {es:List (List V)} (h:fitsP σ H0 p0 (.row e es)):∃ es0,p0=some (.row e es0)∧fitsR σ H0 es0 es:=by
  cases p0 with
  | none=>exact h.elim
  | some p=>cases p with
    | dead=>exact h.elim
    | row e0 es0=>obtain ⟨rfl,h⟩:=h;exact ⟨es0,rfl,h⟩
theorem placesF_get {σ:List Nat} {H0:Heap}:∀ {τ:List Nat} {H:Heap},placesF σ H0 τ H→∀ {i:Nat} {p:Place},H[i]? = some p→∃ k,τ[i]? = some k∧fitsP σ H0 (H0[k]?) p∧placeBelow σ.length p=true
  | [],H,h,i,p,hp=>by
    have:H=[]:=h
    subst this
    simp at hp
  | k :: τ,[],h,i,p,hp=>by simp at hp
  | k :: τ,q :: H,h,0,p,hp=>by
    simp at hp
    subst hp
    exact ⟨k,rfl,h.1.1,h.1.2⟩
  | k :: τ,q :: H,h,i + 1,p,hp=>by
    obtain ⟨k',h1,h2⟩:=placesF_get h.2 (i:=i) (p:=p) (by simpa using hp)
    exact ⟨k',by simpa using h1,h2⟩
theorem fitsL_get {σ:List Nat} {H0:Heap}:∀ {l0 l:List V},fitsL σ H0 l0 l→l0.length=l.length∧∀ {j:Nat} {c:V},l[j]? = some c→∃ c0,l0[j]? = some c0∧fits σ H0 c0 c∧c.one=true
  | [],l,h=>by
    have:l=[]:=h
    subst this
    exact ⟨rfl,fun hc=>by simp at hc⟩
  | a :: l0,[],h=>h.elim
  | a :: l0, b :: l, h => by
    obtain ⟨h1,h2⟩:=fitsL_get h.2
    refine ⟨by simp [h1],fun {j c} hc=>?_⟩
    cases j with
    | zero=>simp at hc;subst hc;exact ⟨a,rfl,h.1.1,h.1.2⟩
    | succ j =>
      obtain ⟨c0,q1,q2⟩:=h2 (j:=j) (c:=c) (by simpa using hc)
      exact ⟨c0,by simpa using q1,q2⟩
theorem envF_mk {σ:List Nat} {H0:Heap} {env:Env}:∀ (l:List (Nat × V)),envF σ H0 env l→∀ t,mk l t=.d .undef∨(fits σ H0 (env t) (mk l t)∧(mk l t).under σ.length=true)
  | [],_,t=>.inl rfl
  | (k,v) :: l,h,t=>by
    simp only [envF] at h
    simp only [mk_cons]
    split
    · rename_i e
      subst e
      exact .inr h.1
    · exact envF_mk l h.2 t

section
variable {X:Nat→Prop} {w:World} {φ:List (Nat × Nat)} {H0 H:Heap} {n0:Nat} {σ:List Nat}
theorem own_fit (hs:HS X w φ H0) (hp:placesF σ H0 σ H):∀ g,ownOf (pickφ φ σ) H g→∃ id e es o,id∈σ∧H0[id]? = some (.row e es)∧φ[id]? = some (g,o):=by
  rintro g ⟨id,e,es,o,h1,h2⟩
  obtain ⟨k,q1,q2,_⟩:=placesF_get hp h1
  obtain ⟨es0,hk,_⟩:=fitsP_row q2
  · have hlt:k < φ.length:=by rw [hs.len];exact (List.getElem?_eq_some_iff.1 hk).1
    unfold pickφ at h2
    rw [List.getElem?_map,q1] at h2
    simp only [Option.map_some,Option.some.injEq] at h2
    rw [List.getD_eq_getElem?_getD,List.getElem?_eq_getElem hlt] at h2
    exact ⟨k,_,_,o,List.mem_of_getElem? q1,hk,by rw [List.getElem?_eq_getElem hlt];exact congrArg some h2⟩
theorem fits_spec (hs:HS X w φ H0) (hp:placesF σ H0 σ H) {v0 v:V} {x:Value} (hf:fits σ H0 v0 v) (hu:v.under σ.length=true) (hv:VS w (owned X φ H0) φ v0 x):VS w (owned X (pickφ φ σ) H) (pickφ φ σ) v x:=by
  have hown:∀ g,owned X (pickφ φ σ) H g→X g∨∃ id e es o,id∈σ∧H0[id]? = some (.row e es)∧φ[id]? = some (g,o):=fun g hg=>hg.imp (fun q=>q) (own_fit hs hp g)
  have same:∀ (v:V),v0=v.ren σ→v.under σ.length=true→VS w (owned X (pickφ φ σ) H) (pickφ φ σ) v x:=by
    intro v e hu
    subst e
    refine ren_back _ _ hu (VS.keeps (fun b _ hn=>⟨rfl,fun h'=>hn ?_⟩) (Sizes.refl w) (Ext.refl φ) _ _ hv)
    exact (hown b h').imp (fun q=>q) fun ⟨id,e,es,o,_,h2,h3⟩=>⟨id,e,es,o,h2,h3⟩
  unfold fits at hf
  split at hf
  · rename_i d
    simp only [VS]
    exact DS.le _ _ _ hf (closeK_spec hs hown 4 v0 x hv)
  · exact same _ hf hu
theorem HS.fit (hs:HS X w φ H0) (hσ:okσ n0 σ H.length=true) (hp:placesF σ H0 σ H) :
    HS X w (pickφ φ σ) H∧(∀ g,ownOf (pickφ φ σ) H g→ownOf φ H0 g)∧(∀ id,id < n0→id < φ.length→(pickφ φ σ)[id]? = φ[id]?):=by
  simp only [okσ,Bool.and_eq_true,beq_iff_eq,decide_eq_true_eq] at hσ
  obtain ⟨⟨⟨hlen,hnd⟩,hn0⟩,htk⟩:=hσ
  have get:∀ {id:Nat} {e:Nat} {es:List (List V)},H[id]? = some (.row e es)→∃ k es0,σ[id]? = some k∧H0[k]? = some (.row e es0)∧fitsR σ H0 es0 es∧placeBelow σ.length (.row e es)=true:=by
    intro id e es h
    obtain ⟨k,q1,q2,q3⟩:=placesF_get hp h
    obtain ⟨es0,hk,q2⟩:=fitsP_row q2
    exact ⟨k,es0,q1,hk,q2,q3⟩
  have φget:∀ {id k:Nat} {x:Nat × Nat},σ[id]? = some k→k < φ.length→(pickφ φ σ)[id]? = some x→φ[k]? = some x:=by
    intro id k x h1 h2 h3
    unfold pickφ at h3
    rw [List.getElem?_map,h1] at h3
    simp only [Option.map_some,Option.some.injEq] at h3
    rw [List.getD_eq_getElem?_getD,List.getElem?_eq_getElem h2] at h3
    rw [List.getElem?_eq_getElem h2]
    exact congrArg some h3
  have klt:∀ {k e:Nat} {es:List (List V)},H0[k]? = some (.row e es)→k < φ.length:=fun h=>by
    rw [hs.len];exact (List.getElem?_eq_some_iff.1 h).1
  have hown:∀ g,ownOf (pickφ φ σ) H g→ownOf φ H0 g:=fun g hg=>by
    obtain ⟨id,e,es,o,_,h2,h3⟩:=own_fit hs hp g hg
    exact ⟨id,e,es,o,h2,h3⟩
  refine ⟨⟨by simp [pickφ,hlen], ?_,fun g hg=>hs.disj g (hown g hg), ?_⟩,hown, ?_⟩
  · intro i j e es e' es' g o o' hi hj hgi hgj
    obtain ⟨k,_,q1,q2,_⟩:=get hi
    obtain ⟨k',_,q1',q2',_⟩:=get hj
    have:=hs.inj k k' _ _ _ _ g o o' q2 q2' (φget q1 (klt q2) hgi) (φget q1' (klt q2') hgj)
    subst this
    obtain ⟨a1,a2⟩:=List.getElem?_eq_some_iff.1 q1
    obtain ⟨b1,b2⟩:=List.getElem?_eq_some_iff.1 q1'
    exact (List.getElem_inj hnd).1 (a2.trans b2.symm)
  · intro id e es hid
    obtain ⟨k,es0,q1,q2,q4,q3⟩:=get hid
    obtain ⟨g,o,cs,t,r1,r2,r3,r4⟩:=hs.live k e _ q2
    have hlt:=(List.getElem?_eq_some_iff.1 q1).1
    have hk:σ.getD id 0=k:=by rw [List.getD_eq_getElem?_getD,q1];rfl
    simp only [placeBelow,List.all_eq_true] at q3
    rcases q4 with rfl | ⟨hle,q4⟩
    · refine ⟨g,o,cs,t,pickφ_get hlt (by rw [hk];exact r1),r2,by simpa using r3,fun i l hl=>?_⟩
      have hl':(es.map (renL σ))[i]? = some (renL σ l):=by rw [List.getElem?_map,hl];rfl
      obtain ⟨p1,p2⟩:=r4 i _ hl'
      refine ⟨by rw [renL_length] at p1;exact p1,fun j c hc=>?_⟩
      have hc':(renL σ l)[j]? = some (c.ren σ):=by rw [renL_get,hc];rfl
      obtain ⟨p3,y,p4,p5⟩:=p2 j _ hc'
      rw [ren_one] at p3
      have hu:=q3 l (List.mem_of_getElem? hl) c (List.mem_of_getElem? hc)
      refine ⟨p3,y,p4,ren_back c y hu (VS.keeps (fun b _ hn=>⟨rfl,fun h'=>hn (h'.imp (fun q=>q) (hown b))⟩) (Sizes.refl w) (Ext.refl φ) _ _ p5)⟩
    · refine ⟨g,o,cs,t,pickφ_get hlt (by rw [hk];exact r1),r2,by rw [← hle];exact r3,fun i l hl=>?_⟩
      have hi:=(List.getElem?_eq_some_iff.1 hl).1
      have q5:=q4 i hi
      rw [hl,Option.getD_some] at q5
      have hi0:i < es0.length:=by omega
      rw [List.getElem?_eq_getElem hi0,Option.getD_some] at q5
      obtain ⟨p1,p2⟩:=r4 i _ (List.getElem?_eq_getElem hi0)
      obtain ⟨m1,m2⟩:=fitsL_get q5
      refine ⟨by rw [← m1];exact p1,fun j c hc=>?_⟩
      obtain ⟨c0,z1,z2,z3⟩:=m2 hc
      obtain ⟨_,y,p4,p5⟩:=p2 j _ z1
      exact ⟨z3,y,p4,fits_spec hs hp z2 (q3 l (List.mem_of_getElem? hl) c (List.mem_of_getElem? hc)) p5⟩
  · intro id h1 h2
    have:σ[id]? = some id:=by
      have h3:(σ.take n0)[id]? = (List.range n0)[id]?:=by rw [htk]
      rw [List.getElem?_take,if_pos h1] at h3
      rw [h3]
      simp [h1]
    unfold pickφ
    rw [List.getElem?_map,this]
    simp only [Option.map_some]
    rw [List.getD_eq_getElem?_getD,List.getElem?_eq_getElem h2]
    rfl
end

theorem IntoF.weak {n0:Nat} {σ:List Nat} {s:St} {l:List (Nat × V)} {H:Heap} (h:IntoF n0 σ s l H):Weak n0 s ⟨mk l,H⟩:=by
  intro x N φ a w hx hs
  obtain ⟨h1,h2,h3⟩:=h
  obtain ⟨r1,r2,r3⟩:=hs.hs.fit h1 h2
  have hn0:n0≤H.length:=by
    simp only [okσ,Bool.and_eq_true,decide_eq_true_eq] at h1
    exact h1.1.2
  refine ⟨pickφ φ σ,⟨r1,fun t=>?_,hs.low,hs.defers,hs.size,hs.fr,fun g hg ho=>hs.old g hg (r2 g ho), ?_,by show x.H0.length≤H.length;rw [hx];exact hn0,hs.len0⟩⟩
  · show VS w (owned x.X (pickφ φ σ) H) (pickφ φ σ) (mk l t) _
    rcases envF_mk l h3 t with q | ⟨q,hb⟩
    · rw [q];simp [VS,DS]
    · exact fits_spec hs.hs h2 q hb (hs.env t)
  · intro id hid
    rw [hs.len0,hx] at hid
    have hlong:=hs.long
    rw [hx] at hlong
    rw [r3 id hid (by rw [hs.hs.len];omega)]
    exact hs.ext id (by rw [hs.len0,hx];exact hid)

attribute [simp] fits fitsL fitsP placesF envF IntoF
end Go.Proofs.YtcgekblpbheikaaGreatDoor
end

section
/- The abstract machine,part 29: a loop of which the rounds are walked one by one. No condition. -/
namespace Go.Proofs.YtcgekblpbheikaaGreatDoor
set_option linter.unusedVariables false
set_option linter.unusedSimpArgs false

@[simp] theorem closeK_d {K:List Nat} {H:Heap} {f:Nat} {x:D}:closeK K H f (.d x)=x:=by cases f <;> rfl
@[simp 1500] theorem elR_map {α:Type} [Inhabited α] {l:List α} {f:α→List V} {i e e' j size:Nat} {agg:Bool} {H:Heap}:elR (l.map f) i e e' j size agg H =
    guardR (i < l.length∧e'=e∧j + size≤e∧(agg=true∨size=1)) (.ok (asVal agg (((f (l[i]?.getD default)).drop j).take size)) H):=by
  unfold elR
  refine guardR_congr (by simp) fun h=>?_
  have h1:i < l.length:=by simpa using h.1
  rw [List.getElem?_map,List.getElem?_eq_getElem h1]
  rfl
@[simp 1500] theorem setR_map {α:Type} [Inhabited α] {l:List α} {f:α→List V} {id i e e' j size:Nat} {l':List V} {H:Heap}:setR (l.map f) id i e e' j size l' H =
    guardR (i < l.length∧e'=e∧l'.length=size∧j + size≤e∧ones l'=true) (.ok (.tup []) (H.set id (.row e ((l.map f).set i (setMany (f (l[i]?.getD default)) j l'))))):=by
  unfold setR
  refine guardR_congr (by simp) fun h=>?_
  have h1:i < l.length:=by simpa using h.1
  rw [List.getElem?_map,List.getElem?_eq_getElem h1]
  rfl
end Go.Proofs.YtcgekblpbheikaaGreatDoor
end

section
/- The abstract machine,part 30: calls that work in the caller's places: places that are left behind are dropped at the end. No condition. -/
namespace Go.Proofs.YtcgekblpbheikaaGreatDoor
set_option linter.unusedVariables false
set_option linter.unusedSimpArgs false

mutual
theorem V.ren_id {n:Nat}:∀ (c:V),c.under n=true→c.ren (List.range n)=c
  | .d x,_=>rfl
  | .ptr id e i j,h=>by
    have:id < n:=by simpa [V.under] using h
    simp [V.ren,this]
  | .sl id e off m,h=>by
    have:id < n:=by simpa [V.under] using h
    simp [V.ren,this]
  | .agg l,h=>by simp only [V.ren];rw [renL_id l (by simpa [V.under] using h)]
  | .tup l,h=>by simp only [V.ren];rw [renL_id l (by simpa [V.under] using h)]
  | .clo f l,h=>by simp only [V.ren];rw [renL_id l (by simpa [V.under] using h)]
theorem renL_id {n:Nat}:∀ (l:List V),belowL n l=true→renL (List.range n) l=l
  | [],_=>rfl
  | c :: l,h=>by
    simp only [belowL,Bool.and_eq_true] at h
    simp only [renL]
    rw [V.ren_id c h.1,renL_id l h.2]
end
theorem belowL_all {n:Nat}:∀ {l:List V},l.all (V.under n)=true→belowL n l=true
  | [],_=>rfl
  | c :: l,h=>by
    simp only [List.all_cons,Bool.and_eq_true] at h
    simp only [belowL,Bool.and_eq_true]
    exact ⟨h.1,belowL_all h.2⟩
theorem Place.ren_id {n:Nat}:∀ (p:Place),placeBelow n p=true→p.ren (List.range n)=p
  | .dead,_=>rfl
  | .row e es,h=>by
    simp only [placeBelow,List.all_eq_true] at h
    simp only [Place.ren]
    congr 1
    have:∀ l∈es,renL (List.range n) l=l:=fun l hl=>renL_id l (belowL_all (List.all_eq_true.2 (h l hl)))
    rw [List.map_congr_left this,List.map_id']
theorem placesR_id {n:Nat} {H0:Heap}:∀ (k:Nat) (H:Heap),(∀ i p,H[i]? = some p→H0[k + i]? = some p∧placeBelow n p=true)→placesR (List.range n) H0 (List.range' k H.length) H
  | k,[],_=>rfl
  | k,p :: H,h=>by
    have h0:=h 0 p rfl
    simp only [List.length_cons,List.range'_succ,placesR,List.length_range]
    refine ⟨⟨by rw [Place.ren_id p h0.2];exact h0.1,h0.2⟩,placesR_id (k + 1) H fun i q hq=>?_⟩
    have:=h (i + 1) q (by simpa using hq)
    rw [show k + 1 + i=k + (i + 1) by omega]
    exact this
theorem Fin.drop {n0:Nat} {H0 H:Heap} {r:V} (hH:H0.take H.length=H) (hb:placesBelow H.length H) (hr:r.under H.length=true) (hn:n0≤H.length):Fin n0 H0 r H r:=by
  have hle:H.length≤H0.length:=by
    have:=congrArg List.length hH
    rw [List.length_take] at this
    omega
  have hp:placesR (List.range H.length) H0 (List.range H.length) H:=by
    have:=placesR_id (n:=H.length) (H0:=H0) 0 H fun i p hi=>by
      have hlt:=(List.getElem?_eq_some_iff.1 hi).1
      refine ⟨?_,placesBelow_get hb hi⟩
      have e:=congrArg (fun l=>l[i]?) hH
      simp only [List.getElem?_take,if_pos hlt] at e
      rw [Nat.zero_add,e,hi]
    rw [List.range_eq_range']
    rw [List.range_eq_range'] at this
    exact this
  refine Fin.ren (List.range H.length) ?_ hp (V.ren_id r hr).symm (by rw [List.length_range];exact hr) (by omega)
  simp only [okσ,Bool.and_eq_true,beq_iff_eq,decide_eq_true_eq,List.length_range]
  refine ⟨⟨⟨trivial,List.nodup_range⟩,hn⟩, ?_⟩
  rw [List.take_range,Nat.min_eq_left hn]
end Go.Proofs.YtcgekblpbheikaaGreatDoor
end

section
/- The abstract machine,part 31: a region that draws its order and stores into one place alone,while its loads look elsewhere. No condition. -/
namespace Go.Proofs.YtcgekblpbheikaaGreatDoor
set_option linter.unusedVariables false
set_option linter.unusedSimpArgs false

def away (i0:Nat):V→Bool
  | .ptr id ..=>id != i0
  | _=>true
def onIt (i0:Nat):V→Bool
  | .ptr id ..=>id == i0
  | _=>false
def sideA (i0:Nat) (env:Env):Op→Prop
  | .load _ a=>away i0 (ev env a)=true
  | .store _ a _=>onIt i0 (ev env a)=true
  | _=>True
inductive ClA where
  | pure
  | get
  | put
  | no
  deriving DecidableEq
def opA (P:Program) (Γ:Table) (own:List FuncId) (i0:Nat) (env:Env) (H:Heap) (o:Op) (k:V→Heap→Prop):Prop:=sideA i0 env o∧opT P Γ own env H o k
def stepA (P:Program) (Γ:Table) (own:List FuncId) (i0:Nat) (all:List (Option Nat)) (o:SOp) (env:Env) (H:Heap) (K:Env→Heap→Prop):Prop :=
  match o.guard with
  | none=>opA P Γ own i0 env H o.op fun v H'=>K (updO env o.dst v) H'
  | some _=>False
def opsA (P:Program) (Γ:Table) (own:List FuncId) (i0:Nat) (all:List (Option Nat)):List SOp→Env→Heap→(Env→Heap→Prop)→Prop
  | [],env,H,k=>k env H
  | o :: rest,env,H,k=>stepA P Γ own i0 all o env H fun e h=>opsA P Γ own i0 all rest e h k
section
variable {P:Program} {Γ:Table} {own:List FuncId} {i0:Nat} {all:List (Option Nat)}
end
section
variable {P:Program} {Γ:Table} {own:List FuncId} {x:Ctx} {N i0:Nat}
end
attribute [simp] away onIt sideA opA stepA opsA
end Go.Proofs.YtcgekblpbheikaaGreatDoor
end
