/- The abstract machine: drawn regions with any number of operations whose order tells, one of them a call told by a relation. No condition. -/
import Derived.Test.YthafdegfjadijaaGreatQE9
namespace Go.Proofs.YthafdegfjadijaaGreat
set_option linter.unusedVariables false
set_option linter.unusedSimpArgs false
section
variable {P:Program} {Γ:Table} {own:List FuncId} {all:List (Option Nat)} {x:Ctx} {N:Nat} {gd:FuncId} {n1:Nat}
def isDem (gd:FuncId) (y:SOp):Bool:=match y.guard,y.op with
  | none,.call c=>(match c.callee with | .value (.func g)=>g == gd | _=>false)
  | _,_=>false
def opArgs:Op→List Operand
  | .call c=>c.args.toList
  | _=>[]
def demT (P:Program) (gd:FuncId) (y:SOp) (env:Env) (H:Heap) (K:Env→Heap→Prop):Prop :=
  CallsD P gd ((opArgs y.op).map (ev env)) H fun r H'=>(∃ R,H'=H++R)∧K (updO env y.dst r) H'
def oldS (n1:Nat) (env:Env):Op→Prop
  | .load _ p=>(match ev env p with | .ptr id _ _ _=>id < n1 | _=>True)
  | _=>True
def newS (n1:Nat) (env:Env):Op→Prop
  | .store _ p _=>(match ev env p with | .ptr id _ _ _=>n1≤id | _=>False)
  | .call c=>(match c.args.toList with
    | s :: _=>(match ev env s with | .sl id _ _ _=>n1≤id | _=>True)
    | []=>True)
  | _=>False
def isSt (y:SOp):Bool:=match y.guard,y.op with
  | none,.store ..=>true
  | none,.call c=>(match c.callee with | .builtin .append=>true | _=>false)
  | _,_=>false
def stepDm (P:Program) (Γ:Table) (own:List FuncId) (all:List (Option Nat)) (gd:FuncId) (n1:Nat) (y:SOp) (env:Env) (H:Heap) (K:Env→Heap→Prop):Prop :=
  if isDem gd y=true then demT P gd y env H K else stepT P Γ own all y env H K∧(isSt y=true→newS n1 env y.op)
def stepN (P:Program) (Γ:Table) (own:List FuncId) (all:List (Option Nat)) (n1:Nat) (z:SOp) (env:Env) (H:Heap) (K:Env→Heap→Prop):Prop:=oldS n1 env z.op∧stepT P Γ own all z env H K
def opsN (P:Program) (Γ:Table) (own:List FuncId) (all:List (Option Nat)) (n1:Nat):List SOp→Env→Heap→(Env→Heap→Prop)→Prop
  | [],env,H,k=>k env H
  | o :: rest,env,H,k=>stepN P Γ own all n1 o env H fun e h=>opsN P Γ own all n1 rest e h k
theorem isDem_spec {y:SOp} (h:isDem gd y=true):y.guard=none∧∃ c,y.op=.call c∧c.callee=.value (.func gd):=by
  unfold isDem at h
  split at h
  · rename_i hg ho
    split at h
    · rename_i g hc
      have:g=gd:=by simpa using h
      subst this
      exact ⟨hg,_,ho,hc⟩
    · cases h
  · cases h
theorem stepDm_T (hd:∀ vs,Γ gd vs=none) (ho:ownCallee own (.value (.func gd))=true) (hg:growCallee own (.value (.func gd))=false) {y:SOp} {env:Env} {H:Heap} {K:Env→Heap→Prop} (h:stepDm P Γ own all gd n1 y env H K):stepT P Γ own all y env H K:=by
  unfold stepDm at h
  split at h
  · rename_i q
    obtain ⟨e1,c,e2,e3⟩:=isDem_spec q
    unfold demT at h
    rw [e2] at h
    unfold stepT
    rw [e1]
    simp only [e2,opT]
    rw [e3,if_neg (by rw [hg];decide),if_pos ho]
    unfold callD
    rw [e3]
    simp only [ev,goD]
    have hu:(upto 0 fun j=>V.d D.undef)=[]:=rfl
    first
      | (rw [List.append_nil,hd];exact h.mono fun r H' q=>q.2)
      | (simp only [upto,List.append_nil,hd];exact h.mono fun r H' q=>q.2)
  · exact h.1
def isLd:Op→Bool
  | .load ..=>true
  | _=>false
def indepE (own:List FuncId) (gd:FuncId) (all:List (Option Nat)) (z y:SOp):Bool :=
  (match clOf own z.op with | .pure=>true | .read=>true | _=>false) && (z.guard.isNone || !isLd z.op) && bif isDem gd y || isSt y then apartB all z y else indepB own all z y
theorem clOf_ld {o:Op} (h:clOf own o=.read):isLd o=true:=by
  cases o
  case call c =>
    simp only [clOf] at h
    split at h
    · cases h
    · split at h <;> cases h
  all_goals first | rfl | (simp only [clOf] at h;cases h)
theorem oldS_env {env env':Env} {z:SOp} (h:∀ t∈looks all z,env' t=env t) (q:oldS n1 env z.op):oldS n1 env' z.op:=by
  revert q
  cases e:z.op
  case load t p =>
    have:=looks_ev (o:=z) h p (by rw [e];simp [Op.operands])
    simp only [oldS]
    rw [this];exact id
  all_goals exact fun _=>trivial
theorem yield_old {z : SOp} (hc : clOf own z.op = .pure ∨ clOf own z.op = .read) (hg : z.guard.isNone = true ∨ isLd z.op = false) {env : Env} {H : Heap} {K : Env → Heap → Prop} (ho : oldS n1 env z.op) (h : stepT P Γ own all z env H K) :
    ∃ v,K (updO env z.dst v) H∧∀ (env':Env) (H':Heap),(∀ t∈looks all z,env' t=env t)→(∀ i,i < n1→i < H.length→H'[i]? = H[i]?)→∀ K':Env→Heap→Prop,K' (updO env' z.dst v) H'→stepT P Γ own all z env' H' K':=by
  rcases hc with hc | hc
  · obtain ⟨v,h1,h2⟩:=yield_of (.inl hc) h
    exact ⟨v,h1,fun env' H' he _ K' hk=>h2 env' H' he (fun q=>by rw [hc] at q;cases q) K' hk⟩
  · have hl := clOf_ld hc
    have hgn:z.guard=none:=by
      rcases hg with q | q
      · exact Option.isNone_iff_eq_none.1 q
      · rw [hl] at q;cases q
    cases e:z.op
    case load t p =>
      have hev:∀ env',(∀ t∈looks all z,env' t=env t)→ev env' p=ev env p:=fun env' he=>looks_ev (o:=z) he p (by rw [e];simp [Op.operands])
      unfold stepT at h
      rw [hgn,e] at h
      simp only [opT,opD] at h
      rw [e] at ho
      simp only [oldS] at ho
      have fin:∀ (v:V),(∀ (env':Env) (H':Heap),(∀ t∈looks all z,env' t=env t)→(∀ i,i < n1→i < H.length→H'[i]? = H[i]?)→∀ k:V→Prop,k v→loadD (tinfo P t) (ev env' p) H' k)→∀ (env':Env) (H':Heap),(∀ t∈looks all z,env' t=env t)→(∀ i,i < n1→i < H.length→H'[i]? = H[i]?)→∀ K':Env→Heap→Prop,K' (updO env' z.dst v) H'→stepT P Γ own all z env' H' K':=by
        intro v hv env' H' he hh K' hk
        unfold stepT
        rw [hgn,e]
        simp only [opT,opD]
        exact hv env' H' he hh _ hk
      unfold loadD at h
      split at h
      · exact h.elim
      · rename_i ti hti
        split at h
        · rename_i n f hp
          refine ⟨_,h.2.2,fin _ fun env' H' he hh k hk=>?_⟩
          unfold loadD
          rw [hti,hev env' he,hp]
          exact ⟨h.1,h.2.1,hk⟩
        · rename_i id e1 i j hp
          rw [hp] at ho
          split at h
          · rename_i e2 es hr
            obtain ⟨q1,l,q2,q3,q4,q5⟩:=h
            refine ⟨_,q5,fin _ fun env' H' he hh k hk=>?_⟩
            unfold loadD
            rw [hti,hev env' he,hp]
            simp only []
            rw [hh id ho (List.getElem?_eq_some_iff.1 hr).1,hr]
            exact ⟨q1,l,q2,q3,q4,hk⟩
          · exact h.elim
        · exact h.elim
    all_goals rw [e] at hl;cases hl
theorem elemsD_mono {e:Nat} {x:V} {H:Heap} {F G:List (List V)→Prop} (h:elemsD e x H F) (hk:∀ n,F n→G n):elemsD e x H G:=by
  unfold elemsD at h ⊢
  split at h
  · refine ⟨h.1, ?_⟩
    have h:=h.2
    split at h
    · exact ⟨h.1,h.2.1,hk _ h.2.2⟩
    · exact h.elim
  · exact ⟨h.1,h.2.1,hk _ h.2.2⟩
  · exact hk _ h
  · exact h.elim
theorem store_new {y : SOp} (hy : isSt y = true) {env : Env} {H : Heap} {K : Env → Heap → Prop} (hn : newS n1 env y.op) (h : stepT P Γ own all y env H K) : stepT P Γ own all y env H fun e h => K e h ∧ ∀ i, i < n1 → i < H.length → h[i]? = H[i]? := by
  unfold isSt at hy
  split at hy
  · rename_i t p c hg ho
    unfold stepT at h ⊢
    rw [hg,ho] at h ⊢
    rw [ho] at hn
    simp only [newS] at hn
    simp only [opT,opD] at h ⊢
    unfold storeD at h ⊢
    split at h
    · exact h.elim
    · split at h
      · rename_i id e i j hp
        rw [hp] at hn
        split at h
        · obtain ⟨q1,l,q2,q3,q4,q5,q6⟩:=h
          exact ⟨q1,l,q2,q3,q4,q5,q6,fun i hi _=>List.getElem?_set_ne (by omega)⟩
        · exact h.elim
      · exact h.elim
  · rename_i c hg ho
    split at hy
    · rename_i hc
      unfold stepT at h ⊢
      rw [hg,ho] at h ⊢
      rw [ho] at hn
      simp only [newS] at hn
      simp only [opT] at h ⊢
      have e1:growCallee own c.callee=false:=by rw [hc];rfl
      have e2:ownCallee own c.callee=true:=by rw [hc];rfl
      rw [e1,e2,if_neg (by decide),if_pos rfl] at h ⊢
      unfold callD at h ⊢
      rw [hc] at h ⊢
      simp only [] at h ⊢
      split at h
      · rename_i s x t t' ha hta
        have hn2:(match ev env s with | .sl id _ _ _=>n1≤id | _=>True):=by rw [ha] at hn;exact hn
        obtain ⟨ht,h⟩:=h
        refine ⟨ht, ?_⟩
        unfold appendD at h ⊢
        split at h
        · split at h
          · rename_i te hte
            simp only [hte]
            refine ⟨h.1,elemsD_mono h.2 fun news h=>?_⟩
            split at h
            · rename_i id e off n hsv
              rw [hsv] at hn2
              simp only [] at hn2
              obtain ⟨h1,h⟩:=h
              refine ⟨h1, ?_⟩
              split at h
              · obtain ⟨h2,h3,h4,h5,h6⟩:=h
                exact ⟨h2,h3,h4,h5,h6,fun i hi hl=>by rw [List.getElem?_append_left (by simpa using hl),List.getElem?_set_ne (by omega)]⟩
              · exact h.elim
            · obtain ⟨h1,h2,h3⟩:=h
              exact ⟨h1,fun q=>⟨h2 q,fun i _ _=>trivial⟩,fun q=>⟨h3 q,fun i _ hl=>List.getElem?_append_left hl⟩⟩
            · exact h.elim
          · exact h.elim
        · exact h.elim
      · exact h.elim
    · cases hy
  · cases hy
theorem swapN {z y : SOp} (hi : indepE own gd all z y = true) {env : Env} {H : Heap} {K : Env → Heap → Prop} (h : stepN P Γ own all n1 z env H fun e h => stepDm P Γ own all gd n1 y e h K) :
    stepDm P Γ own all gd n1 y env H fun e h=>stepN P Γ own all n1 z e h K:=by
  simp only [indepE,Bool.and_eq_true] at hi
  obtain ⟨⟨b1,b2⟩,hi⟩:=hi
  have hc:clOf own z.op=.pure∨clOf own z.op=.read:=by
    revert b1
    cases clOf own z.op <;> simp
  have hgl:z.guard.isNone=true∨isLd z.op=false:=by simpa using b2
  have apart:apartB all z y=true→(∀ t∈looks all y,z.dst ≠ some t)∧(∀ x,z.dst=some x→y.dst ≠ some x)∧∀ t∈looks all z,y.dst ≠ some t:=by
    intro a0
    simp only [apartB,Bool.and_eq_true] at a0
    obtain ⟨a1,a2⟩:=a0
    refine ⟨fun t ht e=>?_,fun x e=>?_,fun t ht e=>?_⟩
    · rw [e] at a1
      simp at a1
      exact a1.1 ht
    · rw [e] at a1
      simp at a1
      exact a1.2
    · rw [e] at a2
      simp at a2
      exact a2 ht
  have ap:apartB all z y=true:=by
    cases q:(isDem gd y || isSt y) with
    | true=>rw [q] at hi;exact hi
    | false =>
      rw [q,cond_false] at hi
      simp only [indepB,Bool.and_eq_true] at hi
      exact hi.1
  obtain ⟨d1,d2,d3⟩:=apart ap
  obtain ⟨v,q1,q2⟩:=yield_old hc hgl h.1 h.2
  by_cases hy:isDem gd y=true
  · have eh:∀ e h K',stepDm P Γ own all gd n1 y e h K'=demT P gd y e h K':=fun e h K'=>by unfold stepDm;rw [if_pos hy]
    rw [eh] at q1 ⊢
    unfold demT at q1 ⊢
    obtain ⟨e1,c,e2,e3⟩:=isDem_spec hy
    have ea:(opArgs y.op).map (ev (updO env z.dst v))=(opArgs y.op).map (ev env):=by
      refine List.map_congr_left fun o ho=>?_
      refine looks_ev (o:=y) (fun t ht=>updO_ne (d1 t ht)) o ?_
      rw [e2] at ho ⊢
      simp only [Op.operands]
      simp only [opArgs] at ho
      simp [Call.operands,e3,ho]
      first | exact .inr ho | exact ho | skip
    rw [ea] at q1
    refine q1.mono fun r H' ⟨⟨R,hR⟩,hk⟩=>⟨⟨R,hR⟩,oldS_env (fun t ht=>updO_ne (d3 t ht)) h.1, ?_⟩
    refine q2 _ _ (fun t ht=>updO_ne (d3 t ht)) (fun i _ hi=>by rw [hR];exact List.getElem?_append_left hi) _ ?_
    rw [← updO_comm d2]
    exact hk
  · have ey:∀ e h K',stepDm P Γ own all gd n1 y e h K'=(stepT P Γ own all y e h K'∧(isSt y=true→newS n1 e y.op)):=fun e h K'=>by unfold stepDm;rw [if_neg hy]
    rw [ey] at q1 ⊢
    obtain ⟨q1,q3⟩:=q1
    have lz:∀ t∈looks all y,env t=updO env z.dst v t:=fun t ht=>(updO_ne (d1 t ht)).symm
    have q4:isSt y=true→newS n1 env y.op:=fun hs=>by
      have:=q3 hs
      revert this
      cases e:y.op
      case store t p c =>
        have hp:=looks_ev (o:=y) (all:=all) (fun t ht=>lz t ht) p (by rw [e];simp [Op.operands])
        simp only [newS]
        rw [hp];exact id
      case call c =>
        simp only [newS]
        cases ea:c.args.toList with
        | nil=>exact id
        | cons s l =>
          have hp:=looks_ev (o:=y) (all:=all) (fun t ht=>lz t ht) s (by rw [e];simp [Op.operands,Call.operands,ea])
          simp only []
          rw [hp];exact id
      all_goals exact fun q=>q.elim
    by_cases hs:isSt y=true
    · have h3:=store_new hs (q4 hs) (step_move (env:=env) lz q1)
      refine ⟨stepT_mono h3 ?_,q4⟩
      rintro e' h' ⟨⟨u,rfl,hk,_⟩,hh⟩
      refine ⟨oldS_env (fun t ht=>updO_ne (d3 t ht)) h.1,q2 _ _ (fun t ht=>updO_ne (d3 t ht)) (fun i hi hl=>hh i hi hl) _ ?_⟩
      rw [← updO_comm d2]
      exact hk
    · have hd0:(isDem gd y || isSt y)=false:=by
        cases e1:isDem gd y <;> cases e2:isSt y <;> simp_all
      rw [hd0,cond_false] at hi
      have hna:clOf own z.op=.read→clOf own y.op ≠ .any:=fun hr=>by
        simp only [indepB,Bool.and_eq_true] at hi
        have:=hi.2
        rw [hr] at this
        intro e
        rw [e] at this
        cases this
      refine ⟨?_,fun q=>absurd q hs⟩
      rcases hc with hcp | hcr
      · obtain ⟨v',p1,p2⟩:=yield_of (.inl hcp) h.2
        rw [ey] at p1
        have lz':∀ t∈looks all y,env t=updO env z.dst v' t:=fun t ht=>(updO_ne (d1 t ht)).symm
        refine stepT_mono (step_move (env:=env) lz' p1.1) ?_
        rintro e' h' ⟨u,rfl,hk,_⟩
        refine ⟨oldS_env (fun t ht=>updO_ne (d3 t ht)) h.1,p2 _ _ (fun t ht=>updO_ne (d3 t ht)) (fun q=>by rw [hcp] at q;cases q) _ ?_⟩
        rw [← updO_comm d2]
        exact hk
      · refine stepT_mono (step_move (env:=env) lz q1) ?_
        rintro e' h' ⟨u,rfl,hk,hl⟩
        obtain ⟨l,rfl⟩:=hl (hna hcr)
        refine ⟨oldS_env (fun t ht=>updO_ne (d3 t ht)) h.1,q2 _ _ (fun t ht=>updO_ne (d3 t ht)) (fun i _ hi=>List.getElem?_append_left hi) _ ?_⟩
        rw [← updO_comm d2]
        exact hk
theorem swapNN {z y:SOp} (hz:clOf own z.op=.pure∨clOf own z.op=.read) (hzg:z.guard.isNone=true∨isLd z.op=false) (hi:indepX own all z y=true) {env:Env} {H:Heap} {K:Env→Heap→Prop} (h:stepN P Γ own all n1 z env H fun e h=>stepN P Γ own all n1 y e h K) :
    oldS n1 env y.op∧stepT P Γ own all y env H fun e h=>stepN P Γ own all n1 z e h K:=by
  have ap:apartB all z y=true:=by
    simp only [indepX,indepB,Bool.or_eq_true,Bool.and_eq_true] at hi
    rcases hi with q | q
    · exact q.1
    · exact q.1
  simp only [apartB,Bool.and_eq_true] at ap
  obtain ⟨a1,a2⟩:=ap
  have d1:∀ t∈looks all y,z.dst ≠ some t:=by
    intro t ht e
    rw [e] at a1
    simp at a1
    exact a1.1 ht
  have d3:∀ t∈looks all z,y.dst ≠ some t:=by
    intro t ht e
    rw [e] at a2
    simp at a2
    exact a2 ht
  obtain ⟨v,q1,_⟩:=yield_old hz hzg h.1 h.2
  refine ⟨oldS_env (fun t ht=>(updO_ne (d1 t ht)).symm) q1.1, ?_⟩
  have h2:stepT P Γ own all z env H fun e h=>stepT P Γ own all y e h K:=stepT_mono h.2 fun e h q=>q.2
  refine stepT_mono (step_move (env:=env) (fun t _=>rfl) (swapX hi h2)) ?_
  rintro e' h' ⟨u,rfl,hk,_⟩
  exact ⟨oldS_env (fun t ht=>updO_ne (d3 t ht)) h.1,hk⟩
theorem bubbleN {y:SOp} {l2:List SOp} {k:Env→Heap→Prop}:∀ (l1:List SOp),(∀ z∈l1,(clOf own z.op=.pure∨clOf own z.op=.read)∧(z.guard.isNone=true∨isLd z.op=false)∧indepX own all z y=true)→∀ (env:Env) (H:Heap),opsN P Γ own all n1 (l1++y :: l2) env H k →
    oldS n1 env y.op∧stepT P Γ own all y env H fun e h=>opsN P Γ own all n1 (l1++l2) e h k
  | [],_,env,H,h=>h
  | z :: l1,hz,env,H,h=>by
    obtain ⟨z1,z2,z3⟩:=hz z List.mem_cons_self
    refine swapNN z1 z2 z3 ⟨h.1,stepT_mono h.2 fun e h' q=>?_⟩
    exact bubbleN l1 (fun z hm=>hz z (List.mem_cons_of_mem _ hm)) e h' q
theorem opsN_mono {k k':Env→Heap→Prop} (hk:∀ e h,k e h→k' e h):∀ (l:List SOp) (e:Env) (H:Heap),opsN P Γ own all n1 l e H k→opsN P Γ own all n1 l e H k'
  | [],e,H,h=>hk e H h
  | y :: l,e,H,h=>⟨h.1,stepT_mono h.2 fun e h q=>opsN_mono hk l e h q⟩
theorem opsN_T {k:Env→Heap→Prop}:∀ (l:List SOp) (e:Env) (H:Heap),opsN P Γ own all n1 l e H k→opsT P Γ own all l e H k
  | [],e,H,h=>h
  | y :: l,e,H,h=>stepT_mono h.2 fun e h q=>opsN_T l e h q
theorem opsN_of {k : Env → Heap → Prop} : ∀ (l : List SOp) (e : Env) (H : Heap), (∀ z ∈ l, (clOf own z.op = .pure ∨ clOf own z.op = .read) ∧ (z.guard.isNone = true ∨ isLd z.op = false)) → opsT P Γ own all l e H k → opsN P Γ own all H.length l e H k
  | [],e,H,_,h=>h
  | z :: l, e, H, hz, h => by
    obtain ⟨hc,hg⟩:=hz z List.mem_cons_self
    obtain ⟨v,q1,q2⟩:=yield_of hc h
    have ih:=opsN_of l _ _ (fun z hm=>hz z (List.mem_cons_of_mem _ hm)) q1
    refine ⟨?_,q2 e H (fun _ _=>rfl) (fun _=>⟨[],by simp⟩) _ ih⟩
    cases ez:z.op
    case load t p =>
      simp only [oldS]
      split
      · rename_i id e1 i j hp
        have hgn:z.guard=none:=by
          rcases hg with q | q
          · exact Option.isNone_iff_eq_none.1 q
          · rw [ez] at q;cases q
        unfold opsT stepT at h
        rw [hgn,ez] at h
        simp only [opT,opD,loadD] at h
        split at h
        · exact h.elim
        · rw [hp] at h
          simp only [] at h
          split at h
          · rename_i hr;exact (List.getElem?_eq_some_iff.1 hr).1
          · exact h.elim
      · trivial
    all_goals trivial
end
section
variable {P:Program} {Γ:Table} {own:List FuncId} {x:Ctx} {N:Nat} {gd:FuncId} {n1:Nat}
inductive OT where
  | leaf
  | nil
  | alt (m:Nat) (t rest:OT)
def OT.has (i:Nat):OT→Bool
  | .alt m _ r=>m == i || r.has i
  | _=>false
def covB (ops:Array Oper) (M:List Nat) (T:OT):Bool:=match T with
  | .leaf=>M.isEmpty
  | T=>!M.isEmpty && M.all fun i=>(M.any fun j=>j != i && reachB ops 5 i j) || T.has i
def okT (ops:Array Oper):List Nat→OT→Bool
  | _,.leaf=>true
  | _,.nil=>true
  | M,.alt m t r=>covB ops (M.erase m) t && okT ops (M.erase m) t && okT ops M r
def brE (P:Program) (Γ:Table) (own:List FuncId) (gd:FuncId) (n1:Nat) (ops:Array Oper) (k:Env→Heap→Prop):OT→Env→Heap→Prop
  | .leaf=>k
  | .nil=>fun _ _=>True
  | .alt m t r=>fun e h=>stepDm P Γ own (ops.toList.map (·.dst)) gd n1 (sop ops m) e h (brE P Γ own gd n1 ops k t)∧brE P Γ own gd n1 ops k r e h
theorem brE_has {ops:Array Oper} {k:Env→Heap→Prop} {i:Nat}:∀ (T:OT) (M:List Nat),T.has i=true→okT ops M T=true→∃ t,covB ops (M.erase i) t=true∧okT ops (M.erase i) t=true∧∀ e h,brE P Γ own gd n1 ops k T e h→stepDm P Γ own (ops.toList.map (·.dst)) gd n1 (sop ops i) e h (brE P Γ own gd n1 ops k t)
  | .leaf,_,h,_=>by cases h
  | .nil,_,h,_=>by cases h
  | .alt m t r,M,h,ho=>by
    simp only [OT.has,Bool.or_eq_true,beq_iff_eq] at h
    simp only [okT,Bool.and_eq_true] at ho
    rcases h with rfl | h
    · exact ⟨t,ho.1.1,ho.1.2,fun e h' q=>q.1⟩
    · obtain ⟨t',q1,q2,q3⟩:=brE_has r M h ho.2
      exact ⟨t',q1,q2,fun e h' q=>q3 e h' q.2⟩
theorem bubbleM {all:List (Option Nat)} {y:SOp} {K:Env→Heap→Prop}:∀ (l:List SOp),(∀ z∈l,indepE own gd all z y=true)→∀ (env:Env) (H:Heap),opsN P Γ own all n1 l env H (fun e h=>stepDm P Γ own all gd n1 y e h K)→stepDm P Γ own all gd n1 y env H fun e h=>opsN P Γ own all n1 l e h K
  | [],_,env,H,h=>h
  | z :: l,hz,env,H,h=>swapN (hz z List.mem_cons_self) ⟨h.1,stepT_mono h.2 fun e h' q=>bubbleM l (fun z hm=>hz z (List.mem_cons_of_mem _ hm)) e h' q⟩
theorem opsB_any (hΓ : Good P Γ) (hd : ∀ vs, Γ gd vs = none) (ho : ownCallee own (.value (.func gd)) = true) (hg : growCallee own (.value (.func gd)) = false) {ops : Array Oper} (hok : ∀ (i : Nat) (o : Oper), ops[i]? = some o → opOk N o = true) (hedge : ∀ (i : Nat) (o : Oper), ops[i]? = some o → ∀ e ∈ o.after, Region.binds .any e = true → e.on < i) {k : Env → Heap → Prop} {Q : Exit → Act → World → Prop}
    (hq:∀ env H φ a w,k env H→Sim x N ⟨env,H⟩ φ a w→Q .normal a w) {post:List Nat} (hpn:post.Nodup) (hpp:post.Pairwise (fun z y=>indepX own (ops.toList.map (·.dst)) (sop ops z) (sop ops y)=true∨reachB ops 5 y z=true)) :
    ∀ (fuel:Nat) (pre M:List Nat) (T:OT) (listed:Array Bool) (env:Env) (H:Heap) (φ:List (Nat × Nat)) (a:Act) (w:World),(pre++M++post).length≤fuel→(pre++M++post).Nodup→listed.size=ops.size→(∀ j,j∈pre++M++post→j < ops.size) →
      (∀ j,j < ops.size→(listed.getD j true=false ↔ j∈pre++M++post))→(∀ (j:Nat) (o:Oper),ops[j]? = some o→j ∉ pre++M++post→∀ e∈o.after,Region.binds .any e=true→e.on ∉ pre++M++post) →
      (pre++post).Pairwise (fun z y=>indepX own (ops.toList.map (·.dst)) (sop ops z) (sop ops y)=true∨reachB ops 5 y z=true)→(∀ z∈pre,∀ m∈M,indepE own gd (ops.toList.map (·.dst)) (sop ops z) (sop ops m)=true∨reachB ops 5 m z=true)→(∀ y∈post,∀ m∈M,reachB ops 5 y m=true)→(∀ z∈pre,(clOf own (sop ops z).op=.pure∨clOf own (sop ops z).op=.read)∧((sop ops z).guard.isNone=true∨isLd (sop ops z).op=false)) →
      covB ops M T=true→okT ops M T=true →
      opsN P Γ own (ops.toList.map (·.dst)) n1 (pre.map (sop ops)) env H (brE P Γ own gd n1 ops (fun e h=>opsT P Γ own (ops.toList.map (·.dst)) (post.map (sop ops)) e h k) T)→Sim x N ⟨env,H⟩ φ a w→wpAny P .any ops Q fuel listed a w:=by
  intro fuel
  induction fuel with
  | zero =>
    intro pre M T listed env H φ a w hlen hnd hsz hlt hiff hdown hp1 hp2 hp3 hp4 hcov hT h hs
    obtain ⟨rfl,rfl,rfl⟩:pre=[]∧M=[]∧post=[]:=by
      have:(pre++M++post)=[]:=List.eq_nil_of_length_eq_zero (by omega)
      simpa using this
    refine opsX_any (own:=own) hΓ hok hedge hq 0 [] listed env H φ a w (Nat.le_refl 0) List.nodup_nil hsz (by simp) hiff hdown .nil ?_ hs
    cases T with
    | leaf=>exact h
    | nil=>simp [covB] at hcov
    | alt m t r=>simp [covB] at hcov
  | succ fuel ih =>
    intro pre M T listed env H φ a w hlen hnd hsz hlt hiff hdown hp1 hp2 hp3 hp4 hcov hT h hs
    cases hM:M with
    | nil =>
      subst hM
      have hl0:pre++[]++post=pre++post:=by rw [List.append_nil]
      rw [hl0] at hlen hnd hlt hiff hdown
      refine opsX_any hΓ hok hedge hq (fuel + 1) (pre++post) listed env H φ a w hlen hnd hsz hlt hiff hdown hp1 ?_ hs
      rw [List.map_append]
      refine opsT_append _ _ env H ?_
      replace h:=opsN_T _ env H h
      cases T with
      | leaf=>exact h
      | nil=>simp [covB] at hcov
      | alt m t r=>simp [covB] at hcov
    | cons m0 M0 =>
      have hMne:M ≠ []:=by rw [hM];simp
      have notin:∀ j,listed.getD j false=true→j ∉ pre++M++post:=by
        intro j hj hm
        have h1:=hlt j hm
        have h2:=(hiff j h1).2 hm
        have h3:j < listed.size:=by omega
        simp [h3] at hj h2
        rw [h2] at hj
        cases hj
      refine ⟨fun hr=>?_,fun i hi=>?_⟩
      · exfalso
        obtain ⟨m,hm,hmin⟩:=least (pre++M++post) (by rw [hM];simp)
        have hml:=hlt m hm
        have:m∈Region.ready .any ops listed:=by
          refine mem_ready.2 ⟨(hiff m hml).2 hm,ops[m],Array.getElem?_eq_getElem hml,fun e he hbb=>?_⟩
          have h1:=hedge m _ (Array.getElem?_eq_getElem hml) e he hbb
          have h2:e.on ∉ pre++M++post:=fun hx=>by have:=hmin _ hx;omega
          have h3:listed.getD e.on true ≠ false:=fun hx=>h2 ((hiff e.on (by omega)).1 hx)
          have h4:e.on < listed.size:=by omega
          simp [h4] at h3 ⊢
          exact h3
        rw [hr] at this
        cases this
      · obtain ⟨h0,o,ho',hall⟩:=mem_ready.1 hi
        have hil:i < ops.size:=(Array.getElem?_eq_some_iff.1 ho').1
        have him:=(hiff i hil).1 h0
        have hready:∀ o',ops[i]? = some o'→∀ e∈o'.after,Region.binds .any e=true→e.on ∉ pre++M++post:=by
          intro o' ho2 e he hb
          rw [ho'] at ho2
          cases ho2
          exact notin _ (hall e he hb)
        have noreach:∀ z∈pre++M++post,¬ reachB ops 5 i z=true:=fun z hz hr=>reach_spec hdown 5 i hr hready hz
        rw [List.append_assoc] at him
        rcases List.mem_append.1 him with hip | him
        · -- an operation ahead of those whose order tells
          obtain ⟨l1,l2,rfl⟩:=List.append_of_mem hip
          have hz:∀ z∈l1,(clOf own (sop ops z).op=.pure∨clOf own (sop ops z).op=.read)∧((sop ops z).guard.isNone=true∨isLd (sop ops z).op=false)∧indepX own (ops.toList.map (·.dst)) (sop ops z) (sop ops i)=true:=fun z hz=>by
            refine ⟨(hp4 z (by simp [hz])).1,(hp4 z (by simp [hz])).2, ?_⟩
            rw [List.append_assoc] at hp1
            rcases (List.pairwise_append.1 hp1).2.2 z hz i (by simp) with q | q
            · exact q
            · exact absurd q (noreach z (by simp [hz]))
          rw [List.map_append,List.map_cons] at h
          have hb:=bubbleN (l1.map (sop ops)) (fun z hm=>by
            obtain ⟨z',hz',rfl⟩:=List.mem_map.1 hm
            exact hz z' hz') env H h
          refine stepT_wp hΓ ho' (hok i o ho') hs hb.2 ?_
          intro env' H' φ' a' w' hk hs'
          have hsub:(l1++l2++M++post).Sublist (l1++i :: l2++M++post):=by
            refine List.Sublist.append (List.Sublist.append (List.Sublist.append (List.Sublist.refl _) (List.sublist_cons_self _ _)) (List.Sublist.refl _)) (List.Sublist.refl _)
          have hni:i ∉ l1++l2++M++post:=by
            have h1:=hnd
            simp only [List.append_assoc,List.cons_append] at h1
            rw [List.nodup_append] at h1
            obtain ⟨_,h2,h3⟩:=h1
            rw [List.nodup_cons] at h2
            intro hx
            simp only [List.append_assoc] at hx
            rcases List.mem_append.1 hx with hx | hx
            · exact h3 i hx i (by simp) rfl
            · exact h2.1 hx
          have hl:∀ j,j∈l1++l2++M++post ↔ j∈l1++i :: l2++M++post∧j ≠ i:=fun j =>
            ⟨fun hj=>⟨hsub.subset hj,fun e=>hni (e ▸ hj)⟩,fun ⟨hj,hne⟩=>by
              simp only [List.mem_append,List.mem_cons] at hj ⊢
              rcases hj with ((h | h | h) | h) | h
              · exact .inl (.inl (.inl h))
              · exact absurd h hne
              · exact .inl (.inl (.inr h))
              · exact .inl (.inr h)
              · exact .inr h⟩
          refine ih (l1++l2) M T (listed.setIfInBounds i true) env' H' φ' a' w' (by simp at hlen ⊢;omega) (hnd.sublist hsub) (by simpa using hsz) (fun j hj=>hlt j (hsub.subset hj)) (listed_set hsz hil hl hiff) (down_set hl hdown hready)
            (hp1.sublist (List.Sublist.append (List.Sublist.append (List.Sublist.refl _) (List.sublist_cons_self _ _)) (List.Sublist.refl _))) (fun z hz m hm=>hp2 z (by simp only [List.mem_append,List.mem_cons] at hz ⊢;rcases hz with h | h;exact .inl h;exact .inr (.inr h)) m hm) hp3 (fun z hz=>hp4 z (by simp only [List.mem_append,List.mem_cons] at hz ⊢;rcases hz with h | h;exact .inl h;exact .inr (.inr h))) hcov hT (by rw [List.map_append];exact hk) hs'
        · rcases List.mem_append.1 him with him | hipo
          · -- one of those whose order tells
            have hmin:¬ (M.any fun j=>j != i && reachB ops 5 i j)=true:=fun q=>by
              obtain ⟨j,hj,q⟩:=List.any_eq_true.1 q
              rw [Bool.and_eq_true] at q
              exact noreach j (by simp [hj]) q.2
            have hhas:T.has i=true:=by
              cases T with
              | leaf=>simp [covB] at hcov;exact absurd hcov hMne
              | nil =>
                simp only [covB,Bool.and_eq_true,List.all_eq_true,Bool.or_eq_true] at hcov
                exact (hcov.2 i him).resolve_left hmin
              | alt m t r =>
                simp only [covB,Bool.and_eq_true,List.all_eq_true,Bool.or_eq_true] at hcov
                exact (hcov.2 i him).resolve_left hmin
            obtain ⟨t,c1,c2,c3⟩:=brE_has (P:=P) (Γ:=Γ) (own:=own) (gd:=gd) (n1:=n1) (k:=fun e h=>opsT P Γ own (ops.toList.map (·.dst)) (post.map (sop ops)) e h k) T M hhas hT
            have hz:∀ z∈pre,indepE own gd (ops.toList.map (·.dst)) (sop ops z) (sop ops i)=true:=fun z hz=>by
              rcases hp2 z hz i him with q | q
              · exact q
              · exact absurd q (noreach z (by simp [hz]))
            have hb:=bubbleM (pre.map (sop ops)) (by simpa using hz) env H (opsN_mono c3 _ env H h)
            refine stepT_wp hΓ ho' (hok i o ho') hs (stepDm_T hd ho hg hb) ?_
            intro env' H' φ' a' w' hk hs'
            have hMn:M.Nodup:=by
              rw [List.nodup_append,List.nodup_append] at hnd
              exact hnd.1.2.1
            have hme:∀ j,j∈M.erase i ↔ j∈M∧j ≠ i:=fun j=>by rw [hMn.mem_erase_iff];exact And.comm
            have hsub:(pre++M.erase i++post).Sublist (pre++M++post):=List.Sublist.append (List.Sublist.append (List.Sublist.refl _) List.erase_sublist) (List.Sublist.refl _)
            have hni1:i ∉ pre∧i ∉ post:=by
              rw [List.nodup_append,List.nodup_append] at hnd
              exact ⟨fun q=>hnd.1.2.2 i q i him rfl,fun q=>hnd.2.2 i (by simp [him]) i q rfl⟩
            have hl:∀ j,j∈pre++M.erase i++post ↔ j∈pre++M++post∧j ≠ i:=fun j=>by
              simp only [List.mem_append,hme]
              constructor
              · rintro ((h | h) | h)
                · exact ⟨.inl (.inl h),fun e=>hni1.1 (e ▸ h)⟩
                · exact ⟨.inl (.inr h.1),h.2⟩
                · exact ⟨.inr h,fun e=>hni1.2 (e ▸ h)⟩
              · rintro ⟨(h | h) | h,hne⟩
                · exact .inl (.inl h)
                · exact .inl (.inr ⟨h,hne⟩)
                · exact .inr h
            refine ih pre (M.erase i) t (listed.setIfInBounds i true) env' H' φ' a' w' ?_ (hnd.sublist hsub) (by simpa using hsz) (fun j hj=>hlt j (hsub.subset hj)) (listed_set hsz hil hl hiff) (down_set hl hdown hready) hp1 (fun z hz m hm=>hp2 z hz m ((hme m).1 hm).1) (fun y hy m hm=>hp3 y hy m ((hme m).1 hm).1) hp4 c1 c2 hk hs'
            have:=List.length_erase_of_mem him
            have hpos:0 < M.length:=List.length_pos_of_mem him
            simp only [List.length_append] at hlen ⊢
            omega
          · exfalso
            exact noreach m0 (by rw [hM];simp) (hp3 i hipo m0 (by rw [hM];simp))
end
def nQ (f:St→Prop):Exit→St→Prop
  | .normal,s=>f s
  | _,_=>False
theorem nQ_n {f:St→Prop} {s:St}:nQ f .normal s=f s:=rfl
attribute [simp] nQ_n
def demB {P:Program} (C:Cfg P) (R:List Nat) (ops:Array Oper) (gd:FuncId) (n1 m:Nat) (l:List SOp) (k:St→Prop) (s:St):Prop:=match l with
  | [y]=>bif isDem gd y then CallsD P gd ((opArgs y.op).map (ev s.env)) s.H (fun v H'=>(∃ X,H'=s.H++X)∧k ⟨keep R (updO s.env y.dst v),H'⟩)
      else (isSt y=true→newS n1 s.env y.op)∧den { C with K:=R } [.ops true (dstsOf (stripOps ops.toList)) [y]] (nQ k) .normal s
  | _=>False
def denB {P:Program} (C:Cfg P) (R:List Nat) (ops:Array Oper) (gd:FuncId) (n1:Nat) (post:List Nat) (Q:Exit→St→Prop):OT→St→Prop
  | .leaf,s=>den C [.ops true (dstsOf (stripOps ops.toList)) (pickOps (stripOps ops.toList) post)] Q .normal s
  | .nil,_=>True
  | .alt m t r,s=>demB C R ops gd n1 m (pickOps (stripOps ops.toList) [m]) (denB C R ops gd n1 post Q t) s∧denB C R ops gd n1 post Q r s
def OT.ms:OT→List Nat
  | .alt m t r=>m :: (t.ms++r.ms)
  | _=>[]
def pairs0 (own:List FuncId) (ops:Array Oper) (all:List (Option Nat)):List Nat→Bool
  | []=>true
  | z :: l=>(l.all fun y=>indepX own all (sop ops z) (sop ops y) || reachB ops 5 y z) && pairs0 own ops all l
theorem pairs0_spec {own:List FuncId} {ops:Array Oper} {all:List (Option Nat)}:∀ (l:List Nat),pairs0 own ops all l=true→l.Pairwise (fun z y=>indepX own all (sop ops z) (sop ops y)=true∨reachB ops 5 y z=true)
  | [],_=>.nil
  | z :: l,h=>by
    simp only [pairs0,Bool.and_eq_true,List.all_eq_true,Bool.or_eq_true] at h
    exact .cons (fun y hy=>h.1 y hy) (pairs0_spec l h.2)
def okDrawB (own:List FuncId) (gd:FuncId) (ops:Array Oper) (pre M post:List Nat) (T:OT) (K R:List Nat):Bool :=
  edgesOk ops.toList 0 && decide (pre++M++post).Nodup && (List.range ops.size).all (fun j=>(pre++M++post).contains j) && (pre++M++post).all (fun j=>decide (j < ops.size))
    && pairs0 own ops (ops.toList.map (·.dst)) (pre++post) && pre.all (fun z=>M.all fun m=>indepE own gd (ops.toList.map (·.dst)) (sop ops z) (sop ops m) || reachB ops 5 m z) && post.all (fun y=>M.all fun m=>reachB ops 5 y m)
    && covB ops M T && okT ops M T && K.all (fun t=>R.contains t) && (T.ms++post).all (fun y=>(looks (ops.toList.map (·.dst)) (sop ops y)).all fun t=>R.contains t)
    && ownCallee own (.value (.func gd)) && !growCallee own (.value (.func gd)) && pre.all (fun z=>(match clOf own (sop ops z).op with | .pure=>true | .read=>true | _=>false) && ((sop ops z).guard.isNone || !isLd (sop ops z).op))
theorem brE_den {P : Program} {C : Cfg P} {R : List Nat} {ops : Array Oper} {gd : FuncId} {n1 : Nat} {post : List Nat} {Q : Exit → St → Prop} (hK : ∀ t ∈ C.K, t ∈ R) (hpo : ∀ y ∈ post, ∀ t ∈ looks (ops.toList.map (·.dst)) (sop ops y), t ∈ R) :
    ∀ (T:OT) (e e1:Env) (H:Heap),agree R e e1→(∀ y∈T.ms,∀ t∈looks (ops.toList.map (·.dst)) (sop ops y),t∈R)→denB C R ops gd n1 post Q T ⟨e1,H⟩ →
      brE P (tabG C.l) C.own gd n1 ops (fun e h=>opsT P (tabG C.l) C.own (ops.toList.map (·.dst)) (post.map (sop ops)) e h fun e h=>Q .normal ⟨keep C.K e,h⟩) T e H
  | .leaf,e,e1,H,ha,_,h=>by
    simp only [denB] at h
    rw [den_eq] at h
    have:=opsR_T (C:=C) (k':=fun e h=>Q .normal ⟨keep C.K e,h⟩) (fun e h q=>q) _ _ _ h
    rw [dsts_spec,pick_strip] at this
    refine opsT_env (R:=R) (k1:=fun e h=>Q .normal ⟨keep C.K e,h⟩) (fun e e1 h ha q=>?_) _ e e1 H ha (fun y hy t ht=>?_) this
    · have:keep C.K e=keep C.K e1:=by
        funext t
        simp only [keep]
        split
        · rename_i ht;exact ha t (hK t ht)
        · rfl
      rw [this];exact q
    · obtain ⟨z,hz,rfl⟩:=List.mem_map.1 hy
      exact hpo z hz t ht
  | .nil,_,_,_,_,_,_=>trivial
  | .alt m t r,e,e1,H,ha,hm,h=>by
    simp only [denB] at h
    have hmt:∀ y∈t.ms,∀ u∈looks (ops.toList.map (·.dst)) (sop ops y),u∈R:=fun y hy=>hm y (by simp [OT.ms,hy])
    have hmr:∀ y∈r.ms,∀ u∈looks (ops.toList.map (·.dst)) (sop ops y),u∈R:=fun y hy=>hm y (by simp [OT.ms,hy])
    have hml:∀ u∈looks (ops.toList.map (·.dst)) (sop ops m),u∈R:=hm m (by simp [OT.ms])
    refine ⟨?_,brE_den hK hpo r e e1 H ha hmr h.2⟩
    have h1:=h.1
    rw [pick_strip] at h1
    simp only [List.map_cons,List.map_nil,demB] at h1
    unfold stepDm
    cases hdm:isDem gd (sop ops m) with
    | true =>
      rw [hdm,cond_true] at h1
      rw [if_pos rfl]
      unfold demT
      obtain ⟨g1,c,g2,g3⟩:=isDem_spec hdm
      have ea:(opArgs (sop ops m).op).map (ev e)=(opArgs (sop ops m).op).map (ev e1):=by
        refine List.map_congr_left fun o ho=>looks_ev (o:=sop ops m) (all:=ops.toList.map (·.dst)) (fun t ht=>ha t (hml t ht)) o ?_
        rw [g2] at ho ⊢
        simp only [Op.operands]
        simp only [opArgs] at ho
        simp [Call.operands,g3,ho]
        first | exact .inr ho | exact ho | skip
      rw [ea]
      refine CallsD.mono h1 fun v H' ⟨q1,q2⟩=>⟨q1,brE_den hK hpo t _ _ _ (fun u hu=>?_) hmt q2⟩
      have:=agree_upd ha (sop ops m).dst v u hu
      rw [this]
      simp only [keep]
      rw [if_pos hu]
    | false =>
      rw [hdm,cond_false] at h1
      rw [if_neg (by decide)]
      obtain ⟨hst,h1⟩:=h1
      refine ⟨?_,fun q=>?_⟩
      rotate_left
      · have:=hst q
        revert this
        cases eo:(sop ops m).op
        case store t p c =>
          have hp:=looks_ev (o:=sop ops m) (all:=ops.toList.map (·.dst)) (env:=e1) (env':=e) (fun u hu=>ha u (hml u hu)) p (by rw [eo];simp [Op.operands])
          simp only [newS]
          rw [hp];exact id
        case call c =>
          simp only [newS]
          cases ea:c.args.toList with
          | nil=>exact id
          | cons s l =>
            have hp:=looks_ev (o:=sop ops m) (all:=ops.toList.map (·.dst)) (env:=e1) (env':=e) (fun u hu=>ha u (hml u hu)) s (by rw [eo];simp [Op.operands,Call.operands,ea])
            simp only []
            rw [hp];exact id
        all_goals exact fun q=>q.elim
      rw [den_eq] at h1
      have:=opsR_T (C:={ C with K:=R }) (k':=fun e h=>denB C R ops gd n1 post Q t ⟨keep R e,h⟩) (fun e h q=>q) _ _ _ h1
      rw [dsts_spec] at this
      have h2:stepT P (tabG C.l) C.own (ops.toList.map (·.dst)) (sop ops m) e1 H fun e h=>denB C R ops gd n1 post Q t ⟨keep R e,h⟩:=this
      refine stepT_mono (step_move (env:=e) (fun u hu=>ha u (hml u hu)) h2) ?_
      rintro e' h' ⟨v,rfl,q,_⟩
      refine brE_den hK hpo t _ _ _ (fun u hu=>?_) hmt q
      have:=agree_upd ha (sop ops m).dst v u hu
      rw [this]
      simp only [keep]
      rw [if_pos hu]
theorem W_drawB {P:Program} (hm:P.follows .mixedOrders=true) (C:Cfg P) (gd:FuncId) (pre M post:List Nat) (T:OT) (R:List Nat) {id:Nat} {ops:Array Oper} {Q:Exit→St→Prop} {s:St}
    (hok:ops.toList.all (opOk C.N)=true) (hc:okDrawB C.own gd ops pre M post T C.K R=true) (hgd:∀ vs,tabG C.l gd vs=none)
    (h0:den { C with K:=R } [.ops true (dstsOf (stripOps ops.toList)) (pickOps (stripOps ops.toList) pre)] (nQ (denB C R ops gd s.H.length post Q T)) .normal s):W P C.N C.n0 (.region id ops true) Q s:=by
  simp only [okDrawB,Bool.and_eq_true,List.all_eq_true,decide_eq_true_eq,Bool.or_eq_true,List.contains_iff_mem,Bool.not_eq_true'] at hc
  obtain ⟨⟨⟨⟨⟨⟨⟨⟨⟨⟨⟨⟨⟨o1,o2⟩,o3⟩,o4⟩,o5⟩,o6⟩,o7⟩,o8⟩,o9⟩,o10⟩,o11⟩,o12⟩,o13⟩,o14⟩:=hc
  have o14':∀ z∈pre,(clOf C.own (sop ops z).op=.pure∨clOf C.own (sop ops z).op=.read)∧((sop ops z).guard.isNone=true∨isLd (sop ops z).op=false):=fun z hz=>by
    refine ⟨?_,(o14 z hz).2⟩
    have:=(o14 z hz).1
    revert this
    cases clOf C.own (sop ops z).op <;> simp
  have hok':∀ (i:Nat) (o:Oper),ops[i]? = some o→opOk C.N o=true:=by
    intro i o hi
    simp only [List.all_eq_true] at hok
    exact hok o (by simpa using Array.mem_of_getElem? hi)
  have edge:∀ (i:Nat) (o:Oper),ops[i]? = some o→∀ e∈o.after,Region.binds .any e=true→e.on < i:=by
    intro i o hi e he hbb
    have:=edges_spec ops.toList 0 o1 i o (by simpa using hi) e (by simpa using he) hbb
    omega
  have g0:opsT P (tabG C.l) C.own (ops.toList.map (·.dst)) (pre.map (sop ops)) s.env s.H (fun e h=>denB C R ops gd s.H.length post Q T ⟨keep R e,h⟩):=by
    rw [den_eq] at h0
    have:=opsR_T (C:={ C with K:=R }) (k':=fun e h=>denB C R ops gd s.H.length post Q T ⟨keep R e,h⟩) (fun e h q=>q) _ _ _ h0
    rw [pick_strip _ pre] at this
    simp only [dsts_spec] at this ⊢
    exact this
  have g2:=opsN_of _ _ _ (fun z hz=>by
    obtain ⟨z',hz',rfl⟩:=List.mem_map.1 hz
    exact o14' z' hz') g0
  have g1:=opsN_mono (fun e h q=>brE_den (C:=C) o10 (fun y hy=>o11 y (List.mem_append_right _ hy)) T e (keep R e) h (fun u hu=>by simp only [keep];rw [if_pos hu]) (fun y hy=>o11 y (List.mem_append_left _ hy)) q) _ _ _ g2
  intro x φ act w hx hs
  refine wp_region_any hm ?_
  have hs':=hs.drawn (w.drawn + 1)
  rw [List.nodup_append] at o2
  refine opsB_any (x:=x) (own:=C.own) (gd:=gd) (tabG_good C.l) hgd o12 o13 hok' edge (k:=fun env H=>Q .normal ⟨keep C.K env,H⟩) ?_ o2.2.1 ?_ ops.size pre M T _ s.env s.H φ act _ ?_ (List.nodup_append.2 o2) (by simp) o4 ?_ ?_ (pairs0_spec _ o5) o6 o7 o14' o8 o9 g1 hs'
  · intro env H φ a w hk hs''
    exact ⟨_,φ,hk,hs''.keep C.K⟩
  · exact (List.pairwise_append.1 (pairs0_spec _ o5)).2.1
  · have:=List.Nodup.length_le_of_subset (List.nodup_append.2 o2) (l₂:=List.range ops.size) fun j hj=>by simpa using o4 j hj
    simpa using this
  · intro j hj
    have:=o3 j (by simpa using hj)
    simp only [List.mem_append] at this
    simp [hj]
    exact or_assoc.1 this
  · intro j o hj hn
    have hlt:=(Array.getElem?_eq_some_iff.1 hj).1
    exact absurd (o3 j (by simpa using hlt)) hn
theorem W_seqR {P:Program} {N n0:Nat} {c d:Code} {Q:Exit→St→Prop} {s:St} {α:Type} (E:α→List (Nat × V)) (Hp:α→Heap) (Inv:α→Prop) (h:W P N n0 c (fun e s'=>e=.normal∧∃ a,Inv a∧IntoW s' (E a) (Hp a)) s)
    (k:∀ a,Inv a→W P N n0 d Q ⟨mk (E a),Hp a⟩):W P N n0 (.seq c d) Q s:=by
  refine W_seq (W_mono h ?_)
  rintro e s' ⟨rfl,a,hI,hi⟩
  exact W_weak hi.weak (k a hI)
end Go.Proofs.YthafdegfjadijaaGreat
