/- The abstract machine: drawn regions in which loads may come behind operations that leave what they load. No condition. -/
import Derived.Test.YtcgekblpbheikaaGreatDoorQE10
namespace Go.Proofs.YtcgekblpbheikaaGreatDoor
set_option linter.unusedVariables false
set_option linter.unusedSimpArgs false
section
variable {P:Program} {Γ:Table} {own:List FuncId} {all:List (Option Nat)} {x:Ctx} {N:Nat}
theorem loadD_det {ti : Option TI} {a : V} {H : Heap} {k : V → Prop} (h : loadD ti a H k) : ∃ v, k v ∧ loadD ti a H (fun x => x = v) := by
  unfold loadD at h
  split at h
  · exact h.elim
  · split at h
    · exact ⟨_,h.2.2,by unfold loadD;exact ⟨h.1,h.2.1,rfl⟩⟩
    · split at h
      · rename_i hr
        obtain ⟨q1,l,q2,q3,q4,q5⟩:=h
        exact ⟨_,q5,by simp only [loadD,hr];exact ⟨q1,l,q2,q3,q4,rfl⟩⟩
      · exact h.elim
    · exact h.elim
theorem loadD_mono {ti : Option TI} {a : V} {H : Heap} {k k' : V → Prop} (hk : ∀ v, k v → k' v) (h : loadD ti a H k) : loadD ti a H k' := by
  unfold loadD at h ⊢
  split at h
  · exact h.elim
  · split at h
    · exact ⟨h.1,h.2.1,hk _ h.2.2⟩
    · split at h
      · obtain ⟨q1,l,q2,q3,q4,q5⟩:=h
        exact ⟨q1,l,q2,q3,q4,hk _ q5⟩
      · exact h.elim
    · exact h.elim
def sameD (P:Program) (z:SOp) (env:Env) (H H':Heap):Prop:=match z.op with
  | .load t p=>∀ k:V→Prop,loadD (tinfo P t) (ev env p) H k→loadD (tinfo P t) (ev env p) H' k
  | _=>True
def sameL (P:Program):List SOp→Env→Heap→Heap→Prop
  | [],_,_,_=>True
  | z :: l,env,H,H'=>sameD P z env H H'∧sameL P l env H H'
theorem sameL_mem {z:SOp} {env:Env} {H H':Heap}:∀ {l:List SOp},z∈l→sameL P l env H H'→sameD P z env H H'
  | y :: l,hz,h=>by
    rcases List.mem_cons.1 hz with rfl | hz
    · exact h.1
    · exact sameL_mem hz h.2
theorem sameD_env {z:SOp} {env env':Env} {H H':Heap} (he:∀ t∈looks all z,env' t=env t) (h:sameD P z env H H'):sameD P z env' H H':=by
  revert h
  unfold sameD
  split
  · rename_i t p e
    have:=looks_ev (o:=z) he p (by rw [e];simp [Op.operands])
    rw [this];exact id
  · exact id
theorem yieldS {z:SOp} (hc:clOf own z.op=.pure∨clOf own z.op=.read) (hg:z.guard.isNone=true∨isLd z.op=false) {env:Env} {H:Heap} {K:Env→Heap→Prop} (h:stepT P Γ own all z env H K) :
    ∃ v,K (updO env z.dst v) H∧∀ (env':Env) (H':Heap),(∀ t∈looks all z,env' t=env t)→(isLd z.op=true→sameD P z env H H')→∀ K':Env→Heap→Prop,K' (updO env' z.dst v) H'→stepT P Γ own all z env' H' K':=by
  rcases hc with hc | hc
  · obtain ⟨v,h1,h2⟩:=yield_of (.inl hc) h
    exact ⟨v,h1,fun env' H' he _ K' hk=>h2 env' H' he (fun q=>by rw [hc] at q;cases q) K' hk⟩
  · have hl:=clOf_ld hc
    have hgn:z.guard=none:=by
      rcases hg with q | q
      · exact Option.isNone_iff_eq_none.1 q
      · rw [hl] at q;cases q
    cases e:z.op
    case load t p =>
      have hev:∀ env',(∀ t∈looks all z,env' t=env t)→ev env' p=ev env p:=fun env' he=>looks_ev (o:=z) he p (by rw [e];simp [Op.operands])
      unfold stepT at h
      rw [hgn,e] at h
      simp only [opT,opD] at h
      obtain ⟨v,h1,h2⟩:=loadD_det h
      refine ⟨v,h1,fun env' H' he hsm K' hk=>?_⟩
      have h3:=hsm rfl
      unfold sameD at h3
      rw [e] at h3
      unfold stepT
      rw [hgn,e]
      simp only [opT,opD]
      rw [hev env' he]
      exact loadD_mono (fun x hx=>by rw [hx];exact hk) (h3 _ h2)
    all_goals rw [e] at hl;cases hl
def runP (P:Program) (Γ:Table) (own:List FuncId) (all:List (Option Nat)) (l:List SOp) (env:Env) (H:Heap) (e2:Env):Prop:=opsT P Γ own all l env H fun e h=>e=e2∧h=H
theorem stepT_stay {z:SOp} (hc:clOf own z.op=.pure∨clOf own z.op=.read) {env:Env} {H:Heap} {K:Env→Heap→Prop} (h:stepT P Γ own all z env H K):stepT P Γ own all z env H fun e h=>h=H∧K e h:=by
  obtain ⟨v,h1,h2⟩:=yield_of hc h
  exact h2 env H (fun _ _=>rfl) (fun _=>⟨[],by simp⟩) _ ⟨rfl,h1⟩
theorem runP_of:∀ (l:List SOp),(∀ z∈l,clOf own z.op=.pure∨clOf own z.op=.read)→∀ (env:Env) (H:Heap) (K:Env→Heap→Prop),opsT P Γ own all l env H K→∃ e2,runP P Γ own all l env H e2∧K e2 H
  | [],_,env,H,K,h=>⟨env,⟨rfl,rfl⟩,h⟩
  | z :: l,hz,env,H,K,h=>by
    obtain ⟨v,h1,h2⟩:=yield_of (hz z List.mem_cons_self) h
    obtain ⟨e2,q1,q2⟩:=runP_of l (fun z hm=>hz z (List.mem_cons_of_mem _ hm)) _ _ _ h1
    exact ⟨e2,h2 env H (fun _ _=>rfl) (fun _=>⟨[],by simp⟩) (fun e h=>opsT P Γ own all l e h fun e h=>e=e2∧h=H) q1,q2⟩
theorem runP_env:∀ (l:List SOp),(∀ z∈l,clOf own z.op=.pure∨clOf own z.op=.read)→∀ (env:Env) (H:Heap) (e2:Env),runP P Γ own all l env H e2→∀ t,(∀ z∈l,z.dst ≠ some t)→e2 t=env t
  | [],_,env,H,e2,h,t,_=>by rw [h.1]
  | z :: l,hz,env,H,e2,h,t,ht=>by
    obtain ⟨v,h1,_⟩:=yield_of (K:=fun e h=>opsT P Γ own all l e h fun e h=>e=e2∧h=H) (hz z List.mem_cons_self) h
    rw [runP_env l (fun z hm=>hz z (List.mem_cons_of_mem _ hm)) _ _ _ h1 t fun z hm=>ht z (List.mem_cons_of_mem _ hm)]
    exact updO_ne (ht z List.mem_cons_self)
def freshB (all:List (Option Nat)):List SOp→Bool
  | []=>true
  | z :: l=>((z :: l).all fun y=>match y.dst with | some d=>!(looks all z).contains d | none=>true) && freshB all l
theorem freshB_sub:∀ {l l':List SOp},l'.Sublist l→freshB all l=true→freshB all l'=true
  | _,_,.slnil,_=>rfl
  | _,_,.cons a h,q=>by
    simp only [freshB,Bool.and_eq_true] at q
    exact freshB_sub h q.2
  | _,_,.cons_cons a h,q=>by
    simp only [freshB,Bool.and_eq_true,List.all_eq_true] at q ⊢
    refine ⟨fun y hy=>q.1 y ?_,freshB_sub h q.2⟩
    rcases List.mem_cons.1 hy with rfl | hy
    · exact List.mem_cons_self
    · exact List.mem_cons_of_mem _ (h.subset hy)
theorem moveP {y:SOp} {u:V} {h':Heap}:∀ (l:List SOp),(∀ z∈l,(clOf own z.op=.pure∨clOf own z.op=.read)∧(z.guard.isNone=true∨isLd z.op=false)∧apartB all z y=true)→freshB all l=true→∀ {e3:Env} {H0:Heap},(∀ z∈l,isLd z.op=true→sameD P z e3 H0 h') →
    ∀ (env:Env) (H:Heap) (e2:Env),H0=H→e3=e2→runP P Γ own all l env H e2→runP P Γ own all l (updO env y.dst u) h' (updO e2 y.dst u)
  | [],_,_,_,_,_,env,H,e2,_,_,h=>⟨by rw [h.1],rfl⟩
  | z :: l, hz, hf, e3, H0, hs, env, H, e2, hH, he, h => by
    obtain ⟨hc,hg,ha⟩:=hz z List.mem_cons_self
    have hzl:∀ z∈l,clOf own z.op=.pure∨clOf own z.op=.read:=fun z hm=>(hz z (List.mem_cons_of_mem _ hm)).1
    have hf0:=hf
    simp only [freshB,Bool.and_eq_true,List.all_eq_true] at hf0
    obtain ⟨v,h1,h2⟩:=yieldS (K:=fun e h=>opsT P Γ own all l e h fun e h=>e=e2∧h=H) hc hg h
    have ih:=moveP (u:=u) l (fun z hm=>hz z (List.mem_cons_of_mem _ hm)) hf0.2 (fun z hm=>hs z (List.mem_cons_of_mem _ hm)) _ _ _ hH he h1
    simp only [apartB,Bool.and_eq_true] at ha
    obtain ⟨a1,a2⟩:=ha
    have d2:∀ t,z.dst=some t→y.dst ≠ some t:=fun t e=>by
      rw [e] at a1
      simp at a1
      exact a1.2
    have d3:∀ t∈looks all z,y.dst ≠ some t:=fun t ht e=>by
      rw [e] at a2
      simp at a2
      exact a2 ht
    have hfz:∀ t∈looks all z,∀ w∈z :: l,w.dst ≠ some t:=fun t ht w hw e=>by
      have:=hf0.1 w hw
      rw [e] at this
      simp at this
      exact this ht
    refine h2 (updO env y.dst u) h' (fun t ht=>updO_ne (d3 t ht)) (fun hl=>?_) (fun e h=>opsT P Γ own all l e h fun e h=>e=updO e2 y.dst u∧h=h') ?_
    · have:=hs z List.mem_cons_self hl
      rw [hH,he] at this
      refine sameD_env (all:=all) (fun t ht=>?_) this
      rw [runP_env l hzl _ _ _ h1 t fun w hw=>hfz t ht w (List.mem_cons_of_mem _ hw)]
      exact (updO_ne (hfz t ht z List.mem_cons_self)).symm
    · rw [← updO_comm d2]
      exact ih
def brC (P:Program) (Γ:Table) (own:List FuncId) (zs:Nat→List Nat) (ops:Array Oper) (k:Env→Heap→Prop):OT→Env→Heap→Prop
  | .leaf=>k
  | .nil=>fun _ _=>True
  | .alt m t r=>fun e h=>stepT P Γ own (ops.toList.map (·.dst)) (sop ops m) e h (fun e' h'=>sameL P ((zs m).map (sop ops)) e h h'∧brC P Γ own zs ops k t e' h')∧brC P Γ own zs ops k r e h
theorem brC_has {zs:Nat→List Nat} {ops:Array Oper} {k:Env→Heap→Prop} {i:Nat}:∀ (T:OT) (M:List Nat),T.has i=true→okT ops M T=true→∃ t,covB ops (M.erase i) t=true∧okT ops (M.erase i) t=true∧∀ e h,brC P Γ own zs ops k T e h→stepT P Γ own (ops.toList.map (·.dst)) (sop ops i) e h (fun e' h'=>sameL P ((zs i).map (sop ops)) e h h'∧brC P Γ own zs ops k t e' h')
  | .leaf,_,h,_=>by cases h
  | .nil,_,h,_=>by cases h
  | .alt m t r,M,h,ho=>by
    simp only [OT.has,Bool.or_eq_true,beq_iff_eq] at h
    simp only [okT,Bool.and_eq_true] at ho
    rcases h with rfl | h
    · exact ⟨t,ho.1.1,ho.1.2,fun e h' q=>q.1⟩
    · obtain ⟨t',q1,q2,q3⟩:=brC_has r M h ho.2
      exact ⟨t',q1,q2,fun e h' q=>q3 e h' q.2⟩
theorem opsC_any (hΓ : Good P Γ) {zs : Nat → List Nat} {ops : Array Oper} (hok : ∀ (i : Nat) (o : Oper), ops[i]? = some o → opOk N o = true) (hedge : ∀ (i : Nat) (o : Oper), ops[i]? = some o → ∀ e ∈ o.after, Region.binds .any e = true → e.on < i) {k : Env → Heap → Prop} {Q : Exit → Act → World → Prop}
    (hq:∀ env H φ a w,k env H→Sim x N ⟨env,H⟩ φ a w→Q .normal a w) {post:List Nat} (hpn:post.Nodup) (hpp:post.Pairwise (fun z y=>indepX own (ops.toList.map (·.dst)) (sop ops z) (sop ops y)=true∨reachB ops 5 y z=true)) :
    ∀ (fuel:Nat) (pre M:List Nat) (T:OT) (listed:Array Bool) (env:Env) (H:Heap) (φ:List (Nat × Nat)) (a:Act) (w:World),(pre++M++post).length≤fuel→(pre++M++post).Nodup→listed.size=ops.size→(∀ j,j∈pre++M++post→j < ops.size) →
      (∀ j,j < ops.size→(listed.getD j true=false ↔ j∈pre++M++post))→(∀ (j:Nat) (o:Oper),ops[j]? = some o→j ∉ pre++M++post→∀ e∈o.after,Region.binds .any e=true→e.on ∉ pre++M++post) →
      (pre++post).Pairwise (fun z y=>indepX own (ops.toList.map (·.dst)) (sop ops z) (sop ops y)=true∨reachB ops 5 y z=true)→(∀ z∈pre,∀ m∈M,(apartB (ops.toList.map (·.dst)) (sop ops z) (sop ops m)=true∧(isLd (sop ops z).op=true→z∈zs m))∨reachB ops 5 m z=true)→(∀ y∈post,∀ m∈M,reachB ops 5 y m=true)→(∀ z∈pre,(clOf own (sop ops z).op=.pure∨clOf own (sop ops z).op=.read)∧((sop ops z).guard.isNone=true∨isLd (sop ops z).op=false)) →
      covB ops M T=true→okT ops M T=true→freshB (ops.toList.map (·.dst)) (pre.map (sop ops))=true →
      (∃ e2,runP P Γ own (ops.toList.map (·.dst)) (pre.map (sop ops)) env H e2∧brC P Γ own zs ops (fun e h=>opsT P Γ own (ops.toList.map (·.dst)) (post.map (sop ops)) e h k) T e2 H)→Sim x N ⟨env,H⟩ φ a w→wpAny P .any ops Q fuel listed a w:=by
  intro fuel
  induction fuel with
  | zero =>
    intro pre M T listed env H φ a w hlen hnd hsz hlt hiff hdown hp1 hp2 hp3 hp4 hcov hT hfr h hs
    obtain ⟨rfl,rfl,rfl⟩:pre=[]∧M=[]∧post=[]:=by
      have:(pre++M++post)=[]:=List.eq_nil_of_length_eq_zero (by omega)
      simpa using this
    refine opsX_any (own:=own) hΓ hok hedge hq 0 [] listed env H φ a w (Nat.le_refl 0) List.nodup_nil hsz (by simp) hiff hdown .nil ?_ hs
    obtain ⟨e2,⟨rfl,_⟩,h⟩:=h
    cases T with
    | leaf=>exact h
    | nil=>simp [covB] at hcov
    | alt m t r=>simp [covB] at hcov
  | succ fuel ih =>
    intro pre M T listed env H φ a w hlen hnd hsz hlt hiff hdown hp1 hp2 hp3 hp4 hcov hT hfr h hs
    cases hM:M with
    | nil =>
      subst hM
      have hl0:pre++[]++post=pre++post:=by rw [List.append_nil]
      rw [hl0] at hlen hnd hlt hiff hdown
      refine opsX_any hΓ hok hedge hq (fuel + 1) (pre++post) listed env H φ a w hlen hnd hsz hlt hiff hdown hp1 ?_ hs
      rw [List.map_append]
      refine opsT_append _ _ env H ?_
      obtain ⟨e2,hr,h⟩:=h
      cases T with
      | leaf =>
        refine opsT_mono (fun e h' q=>?_) _ env H hr
        rw [q.1,q.2];exact h
      | nil=>simp [covB] at hcov
      | alt m t r=>simp [covB] at hcov
    | cons m0 M0 =>
      have hMne:M ≠ []:=by rw [hM];simp
      have notin:∀ j,listed.getD j false=true→j ∉ pre++M++post:=by
        intro j hj hm
        have h1:=hlt j hm
        have h2:=(hiff j h1).2 hm
        have h3:j < listed.size:=by omega
        simp [h3] at hj h2
        rw [h2] at hj
        cases hj
      refine ⟨fun hr=>?_,fun i hi=>?_⟩
      · exfalso
        obtain ⟨m,hm,hmin⟩:=least (pre++M++post) (by rw [hM];simp)
        have hml:=hlt m hm
        have:m∈Region.ready .any ops listed:=by
          refine mem_ready.2 ⟨(hiff m hml).2 hm,ops[m],Array.getElem?_eq_getElem hml,fun e he hbb=>?_⟩
          have h1:=hedge m _ (Array.getElem?_eq_getElem hml) e he hbb
          have h2:e.on ∉ pre++M++post:=fun hx=>by have:=hmin _ hx;omega
          have h3:listed.getD e.on true ≠ false:=fun hx=>h2 ((hiff e.on (by omega)).1 hx)
          have h4:e.on < listed.size:=by omega
          simp [h4] at h3 ⊢
          exact h3
        rw [hr] at this
        cases this
      · obtain ⟨h0,o,ho',hall⟩:=mem_ready.1 hi
        have hil:i < ops.size:=(Array.getElem?_eq_some_iff.1 ho').1
        have him:=(hiff i hil).1 h0
        have hready:∀ o',ops[i]? = some o'→∀ e∈o'.after,Region.binds .any e=true→e.on ∉ pre++M++post:=by
          intro o' ho2 e he hb
          rw [ho'] at ho2
          cases ho2
          exact notin _ (hall e he hb)
        have noreach:∀ z∈pre++M++post,¬ reachB ops 5 i z=true:=fun z hz hr=>reach_spec hdown 5 i hr hready hz
        rw [List.append_assoc] at him
        rcases List.mem_append.1 him with hip | him
        · -- an operation ahead of those whose order tells
          obtain ⟨l1,l2,rfl⟩:=List.append_of_mem hip
          have hz:∀ z∈l1,(clOf own (sop ops z).op=.pure∨clOf own (sop ops z).op=.read)∧((sop ops z).guard.isNone=true∨isLd (sop ops z).op=false)∧indepX own (ops.toList.map (·.dst)) (sop ops z) (sop ops i)=true:=fun z hz=>by
            refine ⟨(hp4 z (by simp [hz])).1,(hp4 z (by simp [hz])).2, ?_⟩
            rw [List.append_assoc] at hp1
            rcases (List.pairwise_append.1 hp1).2.2 z hz i (by simp) with q | q
            · exact q
            · exact absurd q (noreach z (by simp [hz]))
          obtain ⟨e2,hr,hbr⟩:=h
          unfold runP at hr
          rw [List.map_append,List.map_cons] at hr
          have hb:=bubbleX (l1.map (sop ops)) (fun z hm=>by
            obtain ⟨z',hz',rfl⟩:=List.mem_map.1 hm
            exact (hz z' hz').2.2) env H hr
          have hb:=stepT_stay (hp4 i (by simp)).1 hb
          refine stepT_wp hΓ ho' (hok i o ho') hs hb ?_
          rintro env' H' φ' a' w' ⟨rfl,hk⟩ hs'
          have hsub:(l1++l2++M++post).Sublist (l1++i :: l2++M++post):=by
            refine List.Sublist.append (List.Sublist.append (List.Sublist.append (List.Sublist.refl _) (List.sublist_cons_self _ _)) (List.Sublist.refl _)) (List.Sublist.refl _)
          have hni:i ∉ l1++l2++M++post:=by
            have h1:=hnd
            simp only [List.append_assoc,List.cons_append] at h1
            rw [List.nodup_append] at h1
            obtain ⟨_,h2,h3⟩:=h1
            rw [List.nodup_cons] at h2
            intro hx
            simp only [List.append_assoc] at hx
            rcases List.mem_append.1 hx with hx | hx
            · exact h3 i hx i (by simp) rfl
            · exact h2.1 hx
          have hl:∀ j,j∈l1++l2++M++post ↔ j∈l1++i :: l2++M++post∧j ≠ i:=fun j =>
            ⟨fun hj=>⟨hsub.subset hj,fun e=>hni (e ▸ hj)⟩,fun ⟨hj,hne⟩=>by
              simp only [List.mem_append,List.mem_cons] at hj ⊢
              rcases hj with ((h | h | h) | h) | h
              · exact .inl (.inl (.inl h))
              · exact absurd h hne
              · exact .inl (.inl (.inr h))
              · exact .inl (.inr h)
              · exact .inr h⟩
          refine ih (l1++l2) M T (listed.setIfInBounds i true) env' H' φ' a' w' (by simp at hlen ⊢;omega) (hnd.sublist hsub) (by simpa using hsz) (fun j hj=>hlt j (hsub.subset hj)) (listed_set hsz hil hl hiff) (down_set hl hdown hready)
            (hp1.sublist (List.Sublist.append (List.Sublist.append (List.Sublist.refl _) (List.sublist_cons_self _ _)) (List.Sublist.refl _))) (fun z hz m hm=>hp2 z (by simp only [List.mem_append,List.mem_cons] at hz ⊢;rcases hz with h | h;exact .inl h;exact .inr (.inr h)) m hm) hp3 (fun z hz=>hp4 z (by simp only [List.mem_append,List.mem_cons] at hz ⊢;rcases hz with h | h;exact .inl h;exact .inr (.inr h))) hcov hT (freshB_sub (by rw [List.map_append,List.map_append,List.map_cons];exact List.Sublist.append (List.Sublist.refl _) (List.sublist_cons_self _ _)) hfr) ⟨e2,by unfold runP;rw [List.map_append];exact hk,hbr⟩ hs'
        · rcases List.mem_append.1 him with him | hipo
          · -- one of those whose order tells
            have hmin:¬ (M.any fun j=>j != i && reachB ops 5 i j)=true:=fun q=>by
              obtain ⟨j,hj,q⟩:=List.any_eq_true.1 q
              rw [Bool.and_eq_true] at q
              exact noreach j (by simp [hj]) q.2
            have hhas:T.has i=true:=by
              cases T with
              | leaf=>simp [covB] at hcov;exact absurd hcov hMne
              | nil =>
                simp only [covB,Bool.and_eq_true,List.all_eq_true,Bool.or_eq_true] at hcov
                exact (hcov.2 i him).resolve_left hmin
              | alt m t r =>
                simp only [covB,Bool.and_eq_true,List.all_eq_true,Bool.or_eq_true] at hcov
                exact (hcov.2 i him).resolve_left hmin
            obtain ⟨t,c1,c2,c3⟩:=brC_has (P:=P) (Γ:=Γ) (own:=own) (zs:=zs) (k:=fun e h=>opsT P Γ own (ops.toList.map (·.dst)) (post.map (sop ops)) e h k) T M hhas hT
            have hz:∀ z∈pre,apartB (ops.toList.map (·.dst)) (sop ops z) (sop ops i)=true∧(isLd (sop ops z).op=true→z∈zs i):=fun z hz=>by
              rcases hp2 z hz i him with q | q
              · exact q
              · exact absurd q (noreach z (by simp [hz]))
            obtain ⟨e2,hr,hbr⟩:=h
            have hst:=step_move (env:=env) (fun u hu=>(runP_env (pre.map (sop ops)) (fun z hzm=>by
              obtain ⟨z',hz',rfl⟩:=List.mem_map.1 hzm
              exact (hp4 z' hz').1) env H e2 hr u fun z hzm e=>by
              obtain ⟨z',hz',rfl⟩:=List.mem_map.1 hzm
              have:=(hz z' hz').1
              simp only [apartB,e,Bool.and_eq_true] at this
              simp at this
              exact this.1.1 hu).symm) (c3 e2 H hbr)
            refine stepT_wp hΓ ho' (hok i o ho') hs hst ?_
            rintro env' H' φ' a' w' ⟨u,rfl,⟨hsame,hk⟩,_⟩ hs'
            have hr':=moveP (Γ:=Γ) (own:=own) (y:=sop ops i) (u:=u) (h':=H') (pre.map (sop ops)) (fun z hzm=>by
              obtain ⟨z',hz',rfl⟩:=List.mem_map.1 hzm
              exact ⟨(hp4 z' hz').1,(hp4 z' hz').2,(hz z' hz').1⟩) hfr (fun z hzm hl=>by
              obtain ⟨z',hz',rfl⟩:=List.mem_map.1 hzm
              exact sameL_mem (List.mem_map.2 ⟨z',(hz z' hz').2 hl,rfl⟩) hsame) env H e2 rfl rfl hr
            have hMn:M.Nodup:=by
              rw [List.nodup_append,List.nodup_append] at hnd
              exact hnd.1.2.1
            have hme:∀ j,j∈M.erase i ↔ j∈M∧j ≠ i:=fun j=>by rw [hMn.mem_erase_iff];exact And.comm
            have hsub:(pre++M.erase i++post).Sublist (pre++M++post):=List.Sublist.append (List.Sublist.append (List.Sublist.refl _) List.erase_sublist) (List.Sublist.refl _)
            have hni1:i ∉ pre∧i ∉ post:=by
              rw [List.nodup_append,List.nodup_append] at hnd
              exact ⟨fun q=>hnd.1.2.2 i q i him rfl,fun q=>hnd.2.2 i (by simp [him]) i q rfl⟩
            have hl:∀ j,j∈pre++M.erase i++post ↔ j∈pre++M++post∧j ≠ i:=fun j=>by
              simp only [List.mem_append,hme]
              constructor
              · rintro ((h | h) | h)
                · exact ⟨.inl (.inl h),fun e=>hni1.1 (e ▸ h)⟩
                · exact ⟨.inl (.inr h.1),h.2⟩
                · exact ⟨.inr h,fun e=>hni1.2 (e ▸ h)⟩
              · rintro ⟨(h | h) | h,hne⟩
                · exact .inl (.inl h)
                · exact .inl (.inr ⟨h,hne⟩)
                · exact .inr h
            refine ih pre (M.erase i) t (listed.setIfInBounds i true) _ H' φ' a' w' ?_ (hnd.sublist hsub) (by simpa using hsz) (fun j hj=>hlt j (hsub.subset hj)) (listed_set hsz hil hl hiff) (down_set hl hdown hready) hp1 (fun z hz m hm=>hp2 z hz m ((hme m).1 hm).1) (fun y hy m hm=>hp3 y hy m ((hme m).1 hm).1) hp4 c1 c2 hfr ⟨_,hr',hk⟩ hs'
            have:=List.length_erase_of_mem him
            have hpos:0 < M.length:=List.length_pos_of_mem him
            simp only [List.length_append] at hlen ⊢
            omega
          · exfalso
            exact noreach m0 (by rw [hM];simp) (hp3 i hipo m0 (by rw [hM];simp))
end
def demC {P:Program} (C:Cfg P) (R:List Nat) (ops:Array Oper) (Z l:List SOp) (k:St→Prop) (s:St):Prop:=match l with
  | [y]=>den { C with K:=R } [.ops true (dstsOf (stripOps ops.toList)) [y]] (nQ fun s'=>sameL P Z s.env s.H s'.H∧k s') .normal s
  | _=>False
def denC {P:Program} (C:Cfg P) (R:List Nat) (ops:Array Oper) (zs:Nat→List Nat) (post:List Nat) (Q:Exit→St→Prop):OT→St→Prop
  | .leaf,s=>den C [.ops true (dstsOf (stripOps ops.toList)) (pickOps (stripOps ops.toList) post)] Q .normal s
  | .nil,_=>True
  | .alt m t r,s=>demC C R ops (pickOps (stripOps ops.toList) (zs m)) (pickOps (stripOps ops.toList) [m]) (denC C R ops zs post Q t) s∧denC C R ops zs post Q r s
def okDrawC (own:List FuncId) (ops:Array Oper) (pre M post:List Nat) (T:OT) (zs:Nat→List Nat) (K R:List Nat):Bool :=
  edgesOk ops.toList 0 && decide (pre++M++post).Nodup && (List.range ops.size).all (fun j=>(pre++M++post).contains j) && (pre++M++post).all (fun j=>decide (j < ops.size))
    && pairs0 own ops (ops.toList.map (·.dst)) (pre++post) && pre.all (fun z=>M.all fun m=>(apartB (ops.toList.map (·.dst)) (sop ops z) (sop ops m) && (!isLd (sop ops z).op || (zs m).contains z)) || reachB ops 5 m z) && post.all (fun y=>M.all fun m=>reachB ops 5 y m)
    && covB ops M T && okT ops M T && K.all (fun t=>R.contains t) && (T.ms++post).all (fun y=>(looks (ops.toList.map (·.dst)) (sop ops y)).all fun t=>R.contains t)
    && (T.ms.all fun m=>(zs m).all fun y=>(looks (ops.toList.map (·.dst)) (sop ops y)).all fun t=>R.contains t) && freshB (ops.toList.map (·.dst)) (pre.map (sop ops)) && pre.all (fun z=>(match clOf own (sop ops z).op with | .pure=>true | .read=>true | _=>false) && ((sop ops z).guard.isNone || !isLd (sop ops z).op))
theorem sameL_env {P:Program} {all:List (Option Nat)} {R:List Nat} {e e1:Env} {H H':Heap} (ha:∀ t∈R,e t=e1 t):∀ (l:List SOp),(∀ z∈l,∀ t∈looks all z,t∈R)→sameL P l e1 H H'→sameL P l e H H'
  | [],_,_=>trivial
  | z :: l,hl,h=>⟨sameD_env (all:=all) (fun t ht=>ha t (hl z List.mem_cons_self t ht)) h.1,sameL_env ha l (fun z hz=>hl z (List.mem_cons_of_mem _ hz)) h.2⟩
theorem brC_den {P : Program} {C : Cfg P} {R : List Nat} {ops : Array Oper} {zs : Nat → List Nat} {post : List Nat} {Q : Exit → St → Prop} (hK : ∀ t ∈ C.K, t ∈ R) (hpo : ∀ y ∈ post, ∀ t ∈ looks (ops.toList.map (·.dst)) (sop ops y), t ∈ R) :
    ∀ (T:OT) (e e1:Env) (H:Heap),agree R e e1→(∀ y∈T.ms,∀ t∈looks (ops.toList.map (·.dst)) (sop ops y),t∈R)→(∀ m∈T.ms,∀ y∈zs m,∀ t∈looks (ops.toList.map (·.dst)) (sop ops y),t∈R)→denC C R ops zs post Q T ⟨e1,H⟩ →
      brC P (tabG C.l) C.own zs ops (fun e h=>opsT P (tabG C.l) C.own (ops.toList.map (·.dst)) (post.map (sop ops)) e h fun e h=>Q .normal ⟨keep C.K e,h⟩) T e H
  | .leaf,e,e1,H,ha,_,_,h=>by
    simp only [denC] at h
    rw [den_eq] at h
    have:=opsR_T (C:=C) (k':=fun e h=>Q .normal ⟨keep C.K e,h⟩) (fun e h q=>q) _ _ _ h
    rw [dsts_spec,pick_strip] at this
    refine opsT_env (R:=R) (k1:=fun e h=>Q .normal ⟨keep C.K e,h⟩) (fun e e1 h ha q=>?_) _ e e1 H ha (fun y hy t ht=>?_) this
    · have:keep C.K e=keep C.K e1:=by
        funext t
        simp only [keep]
        split
        · rename_i ht;exact ha t (hK t ht)
        · rfl
      rw [this];exact q
    · obtain ⟨z,hz,rfl⟩:=List.mem_map.1 hy
      exact hpo z hz t ht
  | .nil,_,_,_,_,_,_,_=>trivial
  | .alt m t r,e,e1,H,ha,hm,hzr,h=>by
    simp only [denC] at h
    have hmt:∀ y∈t.ms,∀ u∈looks (ops.toList.map (·.dst)) (sop ops y),u∈R:=fun y hy=>hm y (by simp [OT.ms,hy])
    have hmr:∀ y∈r.ms,∀ u∈looks (ops.toList.map (·.dst)) (sop ops y),u∈R:=fun y hy=>hm y (by simp [OT.ms,hy])
    have hml:∀ u∈looks (ops.toList.map (·.dst)) (sop ops m),u∈R:=hm m (by simp [OT.ms])
    have hzt:∀ m∈t.ms,∀ y∈zs m,∀ u∈looks (ops.toList.map (·.dst)) (sop ops y),u∈R:=fun y hy=>hzr y (by simp [OT.ms,hy])
    have hzr':∀ m∈r.ms,∀ y∈zs m,∀ u∈looks (ops.toList.map (·.dst)) (sop ops y),u∈R:=fun y hy=>hzr y (by simp [OT.ms,hy])
    have hzm:∀ y∈zs m,∀ u∈looks (ops.toList.map (·.dst)) (sop ops y),u∈R:=hzr m (by simp [OT.ms])
    refine ⟨?_,brC_den hK hpo r e e1 H ha hmr hzr' h.2⟩
    have h1:=h.1
    rw [pick_strip,pick_strip] at h1
    simp only [List.map_cons,List.map_nil,demC] at h1
    rw [den_eq] at h1
    have:=opsR_T (C:={ C with K:=R }) (k':=fun e' h'=>sameL P ((zs m).map (sop ops)) e1 H h'∧denC C R ops zs post Q t ⟨keep R e',h'⟩) (fun e h q=>q) _ _ _ h1
    rw [dsts_spec] at this
    have h2:stepT P (tabG C.l) C.own (ops.toList.map (·.dst)) (sop ops m) e1 H fun e' h'=>sameL P ((zs m).map (sop ops)) e1 H h'∧denC C R ops zs post Q t ⟨keep R e',h'⟩:=this
    refine stepT_mono (step_move (env:=e) (fun u hu=>ha u (hml u hu)) h2) ?_
    rintro e' h' ⟨v,rfl,⟨qs,q⟩,_⟩
    refine ⟨sameL_env (all:=ops.toList.map (·.dst)) ha _ (fun z hz u hu=>?_) qs,brC_den hK hpo t _ _ _ (fun u hu=>?_) hmt hzt q⟩
    · obtain ⟨z',hz',rfl⟩:=List.mem_map.1 hz
      exact hzm z' hz' u hu
    · have:=agree_upd ha (sop ops m).dst v u hu
      rw [this]
      simp only [keep]
      rw [if_pos hu]
theorem W_drawC {P : Program} (hm : P.follows .mixedOrders = true) (C : Cfg P) (pre M post : List Nat) (T : OT) (zs : Nat → List Nat) (R : List Nat) {id : Nat} {ops : Array Oper} {Q : Exit → St → Prop} {s : St}
    (hok:ops.toList.all (opOk C.N)=true) (hc:okDrawC C.own ops pre M post T zs C.K R=true)
    (h0:den { C with K:=R } [.ops true (dstsOf (stripOps ops.toList)) (pickOps (stripOps ops.toList) pre)] (nQ (denC C R ops zs post Q T)) .normal s):W P C.N C.n0 (.region id ops true) Q s:=by
  simp only [okDrawC,Bool.and_eq_true,List.all_eq_true,decide_eq_true_eq,Bool.or_eq_true,List.contains_iff_mem,Bool.not_eq_true'] at hc
  obtain ⟨⟨⟨⟨⟨⟨⟨⟨⟨⟨⟨⟨⟨o1,o2⟩,o3⟩,o4⟩,o5⟩,o6⟩,o7⟩,o8⟩,o9⟩,o10⟩,o11⟩,o12⟩,o13⟩,o14⟩:=hc
  have o14':∀ z∈pre,(clOf C.own (sop ops z).op=.pure∨clOf C.own (sop ops z).op=.read)∧((sop ops z).guard.isNone=true∨isLd (sop ops z).op=false):=fun z hz=>by
    refine ⟨?_,(o14 z hz).2⟩
    have:=(o14 z hz).1
    revert this
    cases clOf C.own (sop ops z).op <;> simp
  have o6':∀ z∈pre,∀ m∈M,(apartB (ops.toList.map (·.dst)) (sop ops z) (sop ops m)=true∧(isLd (sop ops z).op=true→z∈zs m))∨reachB ops 5 m z=true:=fun z hz m hm=>by
    rcases o6 z hz m hm with ⟨q1,q2⟩ | q
    · exact .inl ⟨q1,fun hl=>by
        rcases q2 with q2 | q2
        · rw [hl] at q2;cases q2
        · exact q2⟩
    · exact .inr q
  have hok':∀ (i:Nat) (o:Oper),ops[i]? = some o→opOk C.N o=true:=by
    intro i o hi
    simp only [List.all_eq_true] at hok
    exact hok o (by simpa using Array.mem_of_getElem? hi)
  have edge:∀ (i:Nat) (o:Oper),ops[i]? = some o→∀ e∈o.after,Region.binds .any e=true→e.on < i:=by
    intro i o hi e he hbb
    have:=edges_spec ops.toList 0 o1 i o (by simpa using hi) e (by simpa using he) hbb
    omega
  have g0:opsT P (tabG C.l) C.own (ops.toList.map (·.dst)) (pre.map (sop ops)) s.env s.H (fun e h=>denC C R ops zs post Q T ⟨keep R e,h⟩):=by
    rw [den_eq] at h0
    have:=opsR_T (C:={ C with K:=R }) (k':=fun e h=>denC C R ops zs post Q T ⟨keep R e,h⟩) (fun e h q=>q) _ _ _ h0
    rw [pick_strip _ pre] at this
    simp only [dsts_spec] at this ⊢
    exact this
  obtain ⟨e2,g1,g2⟩:=runP_of _ (fun z hz=>by
    obtain ⟨z',hz',rfl⟩:=List.mem_map.1 hz
    exact (o14' z' hz').1) _ _ _ g0
  have g3:=brC_den (C:=C) o10 (fun y hy=>o11 y (List.mem_append_right _ hy)) T e2 (keep R e2) s.H (fun u hu=>by simp only [keep];rw [if_pos hu]) (fun y hy=>o11 y (List.mem_append_left _ hy)) o12 g2
  intro x φ act w hx hs
  refine wp_region_any hm ?_
  have hs':=hs.drawn (w.drawn + 1)
  rw [List.nodup_append] at o2
  refine opsC_any (x:=x) (own:=C.own) (tabG_good C.l) (zs:=zs) hok' edge (k:=fun env H=>Q .normal ⟨keep C.K env,H⟩) ?_ o2.2.1 ?_ ops.size pre M T _ s.env s.H φ act _ ?_ (List.nodup_append.2 o2) (by simp) o4 ?_ ?_ (pairs0_spec _ o5) o6' o7 o14' o8 o9 o13 ⟨e2,g1,g3⟩ hs'
  · intro env H φ a w hk hs''
    exact ⟨_,φ,hk,hs''.keep C.K⟩
  · exact (List.pairwise_append.1 (pairs0_spec _ o5)).2.1
  · have:=List.Nodup.length_le_of_subset (List.nodup_append.2 o2) (l₂:=List.range ops.size) fun j hj=>by simpa using o4 j hj
    simpa using this
  · intro j hj
    have:=o3 j (by simpa using hj)
    simp only [List.mem_append] at this
    simp [hj]
    exact or_assoc.1 this
  · intro j o hj hn
    have hlt:=(Array.getElem?_eq_some_iff.1 hj).1
    exact absurd (o3 j (by simpa using hlt)) hn
section
variable {P:Program} {C:Cfg P} {R:List Nat} {ops:Array Oper} {zs:Nat→List Nat} {post:List Nat} {Q:Exit→St→Prop} {s:St} {m m2:Nat} {t t2:OT}
theorem denC_one (h:demC C R ops (pickOps (stripOps ops.toList) (zs m)) (pickOps (stripOps ops.toList) [m]) (denC C R ops zs post Q t) s):denC C R ops zs post Q (.alt m t .nil) s:=⟨h,trivial⟩
theorem denC_leaf (h:den C [.ops true (dstsOf (stripOps ops.toList)) (pickOps (stripOps ops.toList) post)] Q .normal s):denC C R ops zs post Q .leaf s:=h
end
attribute [simp] sameL sameD
end Go.Proofs.YtcgekblpbheikaaGreatDoor
