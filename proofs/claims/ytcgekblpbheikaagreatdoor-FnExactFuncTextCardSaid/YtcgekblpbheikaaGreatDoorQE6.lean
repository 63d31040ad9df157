/- The abstract machine: regions that draw their order, in which two operations make places. No condition. -/
import Derived.Test.YtcgekblpbheikaaGreatDoorQE5
namespace Go.Proofs.YtcgekblpbheikaaGreatDoor
set_option linter.unusedVariables false
set_option linter.unusedSimpArgs false

def agree (R:List Nat) (e e1:Env):Prop:=∀ t∈R,e t=e1 t
theorem agree_upd {R:List Nat} {e e1:Env} (h:agree R e e1) (d:Option Nat) (u:V):agree R (updO e d u) (updO e1 d u):=by
  intro t ht
  cases d with
  | none=>exact h t ht
  | some d =>
    simp only [updO,upd]
    split
    · rfl
    · exact h t ht
section
variable {P:Program} {Γ:Table} {own:List FuncId} {all:List (Option Nat)}
theorem opT_growD {env : Env} {H : Heap} {o : Op} {k : V → Heap → Prop} (hc : clOf own o = .grow) (h : opT P Γ own env H o k) : ∃ u H', k u H' ∧ ∀ k' : V → Heap → Prop, k' u H' → opT P Γ own env H o k' := by
  cases o <;> simp only [clOf] at hc
  all_goals try (exact absurd hc (by decide))
  case convert s d x=>split at hc <;> cases hc
  case alloc t =>
    simp only [opT,opD,allocD] at h ⊢
    split at h
    · exact h.elim
    · exact ⟨_,_,h.2,fun k' hk=>⟨h.1,hk⟩⟩
  case box t x =>
    simp only [opT,opD,boxD] at h ⊢
    split at h
    · exact h.elim
    · exact ⟨_,_,h.2,fun k' hk=>⟨h.1,hk⟩⟩
  case buildSlice t n ps =>
    simp only [opT,opD,buildSliceD] at h ⊢
    split at h
    · split at h
      · exact ⟨_,_,h.2,fun k' hk=>⟨h.1,hk⟩⟩
      · exact h.elim
    · exact h.elim
  case makeSlice t l c =>
    simp only [opT,opD,makeSliceD] at h ⊢
    split at h
    · split at h
      · split at h
        · exact ⟨_,_,h.2,fun k' hk=>⟨h.1,hk⟩⟩
        · exact h.elim
      · exact h.elim
    · exact h.elim
  case call c =>
    split at hc
    · rename_i hg
      simp only [opT,hg,if_true] at h ⊢
      unfold callG at h ⊢
      split at h
      · obtain ⟨r,R,h1,h2⟩:=h
        exact ⟨_,_,h2,fun k' hk=>⟨r,R,h1,hk⟩⟩
      · exact h.elim
    · split at hc <;> cases hc
theorem yieldG {z : SOp} {env : Env} {H : Heap} {K : Env → Heap → Prop} (hc : clOf own z.op = .grow) (h : stepT P Γ own all z env H K) :
    ∃ v H',K (updO env z.dst v) H'∧∀ (env':Env),(∀ t∈looks all z,env' t=env t)→∀ K':Env→Heap→Prop,K' (updO env' z.dst v) H'→stepT P Γ own all z env' H K':=by
  unfold stepT at h
  split at h
  · rename_i hg
    obtain ⟨v,H',h1,h2⟩:=opT_growD hc h
    exact ⟨v,H',h1,fun env' he K' hk'=>by unfold stepT;simp only [hg];rw [opT_env (looks_ev he)];exact h2 _ hk'⟩
  · rename_i j want hg
    split at h
    · exact h.elim
    · rename_i t hs
      split at h
      · rename_i b hb
        by_cases e:b=want
        · obtain ⟨v,H',h1,h2⟩:=opT_growD hc (h.1 e)
          refine ⟨v,H',h1,fun env' he K' hk'=>?_⟩
          have:=looks_guard he hg hs
          unfold stepT
          simp only [hg,hs,this,hb]
          exact ⟨fun _=>by rw [opT_env (looks_ev he)];exact h2 _ hk',fun e'=>absurd e e'⟩
        · refine ⟨_,_,h.2 e,fun env' he K' hk'=>?_⟩
          have:=looks_guard he hg hs
          unfold stepT
          simp only [hg,hs,this,hb]
          exact ⟨fun e'=>absurd e' e,fun _=>hk'⟩
      · rename_i hb
        refine ⟨_,_,h,fun env' he K' hk'=>?_⟩
        have:=looks_guard he hg hs
        unfold stepT
        simp only [hg,hs,this,hb]
        exact hk'
      · exact h.elim
def indepX (own:List FuncId) (all:List (Option Nat)) (z y:SOp):Bool :=
  indepB own all z y || (apartB all z y && (match clOf own z.op with | .grow=>(match clOf own y.op with | .pure=>true | _=>false) | _=>false))
theorem swapX {z y:SOp} (hi:indepX own all z y=true) {env:Env} {H:Heap} {K:Env→Heap→Prop} (h:stepT P Γ own all z env H fun e h=>stepT P Γ own all y e h K) :
    stepT P Γ own all y env H fun e h=>stepT P Γ own all z e h K:=by
  rcases (Bool.or_eq_true _ _).mp hi with hi | hi
  · exact swapT hi h
  simp only [apartB,Bool.and_eq_true] at hi
  obtain ⟨⟨a1,a2⟩,a3⟩:=hi
  have hz:clOf own z.op=.grow:=by
    split at a3
    · assumption
    · cases a3
  have hy:clOf own y.op=.pure:=by
    rw [hz] at a3
    simp only [] at a3
    split at a3
    · assumption
    · cases a3
  have d1:∀ t∈looks all y,z.dst ≠ some t:=by
    intro t ht e
    rw [e] at a1
    simp at a1
    exact a1.1 ht
  have d2:∀ x,z.dst=some x→y.dst ≠ some x:=by
    intro x e
    rw [e] at a1
    simp at a1
    exact a1.2
  have d3:∀ t∈looks all z,y.dst ≠ some t:=by
    intro t ht e
    rw [e] at a2
    simp at a2
    exact a2 ht
  obtain ⟨u,H',h1,h2⟩:=yieldG hz h
  obtain ⟨v,q1,q2⟩:=yield_of (.inl hy) h1
  refine q2 env H (fun t ht=>(updO_ne (d1 t ht)).symm) (fun hr=>by rw [hy] at hr;cases hr) _ ?_
  refine h2 _ (fun t ht=>updO_ne (d3 t ht)) _ ?_
  rw [← updO_comm d2]
  exact q1
theorem bubbleX {y:SOp} {l2:List SOp} {k:Env→Heap→Prop}:∀ (l1:List SOp),(∀ z∈l1,indepX own all z y=true)→∀ (env:Env) (H:Heap),opsT P Γ own all (l1++y :: l2) env H k →
    stepT P Γ own all y env H fun e h=>opsT P Γ own all (l1++l2) e h k
  | [],_,env,H,h=>h
  | z :: l1,hz,env,H,h=>by
    refine swapX (hz z List.mem_cons_self) ?_
    exact stepT_mono h fun e h' q=>bubbleX l1 (fun z hm=>hz z (List.mem_cons_of_mem _ hm)) e h' q
end
section
variable {P:Program} {Γ:Table} {own:List FuncId} {all:List (Option Nat)} {x:Ctx} {N:Nat}
theorem opsT_env {R:List Nat} {k k1:Env→Heap→Prop} (hk:∀ e e1 h,agree R e e1→k1 e1 h→k e h):∀ (l:List SOp) (e e1:Env) (H:Heap),agree R e e1→(∀ y∈l,∀ t∈looks all y,t∈R)→opsT P Γ own all l e1 H k1→opsT P Γ own all l e H k
  | [],e,e1,H,he,_,h=>hk e e1 H he h
  | y :: l,e,e1,H,he,hl,h=>by
    refine stepT_mono (step_move (env:=e) (fun t ht=>he t (hl y List.mem_cons_self t ht)) h) ?_
    rintro e' h' ⟨u,rfl,q,_⟩
    exact opsT_env hk l _ _ _ (agree_upd he _ _) (fun z hz=>hl z (List.mem_cons_of_mem _ hz)) q
theorem opsT_append {k:Env→Heap→Prop}:∀ (l1 l2:List SOp) (e:Env) (H:Heap),opsT P Γ own all l1 e H (fun e h=>opsT P Γ own all l2 e h k)→opsT P Γ own all (l1++l2) e H k
  | [],l2,e,H,h=>h
  | y :: l1,l2,e,H,h=>stepT_mono h fun e h q=>opsT_append l1 l2 e h q
theorem opsT_mono {k k':Env→Heap→Prop} (hk:∀ e h,k e h→k' e h):∀ (l:List SOp) (e:Env) (H:Heap),opsT P Γ own all l e H k→opsT P Γ own all l e H k'
  | [],e,H,h=>hk e H h
  | y :: l,e,H,h=>stepT_mono h fun e h q=>opsT_mono hk l e h q
theorem opsX_any (hΓ : Good P Γ) {ops : Array Oper} (hok : ∀ (i : Nat) (o : Oper), ops[i]? = some o → opOk N o = true) (hedge : ∀ (i : Nat) (o : Oper), ops[i]? = some o → ∀ e ∈ o.after, Region.binds .any e = true → e.on < i) {k : Env → Heap → Prop} {Q : Exit → Act → World → Prop}
    (hq:∀ env H φ a w,k env H→Sim x N ⟨env,H⟩ φ a w→Q .normal a w) :
    ∀ (fuel:Nat) (l:List Nat) (listed:Array Bool) (env:Env) (H:Heap) (φ:List (Nat × Nat)) (a:Act) (w:World),l.length≤fuel→l.Nodup→listed.size=ops.size→(∀ j,j∈l→j < ops.size) →
      (∀ j,j < ops.size→(listed.getD j true=false ↔ j∈l))→(∀ (j:Nat) (o:Oper),ops[j]? = some o→j ∉ l→∀ e∈o.after,Region.binds .any e=true→e.on ∉ l) →
      l.Pairwise (fun z y=>indepX own (ops.toList.map (·.dst)) (sop ops z) (sop ops y)=true∨reachB ops 5 y z=true) →
      opsT P Γ own (ops.toList.map (·.dst)) (l.map (sop ops)) env H k→Sim x N ⟨env,H⟩ φ a w→wpAny P .any ops Q fuel listed a w:=by
  intro fuel
  induction fuel with
  | zero =>
    intro l listed env H φ a w hlen _ hsz hlt hiff _ _ h hs
    obtain rfl:l=[]:=List.eq_nil_of_length_eq_zero (by omega)
    refine ⟨?_,hq _ _ _ _ _ h hs⟩
    cases hr:Region.ready .any ops listed with
    | nil=>rfl
    | cons i rs =>
      have hi:i∈Region.ready .any ops listed:=by rw [hr];simp
      obtain ⟨h0,o,ho,_⟩:=mem_ready.1 hi
      have:=(hiff i (Array.getElem?_eq_some_iff.1 ho).1).1 h0
      simp at this
  | succ fuel ih =>
    intro l listed env H φ a w hlen hnd hsz hlt hiff hdown hpair h hs
    have notin:∀ j,listed.getD j false=true→j ∉ l:=by
      intro j hj hm
      have h1:=hlt j hm
      have h2:=(hiff j h1).2 hm
      have h3:j < listed.size:=by omega
      simp [h3] at hj h2
      rw [h2] at hj
      cases hj
    refine ⟨fun hr=>?_,fun i hi=>?_⟩
    · cases l with
      | nil=>exact hq _ _ _ _ _ h hs
      | cons z l =>
        exfalso
        obtain ⟨m,hm,hmin⟩:=least (z :: l) (by simp)
        have hml:=hlt m hm
        have:m∈Region.ready .any ops listed:=by
          refine mem_ready.2 ⟨(hiff m hml).2 hm,ops[m],Array.getElem?_eq_getElem hml,fun e he hbb=>?_⟩
          have h1:=hedge m _ (Array.getElem?_eq_getElem hml) e he hbb
          have h2:e.on ∉ z :: l:=fun hx=>by have:=hmin _ hx;omega
          have h3:listed.getD e.on true ≠ false:=fun hx=>h2 ((hiff e.on (by omega)).1 hx)
          have h4:e.on < listed.size:=by omega
          simp [h4] at h3 ⊢
          exact h3
        rw [hr] at this
        cases this
    · obtain ⟨h0,o,ho,hall⟩:=mem_ready.1 hi
      have hil:i < ops.size:=(Array.getElem?_eq_some_iff.1 ho).1
      have him:i∈l:=(hiff i hil).1 h0
      obtain ⟨l1,l2,rfl⟩:=List.append_of_mem him
      have hready:∀ o',ops[i]? = some o'→∀ e∈o'.after,Region.binds .any e=true→e.on ∉ l1++i :: l2:=by
        intro o' ho' e he hb
        rw [ho] at ho'
        cases ho'
        exact notin _ (hall e he hb)
      have hz:∀ z∈l1,indepX own (ops.toList.map (·.dst)) (sop ops z) (sop ops i)=true:=by
        intro z hz
        have:=(List.pairwise_append.1 hpair).2.2 z hz i (by simp)
        rcases this with h | h
        · exact h
        · exact absurd (List.mem_append_left _ hz) (reach_spec hdown 5 i h hready)
      rw [List.map_append,List.map_cons] at h
      have hb:=bubbleX (l1.map (sop ops)) (by simpa using hz) env H h
      refine stepT_wp hΓ ho (hok i o ho) hs hb ?_
      intro env' H' φ' a' w' hk hs'
      have hi1:i ∉ l1++l2:=by
        have:=hnd
        rw [List.nodup_append] at this
        obtain ⟨_,h2,h3⟩:=this
        rw [List.nodup_cons] at h2
        intro hx
        rcases List.mem_append.1 hx with hx | hx
        · exact h3 i hx i (by simp) rfl
        · exact h2.1 hx
      have hsub:(l1++l2).Sublist (l1++i :: l2):=List.Sublist.append (List.Sublist.refl _) (List.sublist_cons_self _ _)
      refine ih (l1++l2) (listed.setIfInBounds i true) env' H' φ' a' w' (by simp at hlen ⊢;omega) (hnd.sublist hsub) (by simpa using hsz) (fun j hj=>hlt j (hsub.subset hj)) ?_ ?_ (hpair.sublist hsub) (by rw [List.map_append];exact hk) hs'
      · intro j hj
        by_cases hji:i=j
        · subst hji
          have:i < listed.size:=by omega
          simp [this]
          simpa using hi1
        · rw [getD_set_ne true hji,hiff j hj]
          simp only [List.mem_append,List.mem_cons]
          constructor
          · rintro (h | h | h)
            · exact .inl h
            · exact absurd h.symm hji
            · exact .inr h
          · rintro (h | h)
            · exact .inl h
            · exact .inr (.inr h)
      · intro j o' ho' hj e he hbb hx
        have hx':=hsub.subset hx
        by_cases hji:j=i
        · subst hji
          exact hready o' ho' e he hbb hx'
        · refine hdown j o' ho' ?_ e he hbb hx'
          intro hm
          apply hj
          simp only [List.mem_append,List.mem_cons] at hm ⊢
          rcases hm with h | h | h
          · exact .inl h
          · exact absurd h hji
          · exact .inr h

theorem listed_set {ops:Array Oper} {l l':List Nat} {listed:Array Bool} {i:Nat} (hsz:listed.size=ops.size) (hil:i < ops.size) (hl:∀ j,j∈l' ↔ j∈l∧j ≠ i) (hiff:∀ j,j < ops.size→(listed.getD j true=false ↔ j∈l)) :
    ∀ j,j < ops.size→((listed.setIfInBounds i true).getD j true=false ↔ j∈l'):=by
  intro j hj
  by_cases hji:i=j
  · subst hji
    have:i < listed.size:=by omega
    simp [this,hl]
  · rw [getD_set_ne true hji,hiff j hj,hl]
    exact ⟨fun h=>⟨h,fun e=>hji e.symm⟩,fun h=>h.1⟩
theorem down_set {ops:Array Oper} {l l':List Nat} {i:Nat} (hl:∀ j,j∈l' ↔ j∈l∧j ≠ i) (hdown:∀ (j:Nat) (o:Oper),ops[j]? = some o→j ∉ l→∀ e∈o.after,Region.binds .any e=true→e.on ∉ l)
    (hready:∀ o',ops[i]? = some o'→∀ e∈o'.after,Region.binds .any e=true→e.on ∉ l) :
    ∀ (j:Nat) (o:Oper),ops[j]? = some o→j ∉ l'→∀ e∈o.after,Region.binds .any e=true→e.on ∉ l':=by
  intro j o' ho' hj e he hbb hx
  have hx':=((hl _).1 hx).1
  by_cases hji:j=i
  · subst hji
    exact hready o' ho' e he hbb hx'
  · exact hdown j o' ho' (fun hm=>hj ((hl j).2 ⟨hm,hji⟩)) e he hbb hx'

end
def bothQ {P:Program} (C:Cfg P) (a b:List Fm) (Q:Exit→St→Prop):Exit→St→Prop
  | .normal,s=>den C a Q .normal s∧den C b Q .normal s
  | _,_=>False
theorem bothQ_n {P:Program} {C:Cfg P} {a b:List Fm} {Q:Exit→St→Prop} {env:Env} {H:Heap}:bothQ C a b Q .normal ⟨env,H⟩=(den C a Q .normal ⟨env,H⟩∧den C b Q .normal ⟨env,H⟩):=rfl
attribute [simp] bothQ_n
theorem skip_cons {a b:Nat} {l:List Nat}:(b :: l).contains a=(a == b || l.contains a):=rfl
theorem skip_nil {a:Nat}:([]:List Nat).contains a=false:=rfl
def stripS (S:List Nat) (O:Nat→List Nat):Code→XCode
  | .region id ops true=>bif S.contains id then .other (.region id ops true) else stripX O (.region id ops true)
  | .seq a b=>.seq (stripS S O a) (stripS S O b)
  | .cond c a b=>.cond c (stripS S O a) (stripS S O b)
  | .block id c=>.block id (stripS S O c)
  | c=>stripX O c
def codeOkS (S:List Nat) (N:Nat) (own:List FuncId) (O:Nat→List Nat):Code→Bool
  | .region id ops true=>bif S.contains id then true else codeOkX N own O (.region id ops true)
  | .seq a b | .cond _ a b=>codeOkS S N own O a && codeOkS S N own O b
  | .block _ c=>codeOkS S N own O c
  | c=>codeOkX N own O c
theorem W_ofS {P:Program} {Γ:Table} {N n0:Nat} {own:List FuncId} {S:List Nat} {O:Nat→List Nat} (hm:P.follows .mixedOrders=true) (hΓ:Good P Γ) (K:List Nat):∀ {c:Code} {Q:Exit→St→Prop} {s:St},codeOkS S N own O c=true→wpX P Γ own N n0 K (stripS S O c) Q s→W P N n0 c Q s:=by
  intro c
  induction c with
  | region id ops draw =>
    intro Q s hok h
    cases draw with
    | false=>exact W_ofX hm hΓ K hok h
    | true =>
      simp only [codeOkS] at hok
      simp only [stripS] at h
      cases hc:S.contains id with
      | true=>rw [hc] at h;exact h
      | false=>rw [hc] at h hok;exact W_ofX hm hΓ K hok h
  | seq a b iha ihb =>
    intro Q s hok h
    simp only [codeOkS,Bool.and_eq_true] at hok
    refine W_seq (W_mono (iha hok.1 h) ?_)
    intro e s' hq
    cases e with
    | normal=>exact ihb hok.2 hq
    | _=>exact hq
  | cond c a b iha ihb =>
    intro Q s hok h
    simp only [codeOkS,Bool.and_eq_true] at hok
    simp only [stripS,wpX] at h
    split at h
    · rename_i t ht
      refine W_cond (t:=t) (fun x φ a w hx hs=>?_) (fun e=>iha hok.1 (h.1 e)) (fun e=>ihb hok.2 (h.2 e))
      have:=ev_spec hs c
      rw [ht] at this
      simpa only [VS,DS] using this
    · exact h.elim
  | block id c ih=>intro Q s hok h;exact W_block (ih hok h)
  | _=>intro Q s hok h;exact W_ofX hm hΓ K hok h
theorem W_runS {P:Program} (hm:P.follows .mixedOrders=true) (S:List Nat) (C:Cfg P) (O:Nat→List Nat) {c:Code} {Q:Exit→St→Prop} {s:St} (hc:codeOkS S C.N C.own O c=true) (h:den C [.code (stripS S O c)] Q .normal s):W P C.N C.n0 c Q s:=by
  rw [den_eq] at h
  exact W_ofS hm (tabG_good C.l) C.K hc (wpR_X _ (fun _ _ q=>q) _ h)
def midQ {α:Type} (E:α→List (Nat × V)) (Hp:α→Heap) (Inv:α→Prop):Exit→St→Prop
  | .normal,s=>∃ a,Inv a∧s=⟨mk (E a),Hp a⟩
  | _,_=>False
attribute [simp] midQ
end Go.Proofs.YtcgekblpbheikaaGreatDoor
