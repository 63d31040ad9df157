/- The reference's GoodTerm. No condition. -/
import Derived.Test.YtbacilgolfojaaaDoorQS176
section
namespace Go.Proofs.YtbacilgolfojaaaDoor
set_option maxRecDepth 100000
set_option linter.unusedSimpArgs false
set_option linter.unusedVariables false
def nodeOk (nd:Node):Bool:=decide (nd.op_=1∨(nd.op_=2∧0≤nd.n_∧nd.n_ < 4)∨((3≤nd.op_∧nd.op_≤11)∧nd.n_=0))
def stepS (nd:Node) (st:List T):Option (List T) :=
  if nodeOk nd=true then
    if nd.op_=1∨nd.op_=2 then some (.leaf nd.op_ nd.n_ :: st)
    else if nd.op_=3 then match st with | a :: r=>some (.un a :: r) | _=>none
    else if nd.op_=11 then match st with | c :: b :: a :: r=>some (.tri a b c :: r) | _=>none
    else match st with | b :: a :: r=>some (.bi nd.op_ a b :: r) | _=>none
  else none
def pileF:List T→List Node→Option (List T)
  | st,[]=>some st
  | st,nd :: l=>match stepS nd st with
    | some st'=>pileF st' l
    | none=>none
def pileOf (l:List Node):Option (List T):=pileF [] l
def treeO (l:List Node):Option T:=if l.length≤40 then match pileOf l with | some [t]=>some t | _=>none else none
def goodT (l:List Node):Bool:=(treeO l).isSome
inductive Rv (l:List Node):Nat→List T→Prop where
  | nil:Rv l 0 []
  | cons {s e:Nat} {t:T} {st:List T}:Rep l s e t→t.ok→Rv l s st→Rv l e (t :: st)
theorem Rv.inv {l:List Node} {e:Nat} {t:T} {st:List T} (h:Rv l e (t :: st)):∃ s,Rep l s e t∧t.ok∧Rv l s st:=by
  cases h with
  | cons r k q=>exact ⟨_,r,k,q⟩
theorem Rv.inv0 {l:List Node} {e:Nat} (h:Rv l e []):e=0:=by
  cases h
  rfl
theorem Rv.step {l : List Node} (hg : Enc.good l) {k : Nat} {st st' : List T} (h : Rv l k st) {nd : Node} (hn : l[k]? = some nd) (hs : stepS nd st = some st') : Rv l (k + 1) st' := by
  have hgn:Enc.good nd.n_:=(hg.2 nd (List.mem_of_getElem? hn)).2
  unfold stepS at hs
  split at hs
  · rename_i hok
    have hok:nd.op_=1∨(nd.op_=2∧0≤nd.n_∧nd.n_ < 4)∨((3≤nd.op_∧nd.op_≤11)∧nd.n_=0):=by simpa [nodeOk] using hok
    split at hs
    · rename_i o
      cases hs
      refine .cons (.leaf hn o) ?_ h
      rcases o with o | o
      · exact .inl ⟨o,hgn⟩
      · exact .inr ⟨o,by omega⟩
    · rename_i o
      split at hs
      · rename_i o3
        split at hs
        · cases hs
          cases h with
          | cons r1 k1 h=>exact .cons (.un hn o3 r1) k1 h
        · cases hs
      · rename_i o3
        split at hs
        · rename_i o11
          split at hs
          · cases hs
            cases h with
            | cons r1 k1 h=>cases h with
              | cons r2 k2 h=>cases h with
                | cons r3 k3 h=>exact .cons (.tri hn o11 r3 r2 r1) ⟨k3,k2,k1⟩ h
          · cases hs
        · rename_i o11
          split at hs
          · cases hs
            cases h with
            | cons r1 k1 h=>cases h with
              | cons r2 k2 h=>exact .cons (.bi hn (by omega) r2 r1) ⟨by omega,k2,k1⟩ h
          · cases hs
  · cases hs
theorem pileF_at {l:List Node} (hg:Enc.good l):∀ (r:List Node) (k:Nat) (st st':List T),l.drop k=r→Rv l k st→pileF st r=some st'→k≤l.length→Rv l l.length st'
  | [],k,st,st',e,h,hp,hk=>by
    have:k=l.length:=by have:=List.drop_eq_nil_iff.1 e;omega
    subst this
    cases hp
    exact h
  | nd :: r,k,st,st',e,h,hp,hk=>by
    have hn:l[k]? = some nd:=by
      have:=congrArg List.head? e
      rwa [List.head?_drop] at this
    have hk':k < l.length:=(List.getElem?_eq_some_iff.1 hn).1
    have er:l.drop (k + 1)=r:=by
      rw [List.drop_eq_getElem_cons hk'] at e
      exact (List.cons.inj e).2
    unfold pileF at hp
    split at hp
    · rename_i st1 hs
      exact pileF_at hg r (k + 1) st1 st' er (h.step hg hn hs) hp (by omega)
    · cases hp
theorem treeO_rep {l:List Node} (hg:Enc.good l) {t:T} (h:treeO l=some t):Rep l 0 l.length t∧t.ok∧l.length≤40:=by
  unfold treeO at h
  split at h
  · rename_i hl
    split at h
    · rename_i t' hp
      cases h
      have:=pileF_at hg l 0 [] _ (by simp) .nil hp (by omega)
      obtain ⟨s,r,k,q⟩:=this.inv
      obtain rfl:=q.inv0
      exact ⟨r,k,hl⟩
    · cases h
  · cases h
theorem stepS_len {nd : Node} {st st' : List T} (h : stepS nd st = some st') : 0 ≤ arity1 nd.op_ ∧ arity1 nd.op_ ≤ st.length ∧ (st'.length : Int) = st.length + (1 - arity1 nd.op_) := by
  unfold stepS at h
  split at h
  · rename_i hok
    have hok:nd.op_=1∨(nd.op_=2∧0≤nd.n_∧nd.n_ < 4)∨((3≤nd.op_∧nd.op_≤11)∧nd.n_=0):=by simpa [nodeOk] using hok
    split at h
    · rename_i o
      cases h
      rw [show arity1 nd.op_=0 by simp [arity1,o]]
      simp
    · rename_i o
      split at h
      · rename_i o3
        split at h
        · cases h
          rw [show arity1 nd.op_=1 by simp [arity1,o3]]
          simp
          omega
        · cases h
      · rename_i o3
        split at h
        · rename_i o11
          split at h
          · cases h
            rw [show arity1 nd.op_=3 by simp [arity1,o11]]
            simp
            omega
          · cases h
        · rename_i o11
          split at h
          · cases h
            rw [ar_two (by omega)]
            simp
            omega
          · cases h
  · cases h
theorem stepS_none {nd : Node} {st : List T} (h : stepS nd st = none) : nodeOk nd = false ∨ (st.length : Int) < arity1 nd.op_ := by
  unfold stepS at h
  split at h
  · rename_i hok
    have hok:nd.op_=1∨(nd.op_=2∧0≤nd.n_∧nd.n_ < 4)∨((3≤nd.op_∧nd.op_≤11)∧nd.n_=0):=by simpa [nodeOk] using hok
    refine .inr ?_
    split at h
    · cases h
    · rename_i o
      split at h
      · rename_i o3
        rw [show arity1 nd.op_=1 by simp [arity1,o3]]
        match st,h with
        | [],_=>simp
      · rename_i o3
        split at h
        · rename_i o11
          rw [show arity1 nd.op_=3 by simp [arity1,o11]]
          match st,h with
          | [],_=>simp
          | [_],_=>simp
          | [_,_],_=>simp
        · rename_i o11
          rw [ar_two (by omega)]
          match st,h with
          | [],_=>simp
          | [_],_=>simp
  · rename_i q
    exact .inl (by simpa using q)
end Go.Proofs.YtbacilgolfojaaaDoor
end

section
namespace Go.Proofs.YtbacilgolfojaaaDoor
set_option maxRecDepth 100000
set_option linter.unusedSimpArgs false
set_option linter.unusedVariables false
theorem goodT_long {l:List Node} (h:40 < l.length):goodT l=false:=by
  unfold goodT treeO
  rw [if_neg (by omega)]
  rfl
theorem goodT_nil {l:List Node} (h:l.length=0):goodT l=false:=by
  obtain rfl:=List.length_eq_zero_iff.1 h
  rfl
theorem goodT_pile {l:List Node} (h:l.length≤40) {st:List T} (hp:pileOf l=some st):goodT l=decide ((st.length:Int)=1):=by
  unfold goodT treeO
  rw [if_pos h,hp]
  match st with
  | []=>rfl
  | [t]=>rfl
  | a :: b :: r=>simp;omega
theorem goodT_none {l:List Node} (hp:pileOf l=none):goodT l=false:=by
  unfold goodT treeO
  rw [hp]
  split <;> rfl
theorem stepS_ok {nd:Node} {st st':List T} (h:stepS nd st=some st'):nodeOk nd=true:=by
  unfold stepS at h
  split at h
  · assumption
  · cases h
theorem node_iff {nd:Node} (hg:Enc.good nd.n_) {m:Int} (h0:0≤m):(arity1 nd.op_ < 0∨m < arity1 nd.op_∨(nd.op_=2∧(nd.n_ < 0∨4≤nd.n_))∨(0 < arity1 nd.op_∧nd.n_ ≠ 0)) ↔ (nodeOk nd=false∨m < arity1 nd.op_):=by
  unfold nodeOk
  rw [decide_eq_false_iff_not]
  unfold arity1 inR
  by_cases o1:nd.op_=1
  · simp [o1]
  by_cases o2:nd.op_=2
  · simp [o2];omega
  by_cases o3:nd.op_=3
  · simp [o3];omega
  by_cases o11:nd.op_=11
  · simp [o11];omega
  by_cases o4:4≤nd.op_∧nd.op_≤10
  · simp [o1,o2,o3,o11,o4];omega
  · simp [o1,o2,o3,o11,o4];omega
theorem goodTermS_c (l : List Node) (hg : Enc.good l) : PureP Tryd.prog 15 [.d (dNodeS l)] (· = .d (.bool (goodT l))) := by
  cases hb:inR (l.length:Int) 1 40 with
  | false =>
    have e:goodT l=false:=by
      have:=inR_f.1 hb
      by_cases h:l.length=0
      · exact goodT_nil h
      · exact goodT_long (by omega)
    refine pure_of Tryd.func15 en_15 rfl rfl (W_run mixed ⟨[K_23,K_24],[K_23h,K_24h],[],58,0,[0,2,3,5,6,10,11,12,13,14,50],[10,14,22,27,31,35,42,45,50]⟩ (fun _=>[]) (by kernel_rfl) ?_)
    simp only [Tryd.f15,stripX,stripOps,pickOps]
    simp [K_23_f,K_23_e,K_24_f,K_24_e,K_23h_f,K_23h_e,K_24h_f,K_24h_e,K_23h_g,K_24h_g,hb,e]
  | true =>
    have hlen:=inR_t.1 hb
    refine pure_of Tryd.func15 en_15 rfl rfl (W_run mixed ⟨[K_23,K_24],[K_23h,K_24h],[],58,0,[0,2,3,5,6,10,11,12,13,14,50],[10,14,22,27,31,35,42,45,50]⟩ (fun _=>[]) (by kernel_rfl) ?_)
    simp only [Tryd.f15,stripX,stripOps,pickOps]
    simp [K_23_f,K_23_e,K_24_f,K_24_e,K_23h_f,K_23h_e,K_24h_f,K_24h_e,K_23h_g,K_24h_g,hb]
    refine W_loopA (fun a:Nat × List T=>[(3,.d (.int .i64 a.2.length)),(11,.d (dNodeS l)),(12,.d (.int .i64 l.length)),(13,.d (.int .i64 a.1))]) (fun _=>[]) (fun a=>a.1≤l.length∧a.2.length≤a.1∧pileOf l=pileF a.2 (l.drop a.1)) (fun a=>l.length - a.1) (0,[]) ?_ ?_ ?_
    · simp
    · exact ⟨Nat.zero_le _,Nat.le_refl _,by simp [pileOf]⟩
    · rintro ⟨i,st⟩ ⟨hi,hs,hp⟩
      refine W_run mixed ⟨[K_23,K_24],[K_23h,K_24h],[],58,0,[0,2,3,5,6,10,11,12,13,14,50],[10,14,22,27,31,35,42,45,50]⟩ (fun _=>[]) (by kernel_rfl) ?_
      simp only [stripX,stripOps,pickOps]
      simp [K_23_f,K_23_e,K_24_f,K_24_e,K_23h_f,K_23h_e,K_24h_f,K_24h_e,K_23h_g,K_24h_g]
      simp only [] at hi hs hp
      refine ⟨fun h=>⟨h, ?_⟩,fun h=>?_⟩
      · have hgn:Enc.good (l[i]?.getD default).n_:=(good_get hg i).2
        have hd:=drop_cons h
        obtain ⟨nd,hnd⟩:∃ nd,nd=l[i]?.getD default:=⟨_,rfl⟩
        rw [← hnd] at hgn hd ⊢
        have hiff:=node_iff hgn (m:=(st.length:Int)) (by omega)
        rw [hd] at hp
        unfold pileF at hp
        cases hst:stepS nd st with
        | none =>
          rw [hst] at hp
          have hf:=goodT_none hp
          have hB:=hiff.2 (stepS_none hst)
          repeat' first | apply And.intro | intro _
          all_goals first | exact hf | (exfalso;omega)
        | some st' =>
          rw [hst] at hp
          obtain ⟨q1,q2,q3⟩:=stepS_len hst
          have q4:=stepS_ok hst
          have hB:¬ (arity1 nd.op_ < 0∨(st.length:Int) < arity1 nd.op_∨(nd.op_=2∧(nd.n_ < 0∨4≤nd.n_))∨(0 < arity1 nd.op_∧nd.n_ ≠ 0)):=fun q=>by
            rcases hiff.1 q with q | q
            · rw [q4] at q;cases q
            · omega
          have fin:∃ (a:Nat) (b:List T),(a≤l.length∧b.length≤a∧pileOf l=pileF b (List.drop a l))∧l.length - a < l.length - i∧IntKind.i64.wrap ((st.length:Int) + IntKind.i64.wrap (1 - arity1 nd.op_))=(b.length:Int)∧IntKind.i64.wrap ((i:Int) + 1)=(a:Int):=by
            have e1:IntKind.i64.wrap (1 - arity1 nd.op_)=1 - arity1 nd.op_:=by rw [wrap_id] <;> omega
            refine ⟨i + 1,st',⟨by omega,by omega,hp⟩,by omega, ?_, ?_⟩
            · rw [e1,wrap_id (by omega) (by omega),q3]
            · rw [wrap_id] <;> omega
          repeat' first | exact fin | apply And.intro | intro _
          all_goals (exfalso;omega)
      · rw [List.drop_eq_nil_of_le h] at hp
        exact (goodT_pile (by omega) hp).symm
noncomputable def K_15:Ent Tryd.prog:=Ent.p1 (α:=List Node) 15 (fun l=>Enc.good l) (fun l=>.d (.bool (goodT l))) (fun l hc=>goodTermS_c l hc)
theorem K_15_f:K_15.f=15:=rfl
theorem K_15_e (l:List Node):K_15.e [.d (dNodeS l)]=some (Enc.good l,.d (.bool (goodT l)),[]):=by unfold K_15;exact Ent.p1_eq (α:=List Node) l
noncomputable def K_15h:EntH Tryd.prog:=EntH.pk1 (α:=List Node) 15 (fun l=>Enc.good l) (fun l=>.d (.bool (goodT l))) (fun l=>[]) (fun l hc=>PureP.ans (goodTermS_c l hc))
theorem K_15h_f:K_15h.f=15:=rfl
theorem K_15h_g:K_15h.gro=true:=rfl
theorem K_15h_e {x1:V} {H:Heap}:K_15h.e [x1] H=guardR ((decA (α:=List Node) H x1).1) (peekR (Enc.good (decA (α:=List Node) H x1).2) (.d (.bool (goodT (decA (α:=List Node) H x1).2))) ([]) H):=rfl
end Go.Proofs.YtbacilgolfojaaaDoor
end
