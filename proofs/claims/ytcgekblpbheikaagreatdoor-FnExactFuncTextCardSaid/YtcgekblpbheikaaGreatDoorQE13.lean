/- A thing beside the places (a strings.Builder, say): it lies in blocks that are, as the machine sees them, those of whoever called; a code that hands it to functions is walked piece by piece. No condition. -/
import Derived.Test.YtcgekblpbheikaaGreatDoorQS170
namespace Go.Proofs.YtcgekblpbheikaaGreatDoor
set_option linter.unusedVariables false
set_option linter.unusedSimpArgs false
structure Thing (κ:Type) where
  at_:World→κ→(Nat→Prop)→Prop
  lt:∀ {w k U},at_ w k U→∀ g,U g→g < w.heap.size
  keep:∀ {w w':World} {k U},at_ w k U→(∀ g,U g→w'.heap[g]? = w.heap[g]?)→at_ w' k U
structure SimT {κ:Type} (Θ:Thing κ) (w0:World) (id b:Nat) (x:Ctx) (N:Nat) (s:St) (φ:List (Nat × Nat)) (a:Act) (w:World) (k:κ):Prop where
  sim:Sim x N s φ a w
  th:∃ U,Θ.at_ w k U∧∀ g,U g→x.X g∧w0.heap.size≤g
  phi:φ[id]? = some (b,0)
  dead:s.H[id]? = some .dead
  below:Go.RowKit.Below w0.heap.size w0 w
  own:∀ g,ownOf φ s.H g→w0.heap.size≤g
theorem Sim.rebase {x:Ctx} {N:Nat} {s:St} {φ:List (Nat × Nat)} {a:Act} {w:World} (h:Sim x N s φ a w):Sim ⟨x.X,w,φ,s.H⟩ N s φ a w :=
  ⟨h.hs,h.env,h.lo,h.defers,h.size,Fr.refl w _,fun g _ q=>q,Ext.refl _,Nat.le_refl _,h.hs.len⟩
section
variable {κ:Type} (Θ:Thing κ) (P:Program) (w0:World) (id b N:Nat)
def Wt (c:Code) (Q:Exit→St→κ→Prop) (s:St) (k:κ):Prop :=
  ∀ (x:Ctx) (φ:List (Nat × Nat)) (a:Act) (w:World),SimT Θ w0 id b x N s φ a w k→c.wp P (fun e a' w'=>∃ x' s' φ' k',Q e s' k'∧SimT Θ w0 id b x' N s' φ' a' w' k') a w
variable {Θ P w0 id b N}
theorem SimT.step {x:Ctx} {s s':St} {φ φ':List (Nat × Nat)} {a a':Act} {w w':World} {k:κ} (h:SimT Θ w0 id b x N s φ a w k) (r:Sim ⟨x.X,w,φ,s.H⟩ N s' φ' a' w') (hd:s'.H[id]? = some .dead) :
    SimT Θ w0 id b ⟨x.X,w,φ,s.H⟩ N s' φ' a' w' k:=by
  obtain ⟨U,t,hU⟩:=h.th
  have hl:id < φ.length:=(List.getElem?_eq_some_iff.1 h.phi).1
  refine ⟨r,⟨U,Θ.keep t fun g hg=>r.fr.block g (Θ.lt t g hg) fun ho=>h.sim.hs.disj g ho (hU g hg).1,hU⟩,(r.ext id hl).trans h.phi,hd, ?_,fun g hg=>?_⟩
  · refine h.below.trans ⟨r.fr.os,r.fr.tape,r.fr.output,r.fr.size,fun g hg=>?_⟩
    exact r.fr.block g (Nat.lt_of_lt_of_le hg h.below.size) fun ho=>by have:=h.own g ho;omega
  · rcases Nat.lt_or_ge g w.heap.size with hlt | hge
    · exact h.own g (r.old g hlt hg)
    · exact Nat.le_trans h.below.size hge
theorem Wt_of {c:Code} {Q0:Exit→St→Prop} {Q:Exit→St→κ→Prop} {s:St} {k:κ} {n0:Nat} (hn:n0=s.H.length) (h:W P N n0 c Q0 s) (hq:∀ e s',Q0 e s'→s'.H[id]? = some .dead∧Q e s' k):Wt Θ P w0 id b N c Q s k:=by
  subst hn
  intro x φ a w hs
  refine wp_mono (h ⟨x.X,w,φ,s.H⟩ φ a w rfl hs.sim.rebase) ?_
  rintro e a' w' ⟨s',φ',q,r⟩
  obtain ⟨d,q'⟩:=hq e s' q
  exact ⟨_,s',φ',k,q',hs.step r d⟩
def seqT (n:St→κ→Prop) (Q:Exit→St→κ→Prop):Exit→St→κ→Prop
  | .normal,s,k=>n s k
  | e,s,k=>Q e s k
def blockT (i:Nat) (Q:Exit→St→κ→Prop):Exit→St→κ→Prop
  | .exit i',s,k=>if i'=i then Q .normal s k else Q (.exit i') s k
  | e,s,k=>Q e s k
theorem Wt_seq {c d:Code} {Q:Exit→St→κ→Prop} {s:St} {k:κ} (h:Wt Θ P w0 id b N c (seqT (Wt Θ P w0 id b N d Q) Q) s k):Wt Θ P w0 id b N (.seq c d) Q s k:=by
  intro x φ a w hs
  refine wp_seq (wp_mono (h x φ a w hs) ?_)
  rintro e a' w' ⟨x',s',φ',k',q,r⟩
  cases e with
  | normal=>exact q x' φ' a' w' r
  | _=>exact ⟨x',s',φ',k',q,r⟩
theorem Wt_block {i:Nat} {c:Code} {Q:Exit→St→κ→Prop} {s:St} {k:κ} (h:Wt Θ P w0 id b N c (blockT i Q) s k):Wt Θ P w0 id b N (.block i c) Q s k:=by
  intro x φ a w hs
  refine wp_block (wp_mono (h x φ a w hs) ?_)
  rintro e a' w' ⟨x',s',φ',k',q,r⟩
  cases e with
  | exit i' =>
    unfold Exit.inBlock
    simp only [blockT] at q
    split at q <;> rename_i hid <;> simp only [hid,if_true,if_false] <;> exact ⟨x',s',φ',k',q,r⟩
  | _=>exact ⟨x',s',φ',k',q,r⟩
def ThCall (Θ:Thing κ) (P:Program) (b:Nat) (f:FuncId) (str:ByteArray) (k k':κ):Prop :=
  enters P f=true∧∀ (w:World) (U:Nat→Prop),Θ.at_ w k U→Calls P f #[.pointer (some ⟨b,0,none⟩),.string str] w fun e w'=>(∃ v,e=.returned v)∧∃ U',Θ.at_ w' k' U'∧(∀ g,U' g→U g∨w.heap.size≤g) ∧
    w'.os=w.os∧w'.tape=w.tape∧w'.output=w.output∧w.heap.size≤w'.heap.size∧(∀ g,g < w.heap.size→¬ U g→w'.heap[g]? = w.heap[g]?)∧Sizes w w'
theorem SimT.turn {x:Ctx} {s:St} {φ:List (Nat × Nat)} {a:Act} {w w':World} {k k':κ} (h:SimT Θ w0 id b x N s φ a w k) {U U':Nat→Prop} (hUU:∀ g,U g→x.X g∧w0.heap.size≤g)
    (t:Θ.at_ w' k' U') (hn:∀ g,U' g→U g∨w.heap.size≤g) (h1:w'.os=w.os) (h2:w'.tape=w.tape) (h3:w'.output=w.output) (h4:w.heap.size≤w'.heap.size) (h5:∀ g,g < w.heap.size→¬ U g→w'.heap[g]? = w.heap[g]?) (h6:Sizes w w') :
    SimT Θ w0 id b ⟨fun g=>x.X g∨(w.heap.size≤g∧g < w'.heap.size),w',φ,s.H⟩ N s φ a w' k':=by
  have hX:∀ g,x.X g→g < w.heap.size:=h.sim.lo.low
  have hU:∀ g,U g→x.X g:=fun g hg=>(hUU g hg).1
  have hlow:∀ g,U g→w0.heap.size≤g:=fun g hg=>(hUU g hg).2
  have kp:Keeps w (owned x.X φ s.H) w' (owned (fun g=>x.X g∨(w.heap.size≤g∧g < w'.heap.size)) φ s.H):=fun g hg hno=>by
    refine ⟨h5 g hg fun hu=>hno (.inl (hU g hu)),fun q=>hno ?_⟩
    rcases q with (q | ⟨q,_⟩) | q
    · exact .inl q
    · omega
    · exact .inr q
  have hsz:∀ g,ownOf φ s.H g→w'.heap[g]? = w.heap[g]?:=fun g ho=>h5 g (owned_lt h.sim.hs ho) fun hu=>h.sim.hs.disj g ho (hU g hu)
  have hs':HS (fun g=>x.X g∨(w.heap.size≤g∧g < w'.heap.size)) w' φ s.H:=by
    refine ⟨h.sim.hs.len,h.sim.hs.inj,fun g ho q=>?_,fun i e es hi=>?_⟩
    · rcases q with q | ⟨q,_⟩
      · exact h.sim.hs.disj g ho q
      · have:=owned_lt h.sim.hs ho;omega
    · obtain ⟨g,o,cs,t,q1,q2,q3,q4⟩:=h.sim.hs.live i e es hi
      refine ⟨g,o,cs,t,q1,(hsz g ⟨i,e,es,o,hi,q1⟩).trans q2,q3,fun j l hl=>⟨(q4 j l hl).1,fun m c hc=>?_⟩⟩
      obtain ⟨r1,y,r2,r3⟩:=(q4 j l hl).2 m c hc
      exact ⟨r1,y,r2,VS.keeps kp h6 (Ext.refl _) _ _ r3⟩
  refine ⟨⟨hs',fun t=>VS.keeps kp h6 (Ext.refl _) _ _ (h.sim.env t),⟨fun g q=>?_,h.sim.lo.tab.keeps kp⟩,h.sim.defers,h.sim.size,Fr.refl w' _,fun g _ q=>q,Ext.refl _,Nat.le_refl _,h.sim.hs.len⟩,⟨U',t,fun g hg=>?_⟩,h.phi,h.dead, ?_,h.own⟩
  · rcases q with q | ⟨_,q⟩
    · exact Nat.lt_of_lt_of_le (hX g q) h4
    · exact q
  · have hl:=Θ.lt t g hg
    rcases hn g hg with q | q
    · exact ⟨.inl (hU g q),hlow g q⟩
    · exact ⟨.inr ⟨q,hl⟩,Nat.le_trans h.below.size q⟩
  · exact h.below.trans ⟨h1,h2,h3,h4,fun g hg=>h5 g (Nat.lt_of_lt_of_le hg h.below.size) fun hu=>by have:=hlow g hu;omega⟩
theorem den_opsD {C:Cfg P} {l:List SOp} {Q:Exit→St→Prop} {s:St} (h:den C [.code (.ops l)] Q .normal s):opsD P (tabG C.l) (dstsOf l) l s.env s.H fun env H=>Q .normal ⟨keep C.K env,H⟩:=by
  rw [den_eq] at h
  exact wpR_X (.ops l) (fun _ _ q=>q) _ h
theorem opsD_wp2 {x:Ctx} {Γ:Table} (hΓ:Good P Γ) {all:Array Oper} {alls:List (Option Nat)} {k:Env→Heap→Prop} {Q:Exit→Act→World→Prop} {is2:List Nat}:∀ (os:List Oper) (is:List Nat) (env:Env) (H:Heap) (φ:List (Nat × Nat)) (a:Act) (w:World),
    Idx all is os→os.all (opOk N)=true→os.all (fun o=>o.guard.isNone)=true→Sim x N ⟨env,H⟩ φ a w→opsD P Γ alls (stripOps os) env H k →
    (∀ env H φ a w,k env H→Sim x N ⟨env,H⟩ φ a w→wpOps P all Q is2 a w)→wpOps P all Q (is++is2) a w
  | [],is,env,H,φ,a,w,hi,_,_,h,hk,hq=>by
    cases hi
    exact hq env H φ a w hk h
  | o :: os, is, env, H, φ, a, w, hi, hok, hgs, h, hk, hq => by
    cases hi with
    | cons ho ht =>
      rename_i i is
      simp only [List.all_cons,Bool.and_eq_true] at hok hgs
      have hg:o.guard=none:=by simpa using hgs.1
      have hdst:(match o.dst with | some t=>decide (t < N) | none=>true)=true:=hok.1
      simp only [List.cons_append,wpOps,ho]
      simp only [stripOps,opsD,hg] at hk
      have hw:Region.wanted o (yielded all a.tmps)=true:=by simp [Region.wanted,hg]
      rw [if_pos hw]
      exact .inl (op_wp hΓ h hk fun v c H' φ' w' hk' hs hv=>opsD_wp2 hΓ os is _ _ _ _ _ ht hok.2 hgs.2 (hs.putO hdst hv) hk' hq)
theorem idx_take (all:Array Oper) (m:Nat) (hm:m≤all.size):Idx all (List.range m) (all.toList.take m):=by
  have:∀ (l:List Oper) (n:Nat),(∀ i,i < l.length→all[n + i]? = l[i]?)→Idx all (List.range' n l.length) l:=by
    intro l
    induction l with
    | nil=>intro n _;exact .nil
    | cons o l ih =>
      intro n h
      rw [List.length_cons,List.range'_succ]
      refine .cons (by have:=h 0 (by simp);simpa using this) (ih (n + 1) fun i hi=>?_)
      have:=h (i + 1) (by simpa using hi)
      rw [show n + 1 + i=n + (i + 1) by omega,this]
      simp
  have h:=this (all.toList.take m) 0 (fun i hi=>by
    rw [List.length_take] at hi
    rw [List.getElem?_take,if_pos (by omega)];simp)
  have hl:(all.toList.take m).length=m:=by rw [List.length_take,Array.length_toList];omega
  rw [hl] at h
  rw [List.range_eq_range']
  exact h
theorem Sim.putN {x:Ctx} {env:Env} {H:Heap} {φ:List (Nat × Nat)} {a:Act} {w:World} (h:Sim x N ⟨env,H⟩ φ a w) {dst:Option Nat} (hd:∀ t,dst=some t→t < N) (v:Value):Sim x N ⟨updO env dst (.d .undef),H⟩ φ (a.put dst v) w:=by
  cases dst with
  | none=>exact h
  | some t=>exact h.put (hd t rfl) (by simp [VS,DS])
theorem Wt_call (C:Cfg P) (hN:C.N=N) {rid:Nat} {ops:Array Oper} (m:Nat) {dst:Option Nat} {f:FuncId} (t1 t2:Nat) {ats:Array TypeId} {ty:TypeId} {pos:String} {aft:Array Edge} (K:List Nat) {Q0:Exit→St→Prop} {Q:Exit→St→κ→Prop} {s:St} {k:κ}
    (ho:ops[m]? = some ⟨dst,.call ⟨.value (.func f),#[.tmp t1,.tmp t2],ats⟩,ty,pos,aft,none⟩) (hm:ops.size=m + 1)
    (hok:(ops.toList.take m).all (opOk C.N)=true) (hgs:(ops.toList.take m).all (fun o=>o.guard.isNone)=true) (hd:∀ t,dst=some t→t < C.N)
    (h:den C [.code (.ops (stripOps (ops.toList.take m)))] Q0 .normal s)
    (hq:∀ s',Q0 .normal s'→∃ str k',s'.env t1=.ptr id 2 0 0∧s'.env t2=.d (.str str)∧s'.H[id]? = some .dead∧ThCall Θ P b f str k k'∧Q .normal ⟨keep K (updO s'.env dst (.d .undef)),s'.H⟩ k'):Wt Θ P w0 id b N (.region rid ops false) Q s k:=by
  subst hN
  intro x φ a w hs
  refine wp_region ?_
  rw [hm,List.range_succ]
  refine opsD_wp2 (tabG_good C.l) (ops.toList.take m) (List.range m) s.env s.H φ a w (idx_take ops m (by omega)) hok hgs hs.sim.rebase (den_opsD h) ?_
  intro env H φ' a' w' hk hs'
  obtain ⟨str,k',e1,e2,e3,⟨hen,hc⟩,e5⟩:=hq _ hk
  have hs2:=hs.step (hs'.keep C.K) e3
  obtain ⟨U,t,hU⟩:=hs2.th
  have v1:=hs2.sim.env t1
  have v2:=hs2.sim.env t2
  rw [e1] at v1
  rw [e2] at v2
  obtain ⟨g,o,p1,p2⟩:=v1
  rw [hs2.phi] at p1
  obtain ⟨rfl,rfl⟩:=Prod.mk.inj (Option.some.inj p1)
  have v2:a'.tmps.getD t2 Go.undef=.string str:=v2
  simp only [Nat.zero_mul,Nat.add_zero] at p2
  have hw:Region.wanted (⟨dst,.call ⟨.value (.func f),#[.tmp t1,.tmp t2],ats⟩,ty,pos,aft,none⟩:Oper) (yielded ops a'.tmps)=true:=by simp [Region.wanted]
  simp only [wpOps,ho]
  rw [if_pos hw]
  refine .inl ?_
  unfold Oper.wp
  have hr:(execOp a'.eval (⟨dst,.call ⟨.value (.func f),#[.tmp t1,.tmp t2],ats⟩,ty,pos,aft,none⟩:Oper)).run P w'=.ok (.enter f #[.pointer (some ⟨b,0,none⟩),.string str]) w':=by
    have:=run_callFunc (w:=w') hen #[a'.tmps.getD t1 Go.undef,a'.tmps.getD t2 Go.undef]
    rw [p2,v2] at this
    simp [execOp,resolve,Deferred.ofValue,Act.eval,invoke,p2,v2]
    exact this
  rw [hr]
  refine (hc w' U t).mono ?_
  rintro e w2 ⟨⟨v,rfl⟩,U',t',hn,h1,h2,h3,h4,h5,h6⟩
  have hs3:=hs2.turn hU t' hn h1 h2 h3 h4 h5 h6
  exact ⟨_,_,φ',k',e5,(hs3.sim.putN hd v).keep K,hs3.th,hs3.phi,e3,hs3.below,hs3.own⟩
theorem idx_drop (all:Array Oper) (m:Nat):Idx all (List.range' m (all.size - m)) (all.toList.drop m):=by
  have:∀ (l:List Oper) (n:Nat),(∀ i,i < l.length→all[n + i]? = l[i]?)→Idx all (List.range' n l.length) l:=by
    intro l
    induction l with
    | nil=>intro n _;exact .nil
    | cons o l ih =>
      intro n h
      rw [List.length_cons,List.range'_succ]
      refine .cons (by have:=h 0 (by simp);simpa using this) (ih (n + 1) fun i hi=>?_)
      have:=h (i + 1) (by simpa using hi)
      rw [show n + 1 + i=n + (i + 1) by omega,this]
      simp
  have h:=this (all.toList.drop m) m (fun i hi=>by rw [List.getElem?_drop];simp)
  have hl:(all.toList.drop m).length=all.size - m:=by rw [List.length_drop,Array.length_toList]
  rwa [hl] at h
def ThText (Θ:Thing κ) (P:Program) (b:Nat) (f:FuncId) (str:ByteArray) (k k':κ):Prop :=
  enters P f=true∧∀ (w:World) (U:Nat→Prop),Θ.at_ w k U→Calls P f #[.pointer (some ⟨b,0,none⟩)] w fun e w'=>e=.returned (.string str)∧∃ U',Θ.at_ w' k' U'∧(∀ g,U' g→U g∨w.heap.size≤g) ∧
    w'.os=w.os∧w'.tape=w.tape∧w'.output=w.output∧w.heap.size≤w'.heap.size∧(∀ g,g < w.heap.size→¬ U g→w'.heap[g]? = w.heap[g]?)∧Sizes w w'
theorem Wt_text (C:Cfg P) (hN:C.N=N) {rid:Nat} {ops:Array Oper} {d:Nat} {f:FuncId} (t1:Nat) {ats:Array TypeId} {ty:TypeId} {pos:String} {aft:Array Edge} {Q:Exit→St→κ→Prop} {Q1:Exit→St→Prop} {s:St} {k k':κ} {str:ByteArray}
    (ho:ops[0]? = some ⟨some d,.call ⟨.value (.func f),#[.tmp t1],ats⟩,ty,pos,aft,none⟩)
    (hok:(ops.toList.drop 1).all (opOk C.N)=true) (hgs:(ops.toList.drop 1).all (fun o=>o.guard.isNone)=true) (hd:d < C.N)
    (he:s.env t1=.ptr id 2 0 0) (hc:ThText Θ P b f str k k')
    (h:den C [.code (.ops (stripOps (ops.toList.drop 1)))] Q1 .normal ⟨upd s.env d (.d (.str str)),s.H⟩) (hq:∀ s',Q1 .normal s'→s'.H[id]? = some .dead∧Q .normal s' k'):Wt Θ P w0 id b N (.region rid ops false) Q s k:=by
  subst hN
  intro x φ a w hs
  refine wp_region ?_
  have h0:0 < ops.size:=(Array.getElem?_eq_some_iff.1 ho).1
  have hr:List.range ops.size=0 :: (List.range' 1 (ops.size - 1)++[]):=by
    rw [List.range_eq_range',List.append_nil]
    cases hz:ops.size with
    | zero=>omega
    | succ n=>rw [List.range'_succ];simp
  rw [hr]
  obtain ⟨U,t,hU⟩:=hs.th
  have v1:=hs.sim.env t1
  rw [he] at v1
  obtain ⟨g,o,p1,p2⟩:=v1
  rw [hs.phi] at p1
  obtain ⟨rfl,rfl⟩:=Prod.mk.inj (Option.some.inj p1)
  simp only [Nat.zero_mul,Nat.add_zero] at p2
  have hw:Region.wanted (⟨some d,.call ⟨.value (.func f),#[.tmp t1],ats⟩,ty,pos,aft,none⟩:Oper) (yielded ops a.tmps)=true:=by simp [Region.wanted]
  simp only [wpOps,ho]
  rw [if_pos hw]
  refine .inl ?_
  unfold Oper.wp
  obtain ⟨hen,hc⟩:=hc
  have hr:(execOp a.eval (⟨some d,.call ⟨.value (.func f),#[.tmp t1],ats⟩,ty,pos,aft,none⟩:Oper)).run P w=.ok (.enter f #[.pointer (some ⟨b,0,none⟩)]) w:=by
    have:=run_callFunc (w:=w) hen #[a.tmps.getD t1 Go.undef]
    rw [p2] at this
    simp [execOp,resolve,Deferred.ofValue,Act.eval,invoke,p2]
    exact this
  rw [hr]
  refine (hc w U t).mono ?_
  rintro e w2 ⟨rfl,U',t',hn,h1,h2,h3,h4,h5,h6⟩
  have hs3:=hs.turn hU t' hn h1 h2 h3 h4 h5 h6
  have hs4:SimT Θ w0 id b _ C.N ⟨upd s.env d (.d (.str str)),s.H⟩ φ (a.put (some d) (.string str)) w2 k':=⟨hs3.sim.put hd (by simp [VS,DS]),hs3.th,hs3.phi,hs3.dead,hs3.below,hs3.own⟩
  refine opsD_wp2 (is2:=[]) (tabG_good C.l) (ops.toList.drop 1) (List.range' 1 (ops.size - 1)) _ _ φ _ _ (idx_drop ops 1) hok hgs hs4.sim.rebase (den_opsD h) ?_
  intro env H φ' a' w' hk hs'
  obtain ⟨q1,q2⟩:=hq _ hk
  exact ⟨_,_,φ',k',q2,hs4.step (hs'.keep C.K) q1⟩
end
end Go.Proofs.YtcgekblpbheikaaGreatDoor
